/- The ring: Peek. -/
import Derived.Test.YtfgglffjigolhaaRingB
namespace Go.Proofs.Ytfgglffjigolhaa
open Go.RowKit

set_option maxRecDepth 100000 in
set_option maxHeartbeats 800000 in
theorem ring_peek (g : Nat) (size : Nat) (L : List UInt8) (lost : Int) (i : Int) (k : Nat) (w : World) (h : IsRing w g size L lost) (hk : (k : Int) = max 0 (min i L.length)) :
    Calls Try.prog 28 #[.pointer (some ⟨g, 0, none⟩), .int .i64 i] w fun e w' => ∃ v, e = .returned v ∧ OwnB w' w.heap.size v (L.take k) ∧ Below w.heap.size w w' := by
  obtain ⟨b, first, hc, h1, h2, h3, h4, h5⟩ := h.open_
  obtain ⟨i0, hi0, hz0, hz1, hz2⟩ := info_parts info_u8
  have hn := hc.n
  have hs := hc.size
  have hf := hc.first
  have hplace := fun (j : Nat) (hj : j ≤ 4096) W a b => ring_place_cell g j size first W a b hj h3 h1 h2
  obtain ⟨n, hln⟩ : ∃ n, n = L.length := ⟨_, rfl⟩
  rw [← hln] at hn hk h4
  obtain ⟨z, hz⟩ : ∃ z : Int, (if (n : Int) < i then (n : Int) else i) = z := ⟨_, rfl⟩
  have hz' : (if 0 < z then z else 0) = (k : Int) := by rw [← hz]; split <;> split <;> omega
  have hkn : k ≤ n := by omega
  have HK := Lib.hid hk
  have H := Lib.hid h
  have HC := Lib.hid hc
  have H5 := Lib.hid h5
  have HN := Lib.hid hln
  have HP := Lib.hid hplace
  clear hk h hc h5 hln hplace
  go_enter Try.func28, Try.ntmps28
  go_wp2_with (go_at_call 31; refine (ring_len_cell _ _ _ hn).mono ?_; rintro e w' ⟨rfl, rfl⟩)
  clear hz hz'
  go_loopw [5, 12] (fun v i wr => ∃ j : Nat, j ≤ k ∧ i = .int .i64 j ∧ OwnB wr w.heap.size v (L.take j) ∧ Below w.heap.size w wr) (fun _ i _ => k - (intOf i).toNat)
  case atStart => exact ⟨0, Nat.zero_le _, rfl, World.ownsRow_nil _ _ _ _, Below.refl _ _⟩
  case round =>
    obtain ⟨j, hj, rfl, hown, hB⟩ := hrel
    have HO := Lib.hid hown
    have HB := Lib.hid hB
    by_cases hlt : j < k
    · have hq : (first + j) % size < size := Nat.mod_lt _ (by omega)
      have hpl := HP.out j (by omega)
      obtain ⟨q, hqq⟩ : ∃ q, q = (first + j) % size := ⟨_, rfl⟩
      rw [← hqq] at hq
      simp only [← hqq] at hpl
      have hv : b.getD q 0 = L.getD j 0 := by rw [hqq]; exact H5.out j (by rw [← HN.out]; omega)
      obtain ⟨x, hx⟩ : ∃ x, x = L.getD j 0 := ⟨_, rfl⟩
      have hcell := HC.out.byte (show q < 4096 by omega)
      rw [hv, ← hx] at hcell
      have hcell' : wr.cell? ⟨g, q, none⟩ = some (bv x) := (hB.cell (p := ⟨g, q, none⟩) H.out.lt).trans hcell
      have hs' : wr.cell? ⟨g, 4096, none⟩ = some (.int .i64 size) := (hB.cell (p := ⟨g, 4096, none⟩) H.out.lt).trans hs
      have hf' : wr.cell? ⟨g, 4097, none⟩ = some (.int .i64 first) := (hB.cell (p := ⟨g, 4097, none⟩) H.out.lt).trans hf
      have hsn : L.take (j + 1) = L.take j ++ [x] := by
        have : j < L.length := by rw [← HN.out]; omega
        rw [List.take_succ_eq_append_getElem this, hx]
        simp [List.getD, List.getElem?_eq_getElem this]
      have q1 : (q : Int) < 4096 := by omega
      have HS := Lib.hid hsn
      have HQ := Lib.hid hqq
      have HX := Lib.hid hx
      have HPL := Lib.hid hpl
      clear hown hB hsn hqq hpl hcell hv hx
      go_wp2_with fail
      have hbw := HB.out.size
      have hjl : (L.take j).length ≤ 4096 := by rw [List.length_take]; omega
      have hgn : some g ≠ u5.ownBlock := fun e => by have := (HO.out.lt g e.symm).1; have := H.out.lt; omega
      have HGN := Lib.hid hgn
      clear hgn
      go_region_held3 (fun w' => w'.cell? ⟨g, 4096, none⟩ = some (.int .i64 size) ∧ w'.cell? ⟨g, 4097, none⟩ = some (.int .i64 first) ∧ w'.cell? ⟨g, q, none⟩ = some (bv x))
        (first | go_keep | (exact ⟨hgrow1.cell (by simp [*]) HGN.out, hgrow1.cell (by simp [*]) HGN.out, hgrow1.cell (by simp [*]) HGN.out⟩))
        (first | (go_at_call 63; refine (HPL.out _ (by simp [*]) (by simp [*])).mono ?_; rintro e w' ⟨rfl, nq, rfl⟩) | (refine step_append_byte rfl (.tmp 15) (.tmp 24) rfl w.heap.size u5 (L.take j) rfl (HO.out.alloc _) wr.heap.size x rfl (cell_newD _ _ _ _) (by omega) (by simp; omega) ?_; intro v' w1 hown1 hgrow1))
      go_wp2_with fail
      go_roundw
      case rel =>
        exact ⟨j + 1, by omega, by go_num, by rw [HS.out]; exact hown1,
          ((below_drewN HB.out _).alloc HB.out.size _).grown hgrow1 (by simp; omega) (fun b hb => (HO.out.lt b hb).1)⟩
      case measure => simp [intOf]; omega
    · have hjk : j = k := by omega
      have HJ := Lib.hid hjk
      clear hown hB hjk
      go_wp2_with fail
      go_ret
      exact ⟨u5, rfl, by rw [← HJ.out]; exact HO.out, HB.out⟩

end Go.Proofs.Ytfgglffjigolhaa
