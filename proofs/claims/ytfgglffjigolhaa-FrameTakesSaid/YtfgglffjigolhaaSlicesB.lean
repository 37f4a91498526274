/- slices.Grow, Concat, IndexFunc, ContainsFunc at bytes. -/
import Derived.Test.YtfgglffjigolhaaBytes
import Derived.Lib.AppendZeros
namespace Go.Proofs.Ytfgglffjigolhaa
open Go.RowKit

/-- A slice of slices of bytes. -/
def Bss (w : World) (v : Value) (Ls : List (List UInt8)) : Prop :=
  ∃ A c, v = .slice A Ls.length c ∧ Ls.length ≤ c ∧ ∀ i (h : i < Ls.length), ∃ g off u, A = some ⟨g, off, none⟩ ∧ w.cell? ⟨g, off + i, none⟩ = some u ∧ Bs w u Ls[i]
theorem Bss.below {w w' : World} {v : Value} {Ls : List (List UInt8)} (h : Bss w v Ls) (hE : Below w.heap.size w w') : Bss w' v Ls := by
  obtain ⟨A, c, rfl, hle, hc⟩ := h
  refine ⟨A, c, rfl, hle, fun i hi => ?_⟩
  obtain ⟨g, off, u, rfl, h1, h2⟩ := hc i hi
  exact ⟨g, off, u, rfl, (hE.cell (p := ⟨g, off + i, none⟩) (World.block_lt_of_cell? w _ h1)).trans h1, h2.below hE⟩

theorem Bss.made2 {w : World} {u1 u2 : Value} {L1 L2 : List UInt8} (h1 : Bs w u1 L1) (h2 : Bs w u2 L2) (t : TypeId) : Bss (w.alloc (.cells #[u1, u2] t)) (.slice (some ⟨w.heap.size, 0, none⟩) 2 2) [L1, L2] := by
  refine ⟨_, _, rfl, Nat.le_refl _, fun i hi => ?_⟩
  have hc : ∀ j, (w.alloc (.cells #[u1, u2] t)).cell? ⟨w.heap.size, j, none⟩ = #[u1, u2][j]? := fun j => cell_of (heap_alloc_new w _) j
  match i, hi with
  | 0, _ => exact ⟨_, 0, u1, rfl, hc 0, h1.alloc _⟩
  | 1, _ => exact ⟨_, 0, u2, rfl, hc 1, h2.alloc _⟩
theorem Bss.made3 {w : World} {u1 u2 u3 : Value} {L1 L2 L3 : List UInt8} (h1 : Bs w u1 L1) (h2 : Bs w u2 L2) (h3 : Bs w u3 L3) (t : TypeId) : Bss (w.alloc (.cells #[u1, u2, u3] t)) (.slice (some ⟨w.heap.size, 0, none⟩) 3 3) [L1, L2, L3] := by
  refine ⟨_, _, rfl, Nat.le_refl _, fun i hi => ?_⟩
  have hc : ∀ j, (w.alloc (.cells #[u1, u2, u3] t)).cell? ⟨w.heap.size, j, none⟩ = #[u1, u2, u3][j]? := fun j => cell_of (heap_alloc_new w _) j
  match i, hi with
  | 0, _ => exact ⟨_, 0, u1, rfl, hc 0, h1.alloc _⟩
  | 1, _ => exact ⟨_, 0, u2, rfl, hc 1, h2.alloc _⟩
  | 2, _ => exact ⟨_, 0, u3, rfl, hc 2, h3.alloc _⟩
theorem Bss.made2g {w : World} {u1 u2 : Value} {L1 L2 : List UInt8} (t : TypeId) {g : Nat} (hg : g = w.heap.size) (h1 : Bs w u1 L1) (h2 : Bs w u2 L2) : Bss (w.alloc (.cells #[u1, u2] t)) (.slice (some ⟨g, 0, none⟩) 2 2) [L1, L2] := by subst hg; exact Bss.made2 h1 h2 t
theorem Bss.made3g {w : World} {u1 u2 u3 : Value} {L1 L2 L3 : List UInt8} (t : TypeId) {g : Nat} (hg : g = w.heap.size) (h1 : Bs w u1 L1) (h2 : Bs w u2 L2) (h3 : Bs w u3 L3) : Bss (w.alloc (.cells #[u1, u2, u3] t)) (.slice (some ⟨g, 0, none⟩) 3 3) [L1, L2, L3] := by subst hg; exact Bss.made3 h1 h2 h3 t
theorem Bss.alloc {w : World} {v : Value} {Ls : List (List UInt8)} (h : Bss w v Ls) (o : Obj) : Bss (w.alloc o) v Ls := h.below ((Below.refl _ _).alloc (Nat.le_refl _) o)
theorem Bss.drew {w : World} {v : Value} {Ls : List (List UInt8)} (h : Bss w v Ls) : Bss w.drew v Ls := h
theorem Bss.drewN {w : World} {v : Value} {Ls : List (List UInt8)} (h : Bss w v Ls) (n : Nat) : Bss (w.drewN n) v Ls := h
theorem grow_zero (w : World) : Calls Try.prog 103 #[.slice none 0 0, .int .i64 0] w fun e w' => e = .returned (.slice none 0 0) ∧ w = w' := by
  go_enter Try.func103, Try.ntmps103
  go_wp2
  go_ret
  exact ⟨rfl, rfl⟩
set_option maxRecDepth 100000 in
set_option maxHeartbeats 400000 in
theorem grow_some (n : Nat) (w : World) (h0 : 0 < n) (hn : n ≤ 140737488355328) :
    Calls Try.prog 103 #[.slice none 0 0, .int .i64 n] w fun e w' => ∃ v, e = .returned v ∧ OwnB w' w.heap.size v [] ∧ Below w.heap.size w w' := by
  obtain ⟨i0, hi0, hz0, hz1, hz2⟩ := info_parts info_u8
  have hrun := Lib.run_append_nil_zeros (P := Try.prog) w 30 3 30 5 i0 _ .i64 .i64 Try.underlying30 Try.underlying3 hi0 hz0 n h0 (by rw [hz1]; decide) (by omega) (by rw [hz2]; omega)
  obtain ⟨c, hc⟩ : ∃ c, c = grownCap w n 0 5 := ⟨_, rfl⟩
  have hge : n ≤ c := by rw [hc]; exact grownCap_ge w n 0 _
  have hmx : c ≤ maxLen := by rw [hc]; exact grownCap_le_maxLen w n 0 _ (by simp only [maxLen]; omega)
  rw [← hc] at hrun
  obtain ⟨cs, hcs⟩ : ∃ cs, cs = Builtin.zeroCells (Value.cells (.int .u8 0)) n ++ Builtin.zeroCells (Value.cells (.int .u8 0)) (c - n) := ⟨_, rfl⟩
  rw [← hcs] at hrun
  have hsz : cs.size = c := by rw [hcs, Array.size_append, size_zeroCells, size_zeroCells]; show n * 1 + (c - n) * 1 = c; omega
  have HR := Lib.hid hrun
  have HC := Lib.hid hc
  have HS := Lib.hid hsz
  have HX := Lib.hid hcs
  have hmx' : c ≤ 9223372036854775807 := hmx
  clear hrun hc hsz hcs hmx hz0 hz1 hz2 hi0
  go_enter Try.func103, Try.ntmps103
  go_wp2_with (at_builtin; refine Lib.wpList_append_run _ rfl _ _ _ _ rfl _ _ rfl rfl _ _ HR.out ?_)
  go_ret
  refine ⟨_, rfl, ⟨rfl, .inr ⟨w.heap.size, c, cs, rfl, Nat.le_refl _, heap_alloc_new w.drew _, Nat.zero_le _, hmx', by rw [HS.out]; omega, rfl⟩⟩, ((Below.refl _ _).drew).alloc (Nat.le_refl _) _⟩
theorem grow_any (n : Nat) (w : World) (hn : n ≤ 140737488355328) :
    Calls Try.prog 103 #[.slice none 0 0, .int .i64 n] w fun e w' => ∃ v, e = .returned v ∧ OwnB w' w.heap.size v [] ∧ Below w.heap.size w w' := by
  by_cases h0 : n = 0
  · subst h0
    exact (grow_zero w).mono fun e w' ⟨he, hw⟩ => ⟨_, he, World.ownsRow_nil _ _ _ _, hw ▸ Below.refl _ _⟩
  · exact grow_some n w (by omega) hn

def lenAll (Ls : List (List UInt8)) : Nat := (Ls.map List.length).sum
theorem lenAll_succ {Ls : List (List UInt8)} {j : Nat} (h : j < Ls.length) : lenAll (Ls.take (j + 1)) = lenAll (Ls.take j) + Ls[j].length := by
  unfold lenAll; rw [List.take_succ_eq_append_getElem h, List.map_append, List.sum_append]; rfl
theorem lenAll_le (Ls : List (List UInt8)) (j : Nat) : lenAll (Ls.take j) ≤ lenAll Ls := by
  unfold lenAll
  conv => rhs; rw [← List.take_append_drop j Ls]
  rw [List.map_append, List.sum_append]; omega
theorem flatten_succ {Ls : List (List UInt8)} {j : Nat} (h : j < Ls.length) : (Ls.take (j + 1)).flatten = (Ls.take j).flatten ++ Ls[j] := by
  rw [List.take_succ_eq_append_getElem h, List.flatten_append]; simp only [List.flatten_cons, List.flatten_nil, List.append_nil]
theorem flatten_len (Ls : List (List UInt8)) : Ls.flatten.length = lenAll Ls := by simp [lenAll, List.length_flatten]

set_option maxRecDepth 100000 in
set_option maxHeartbeats 800000 in
theorem concat_any (v : Value) (Ls : List (List UInt8)) (w : World) (h : Bss w v Ls) (hl : lenAll Ls ≤ 140737488355328) (hn : Ls.length ≤ 140737488355328) :
    Calls Try.prog 70 #[v] w fun e w' => ∃ v, e = .returned v ∧ OwnB w' w.heap.size v Ls.flatten ∧ Below w.heap.size w w' := by
  obtain ⟨A, c, rfl, hle, hc⟩ := h
  have HC := Lib.hid hc
  clear hc
  go_enter Try.func70, Try.ntmps70
  go_wp2_with fail
  go_loop [3, 11] (fun s i => ∃ j : Nat, j ≤ Ls.length ∧ i = .int .i64 j ∧ s = .int .i64 (lenAll (Ls.take j))) (fun _ i => Ls.length - (intOf i).toNat)
  case atStart => exact ⟨0, Nat.zero_le _, rfl, rfl⟩
  case round =>
    obtain ⟨j, hj, rfl, rfl⟩ := hrel
    by_cases hlt : j < Ls.length
    · obtain ⟨g, off, u, rfl, hcell, hbs⟩ := HC.out j hlt
      obtain ⟨A2, c2, rfl, hnc, hb2⟩ := hbs.form rfl
      have hs := lenAll_succ hlt
      have hs2 := lenAll_le Ls (j + 1)
      rw [hs] at hs2
      have HB := Lib.hid hb2
      have HS := Lib.hid hs
      clear hb2 hs hbs
      go_wp2_with fail
      go_round
      case rel => exact ⟨j + 1, by omega, by go_num, by rw [HS.out]; go_num⟩
      case measure => simp [intOf]; omega
    · obtain rfl : j = Ls.length := by omega
      obtain ⟨tot, htot⟩ : ∃ tot, tot = lenAll (Ls.take Ls.length) := ⟨_, rfl⟩
      have ht2 : tot ≤ 140737488355328 := by rw [htot, List.take_length]; exact hl
      rw [← htot]
      have HT := Lib.hid htot
      clear htot
      go_wp2_with (go_at_call 103; go_must (refine (grow_any tot _ ht2).mono ?_); rintro e w1 ⟨v1, rfl, hO, hB⟩; have HO := Lib.hid hO; have HB := Lib.hid hB; clear hO hB)
      go_loopw [6, 27] (fun v i wr => ∃ j : Nat, j ≤ Ls.length ∧ i = .int .i64 j ∧ OwnB wr w.heap.size v (Ls.take j).flatten ∧ Below w.heap.size w wr) (fun _ i _ => Ls.length - (intOf i).toNat)
      case atStart => exact ⟨0, Nat.zero_le _, rfl, HO.out, HB.out⟩
      case round =>
        obtain ⟨j, hj, rfl, hO2, hB2⟩ := hrel
        by_cases hlt2 : j < Ls.length
        · obtain ⟨g, off, u, rfl, hcell, hbs⟩ := HC.out j hlt2
          have hcell2 := (hB2.cell (p := ⟨g, off + j, none⟩) (World.block_lt_of_cell? w _ hcell)).trans hcell
          have hfl := flatten_succ hlt2
          have hll := lenAll_succ hlt2
          have hll2 := lenAll_le Ls (j + 1)
          have hfn := flatten_len (Ls.take j)
          have hlen : (Ls.take j).flatten.length + Ls[j].length ≤ 140737488355328 := by omega
          have HBS := Lib.hid (hbs.below hB2)
          have HO2 := Lib.hid hO2
          have HB2 := Lib.hid hB2
          have HFL := Lib.hid hfl
          have HLEN := Lib.hid hlen
          clear hO2 hB2 hfl hll hll2 hbs hcell hlen hfn
          go_wp2_with (at_builtin; refine wpList_append_bytes rfl (.tmp 31) (.tmp 32) rfl w.heap.size u6 u (Ls.take j).flatten Ls[j] rfl HO2.out rfl HBS.out HLEN.out HB2.out.size ?_; intro v' w1 hown1 hgrow1)
          go_roundw
          case rel => exact ⟨j + 1, by omega, by go_num, by rw [HFL.out]; exact hown1, HB2.out.grown hgrow1 HB2.out.size (fun b hb => (HO2.out.lt b hb).1)⟩
          case measure => simp [intOf]; omega
        · obtain rfl : j = Ls.length := by omega
          have HO2 := Lib.hid hO2
          have HB2 := Lib.hid hB2
          clear hO2 hB2
          go_wp2_with fail
          go_ret
          exact ⟨_, rfl, by rw [← (List.take_length (l := Ls))]; exact HO2.out, HB2.out⟩

/-- What IndexFunc tells. -/
def IndexTells (L : List UInt8) (p : UInt8 → Bool) (e : Ending) : Prop := ∃ r : Int, e = .returned (.int .i64 r) ∧ (0 ≤ r ↔ L.any p = true) ∧ -1 ≤ r ∧ r ≤ L.length
set_option maxHeartbeats 800000 in
/-- .. over a function that looks at one byte. -/
theorem index_bytes1 (v : Value) (L : List UInt8) (p : UInt8 → Bool) (w : World) (hB : Bs w v L) (hl : L.length ≤ 140737488355328)
    (hp : ∀ x W, Calls Try.prog 68 #[bv x] W fun e w' => e = .returned (.bool (p x)) ∧ W = w') :
    Calls Try.prog 102 #[v, .func (.func 68) #[] #[]] w fun e w' => IndexTells L p e ∧ w = w' := by
  obtain ⟨A, c, rfl, hle, hb⟩ := hB.form rfl
  have HB := Lib.hid hb
  have HP := Lib.hid hp
  clear hb hp hB
  go_enter Try.func102, Try.ntmps102
  go_wp2_with fail
  go_loop [8] (fun i => ∃ j : Nat, j ≤ L.length ∧ i = .int .i64 j ∧ (L.take j).any p = false) (fun i => L.length - (intOf i).toNat)
  case atStart => exact ⟨0, Nat.zero_le _, rfl, rfl⟩
  case round =>
    obtain ⟨j, hj, rfl, hno⟩ := hrel
    by_cases hlt : j < L.length
    · obtain ⟨g, off, rfl, _, hcell⟩ := HB.out.at_ hlt
      obtain ⟨x, hx⟩ : ∃ x, x = L[j] := ⟨_, rfl⟩
      rw [← hx] at hcell
      have hsn : L.take (j + 1) = L.take j ++ [x] := by rw [List.take_succ_eq_append_getElem hlt, hx]
      have HN := Lib.hid hno
      have HX := Lib.hid hx
      have HS := Lib.hid hsn
      clear hno hx hsn
      by_cases hpx : p x = true
      · have HPX := Lib.hid hpx
        go_wp2_with (go_at_call 68; go_must (refine (HP.out x _).mono ?_); rintro e w' ⟨rfl, rfl⟩; rw [HPX.out])
        go_ret
        refine ⟨⟨j, rfl, ⟨fun _ => ?_, fun _ => by omega⟩, by omega, by omega⟩, rfl⟩
        rw [List.any_eq_true]
        exact ⟨x, by rw [HX.out]; exact List.getElem_mem _, HPX.out⟩
      · have hpx' : p x = false := by simpa using hpx
        have HPX := Lib.hid hpx'
        clear hpx hpx'
        go_wp2_with (go_at_call 68; go_must (refine (HP.out x _).mono ?_); rintro e w' ⟨rfl, rfl⟩; rw [HPX.out])
        go_round
        case rel => exact ⟨j + 1, by omega, by go_num, by rw [HS.out, List.any_append, HN.out]; simp [HPX.out]⟩
        case measure => simp [intOf]; omega
    · obtain rfl : j = L.length := by omega
      have HN := Lib.hid hno
      clear hno
      go_wp2_with fail
      go_ret
      refine ⟨⟨-1, rfl, ⟨fun h => by omega, fun h => ?_⟩, by omega, by omega⟩, rfl⟩
      have := HN.out
      rw [List.take_length] at this
      rw [this] at h
      cases h
theorem contains_bytes1 (v : Value) (L : List UInt8) (p : UInt8 → Bool) (w : World) (hB : Bs w v L) (hl : L.length ≤ 140737488355328)
    (hp : ∀ x W, Calls Try.prog 68 #[bv x] W fun e w' => e = .returned (.bool (p x)) ∧ W = w') :
    Calls Try.prog 67 #[v, .func (.func 68) #[] #[]] w fun e w' => e = .returned (.bool (L.any p)) ∧ w = w' := by
  have hi := index_bytes1 v L p w hB hl hp
  have HI := Lib.hid hi
  clear hi hB hp
  go_enter Try.func67, Try.ntmps67
  go_wp2_with (go_at_call 102; go_must (refine HI.out.mono ?_); rintro e w' ⟨⟨r, rfl, h1, h2, h3⟩, rfl⟩; have H1 := Lib.hid h1; clear h1)
  go_ret
  exact ⟨ret_bool (by rw [Bool.eq_iff_iff, ← H1.out]; simp), rfl⟩
end Go.Proofs.Ytfgglffjigolhaa
