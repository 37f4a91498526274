/- Frames: the reader's parts. -/
import Derived.Test.YtfgglffjigolhaaRingC
import Derived.Test.YtfgglffjigolhaaSums
namespace Go.Proofs.Ytfgglffjigolhaa
open Go.RowKit

def isBodyB (b : UInt8) : Bool := decide (32 ≤ b.toNat) && decide (b.toNat ≤ 126) && decide (b.toNat ≠ 36) && decide (b.toNat ≠ 42)
theorem isBody_any (b : UInt8) (w : World) : Calls Try.prog 69 #[bv b] w fun e w' => e = .returned (.bool (isBodyB b)) ∧ w = w' := by
  go_enter Try.func69, Try.ntmps69
  go_wp2
  all_goals (go_ret; exact ⟨ret_bool (by rw [Bool.eq_iff_iff]; simp [isBodyB]; omega), rfl⟩)

theorem byte_yes (g size : Nat) (L : List UInt8) (lost : Int) (k : Nat) (i : Int) (x : UInt8) (w : World) (hi : i = k) (h : IsRing w g size L lost) (hk : L[k]? = some x) :
    Calls Try.prog 124 #[.agg #[.pointer (some ⟨g, 0, none⟩)], .int .i64 i] w fun e w' => e = .returned (.tuple #[bv x, .bool true]) ∧ Below w.heap.size w w' := by
  subst hi
  have hkl := (List.getElem?_eq_some_iff.1 hk).1
  have hat : atOf L k = .tuple #[bv x, .bool true] := by unfold atOf; rw [if_pos (by omega)]; simp [List.getD, hk]
  have H := Lib.hid (h.alloc (.cells #[.pointer (some ⟨g, 0, none⟩)] 181))
  have HA := Lib.hid hat
  clear h hat hk
  go_enter Try.func124, Try.ntmps124
  go_wp2_with (go_at_call 99; refine (ring_at g size L lost k _ H.out).mono ?_; rintro e w' ⟨rfl, d, rfl⟩; rw [HA.out])
  go_ret2
  exact ⟨rfl, below_drewN ((Below.refl _ _).alloc (Nat.le_refl _) _) _⟩
theorem byte_no (g size : Nat) (L : List UInt8) (lost : Int) (k : Nat) (i : Int) (w : World) (hi : i = k) (h : IsRing w g size L lost) (hk : L.length ≤ k) :
    Calls Try.prog 124 #[.agg #[.pointer (some ⟨g, 0, none⟩)], .int .i64 i] w fun e w' => e = .returned (.tuple #[.int .u8 0, .bool false]) ∧ Below w.heap.size w w' := by
  subst hi
  have hat : atOf L k = .tuple #[.int .u8 0, .bool false] := by unfold atOf; rw [if_neg (by omega)]
  have H := Lib.hid (h.alloc (.cells #[.pointer (some ⟨g, 0, none⟩)] 181))
  have HA := Lib.hid hat
  clear h hat
  go_enter Try.func124, Try.ntmps124
  go_wp2_with (go_at_call 99; refine (ring_at g size L lost k _ H.out).mono ?_; rintro e w' ⟨rfl, d, rfl⟩; rw [HA.out])
  go_ret2
  exact ⟨rfl, below_drewN ((Below.refl _ _).alloc (Nat.le_refl _) _) _⟩
theorem some_any (g size : Nat) (L : List UInt8) (lost : Int) (a b : Nat) (i j : Int) (w : World) (hi : i = a) (hj : j = b) (h : IsRing w g size L lost) (hab : a ≤ b) (hb : b ≤ L.length) :
    Calls Try.prog 125 #[.agg #[.pointer (some ⟨g, 0, none⟩)], .int .i64 i, .int .i64 j] w fun e w' => ∃ v, e = .returned v ∧ Bs w' v ((L.take b).drop a) ∧ Below w.heap.size w w' ∧ (∀ k, v.ownBlock = some k → w.heap.size ≤ k) := by
  subst hi hj
  have hlb : (L.take b).length = b := by rw [List.length_take]; omega
  have H := Lib.hid (h.alloc (.cells #[.pointer (some ⟨g, 0, none⟩)] 181))
  have HL := Lib.hid hlb
  clear h hlb
  go_enter Try.func125, Try.ntmps125
  go_wp2_with (go_at_call 28; go_must (refine (ring_peek g size L lost b b _ H.out (by omega)).mono ?_); rintro e w1 ⟨v, rfl, hO, hB⟩; have hlt := hO.lt; obtain ⟨A, c, rfl, hbc, hbs⟩ := hO.bs.form HL.out; obtain ⟨A', hA, hcut, hob⟩ := hbs.cut (k := a) (by rw [HL.out]; exact hab); have HS := Lib.hid hcut; have HB := Lib.hid hB; have HLT := Lib.hid hlt; have HAA := Lib.hid hob; clear hO hB hbs hlt hcut hob)
  go_ret
  refine ⟨_, rfl, HS.out, Below.trans ((Below.refl _ _).alloc (Nat.le_refl _) _) (HB.out.mono (by simp)), fun k hk => ?_⟩
  have := (HLT.out k (HAA.out k hk)).1
  simp at this
  omega

theorem getElem?_some' {α : Type} {L : List α} {k : Nat} (h : k < L.length) : ∃ x, L[k]? = some x := ⟨_, List.getElem?_eq_getElem h⟩
def endsM (L : List UInt8) (frm : Nat) : List UInt8 → Nat
  | [] => 1
  | x :: xs => if frm < L.length then (if L.getD frm 0 = x then endsM L (frm + 1) xs else 2) else 0
theorem endsM_cons (L : List UInt8) (frm : Nat) (x : UInt8) (xs : List UInt8) : endsM L frm (x :: xs) = if frm < L.length then (if L.getD frm 0 = x then endsM L (frm + 1) xs else 2) else 0 := rfl
set_option maxHeartbeats 800000 in
theorem ends_any (g size : Nat) (L xs : List UInt8) (lost : Int) (frm : Nat) (i : Int) (v : Value) (w : World) (hi : i = frm) (h : IsRing w g size L lost) (hB : Bs w v xs) (hx : xs.length ≤ 4096) (hf : frm ≤ 1000000) :
    Calls Try.prog 126 #[.agg #[.pointer (some ⟨g, 0, none⟩)], .int .i64 i, v] w fun e w' => e = .returned (.int .u8 (endsM L frm xs : Int)) ∧ Below w.heap.size w w' := by
  subst hi
  obtain ⟨A, c, rfl, hnc, hbs⟩ := hB.form rfl
  have H := Lib.hid h
  have HS := Lib.hid hbs
  clear h hB hbs
  go_enter Try.func126, Try.ntmps126
  go_wp2_with fail
  go_loopw [13] (fun i wr => ∃ j : Nat, j ≤ xs.length ∧ i = .int .i64 j ∧ endsM L frm xs = endsM L (frm + j) (xs.drop j) ∧ Below w.heap.size w wr ∧ wr.heap[w.heap.size]? = some (.cells #[.pointer (some ⟨g, 0, none⟩)] 181 (0, 0))) (fun i _ => xs.length - (intOf i).toNat)
  case atStart => exact ⟨0, Nat.zero_le _, rfl, rfl, (Below.refl _ _).alloc (Nat.le_refl _) _, heap_alloc_same _ _⟩
  case round =>
    obtain ⟨j, hj, rfl, he, hB, hr⟩ := hrel
    by_cases hlt : j < xs.length
    · obtain ⟨gb, off, rfl, _, hcell⟩ := Bs.at_ (HS.out.below hB) hlt
      obtain ⟨x, hx⟩ : ∃ x, x = xs[j] := ⟨_, rfl⟩
      rw [← hx] at hcell
      have hdr : xs.drop j = x :: xs.drop (j + 1) := by rw [List.drop_eq_getElem_cons hlt, hx]
      rw [hdr] at he
      rw [endsM_cons] at he
      have hrc : wr.cell? ⟨w.heap.size, 0, none⟩ = some (.pointer (some ⟨g, 0, none⟩)) := (cell_of hr 0).trans rfl
      have HR := Lib.hid hr
      have HRG := Lib.hid (H.out.below hB)
      have HB := Lib.hid hB
      have HX := Lib.hid hx
      by_cases hin : frm + j < L.length
      · obtain ⟨y, hy⟩ := getElem?_some' hin
        rw [if_pos hin, show L.getD (frm + j) 0 = y by simp [List.getD, hy]] at he
        by_cases hxy : y = x
        · subst hxy
          rw [if_pos rfl] at he
          have HE := Lib.hid he
          have HY := Lib.hid hy
          have hne : ((y.toNat : Int) != (y.toNat : Int)) = false := by simp
          clear he hB hr hx hdr hy
          go_wp2_with (go_at_call 124; go_must (refine (byte_yes g size L lost (frm + j) _ y _ (by omega) HRG.out HY.out).mono ?_); rintro e w1 ⟨rfl, hB1⟩; have HB1 := Lib.hid hB1; clear hB1)
          go_roundw
          case rel => exact ⟨j + 1, by omega, by go_num, HE.out, HB.out.trans (HB1.out.mono HB.out.size), HB1.out.block _ (heap_lt HR.out) |>.trans HR.out⟩
          case measure => simp [intOf]; omega
        · rw [if_neg hxy] at he
          have hne : ((y.toNat : Int) != (x.toNat : Int)) = true := by
            simp
            intro h
            exact hxy (UInt8.toNat_inj.1 (by omega))
          have HE := Lib.hid he
          have HY := Lib.hid hy
          clear he hB hr hx hdr hy
          go_wp2_with (go_at_call 124; go_must (refine (byte_yes g size L lost (frm + j) _ y _ (by omega) HRG.out HY.out).mono ?_); rintro e w1 ⟨rfl, hB1⟩; have HB1 := Lib.hid hB1; clear hB1)
          go_ret
          exact ⟨by rw [HE.out]; rfl, HB.out.trans (HB1.out.mono HB.out.size)⟩
      · rw [if_neg hin] at he
        have HE := Lib.hid he
        clear he hB hr hx hdr
        go_wp2_with (go_at_call 124; go_must (refine (byte_no g size L lost (frm + j) _ _ (by omega) HRG.out (by omega)).mono ?_); rintro e w1 ⟨rfl, hB1⟩; have HB1 := Lib.hid hB1; clear hB1)
        go_ret
        exact ⟨by rw [HE.out]; rfl, HB.out.trans (HB1.out.mono HB.out.size)⟩
    · have hjj : j = xs.length := by omega
      have hfin : endsM L frm xs = 1 := by rw [he, hjj, List.drop_length]; rfl
      have HE := Lib.hid hfin
      have HB := Lib.hid hB
      clear he hB hr hjj hfin
      go_wp2_with fail
      go_ret
      exact ⟨by rw [HE.out]; rfl, HB.out⟩
end Go.Proofs.Ytfgglffjigolhaa
