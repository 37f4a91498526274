/- Frames: begins, tail. -/
import Derived.Test.YtfgglffjigolhaaFrameA
import Derived.Test.YtfgglffjigolhaaSlicesB
namespace Go.Proofs.Ytfgglffjigolhaa
open Go.RowKit

def beginsM (L : List UInt8) (second : UInt8) (pos : Nat) (high : Bool) : Nat × Nat :=
  if 1 < L.length ∧ L.getD 1 0 ≠ second then (0, 2)
  else if pos + 1 < L.length then (if high then 256 * (L.getD pos 0).toNat + (L.getD (pos + 1) 0).toNat else 256 * (L.getD (pos + 1) 0).toNat + (L.getD pos 0).toNat, 1)
  else (0, 0)

theorem ofInt_i64 (a : Nat) (ha : a < 9223372036854775808) : (BitVec.ofInt 64 (a : Int)).toNat = a := by
  rw [BitVec.ofInt_natCast, BitVec.toNat_ofNat]; exact Nat.mod_eq_of_lt (by omega)
theorem i64_or_nat (a b : Nat) (ha : a < 9223372036854775808) (hb : b < 9223372036854775808) : bits .or .i64 (a : Int) (b : Int) = ((a ||| b : Nat) : Int) := by
  have hx : a ||| b < 2 ^ 63 := Nat.or_lt_two_pow (by omega) (by omega)
  show IntKind.i64.wrap ((BitVec.ofInt 64 (a : Int) ||| BitVec.ofInt 64 (b : Int)).toNat : Int) = _
  rw [BitVec.toNat_or, ofInt_i64 a ha, ofInt_i64 b hb, IntKind.wrap_i64]
  omega
theorem i64_join8 (a b : UInt8) : bits .or .i64 (wrap64 (wrap64 (a.toNat : Int) * 256)) (wrap64 (b.toNat : Int)) = ((256 * a.toNat + b.toNat : Nat) : Int) := by
  have h1 := UInt8.toNat_lt a
  have h2 := UInt8.toNat_lt b
  have e : ∀ n : Int, 0 ≤ n → n < 65536 → wrap64 n = n := fun n _ _ => by unfold wrap64; omega
  rw [e (a.toNat : Int) (by omega) (by omega), e (b.toNat : Int) (by omega) (by omega), e _ (by omega) (by omega)]
  rw [show (a.toNat : Int) * 256 = ((256 * a.toNat : Nat) : Int) by omega, i64_or_nat _ _ (by omega) (by omega)]
  congr 1
  exact (Nat.two_pow_add_eq_or_of_lt (i := 8) h2 a.toNat).symm

set_option maxRecDepth 100000 in
set_option maxHeartbeats 1600000 in
theorem begins_true (g size : Nat) (L : List UInt8) (lost : Int) (second : UInt8) (pos : Nat) (i : Int) (w : World) (hi : i = pos) (h : IsRing w g size L lost) (hp : 2 ≤ pos) (hp2 : pos ≤ 100) :
    Calls Try.prog 127 #[.agg #[.pointer (some ⟨g, 0, none⟩)], bv second, .int .i64 i, .bool true] w fun e w' => e = .returned (.tuple #[.int .i64 ((beginsM L second pos true).1 : Int), .int .u8 ((beginsM L second pos true).2 : Int)]) ∧ Below w.heap.size w w' := by
  subst hi
  unfold beginsM
  have h0 := h.alloc (.cells #[.pointer (some ⟨g, 0, none⟩)] 181)
  have H := Lib.hid h0
  clear h h0
  by_cases h1 : 1 < L.length
  · obtain ⟨x1, hx1⟩ := getElem?_some' h1
    rw [show L.getD 1 0 = x1 by simp [List.getD, hx1]]
    have X1 := Lib.hid hx1
    by_cases hs : x1 = second
    · subst hs
      rw [if_neg (by simp)]
      have hne : ((x1.toNat : Int) != (x1.toNat : Int)) = false := by simp
      by_cases h2 : pos < L.length
      · obtain ⟨x2, hx2⟩ := getElem?_some' h2
        have X2 := Lib.hid hx2
        by_cases h3 : pos + 1 < L.length
        · obtain ⟨x3, hx3⟩ := getElem?_some' h3
          have X3 := Lib.hid hx3
          rw [if_pos h3, show L.getD pos 0 = x2 by simp [List.getD, hx2], show L.getD (pos + 1) 0 = x3 by simp [List.getD, hx3]]
          try simp only [if_true, if_false, Bool.false_eq_true]
          clear hx1 hx2 hx3
          go_enter Try.func127, Try.ntmps127
          go_wp2_with (go_at_call 124; (refine (byte_yes g size L lost 1 _ x1 _ (by omega) H.out X1.out).mono ?_); rintro e w1 ⟨rfl, hb1⟩; have hc1 := below_newCell hb1; have B1 := Lib.hid hb1; clear hb1)
          go_wp2_with (go_at_call 124; refine (byte_yes g size L lost pos _ x2 _ (by omega) (H.out.below B1.out) X2.out).mono ?_; rintro e w2 ⟨rfl, hb2⟩; have hn2 := below_more B1.out hb2 (Nat.le_refl _); have hc2 := below_newCell hn2; have B2 := Lib.hid hn2; clear hb2 hn2)
          go_wp2_with (go_at_call 124; refine (byte_yes g size L lost (pos + 1) _ x3 _ (by omega) (H.out.below B2.out) X3.out).mono ?_; rintro e w3 ⟨rfl, hb3⟩; have hn3 := below_more B2.out hb3 (Nat.le_refl _); have hc3 := below_newCell hn3; have B3 := Lib.hid hn3; clear hb3 hn3)
          go_ret2
          exact ⟨by rw [i64_join8]; rfl, below_unalloc B3.out⟩
        · rw [if_neg h3]
          clear hx1 hx2
          go_enter Try.func127, Try.ntmps127
          go_wp2_with (go_at_call 124; refine (byte_yes g size L lost 1 _ x1 _ (by omega) H.out X1.out).mono ?_; rintro e w1 ⟨rfl, hb1⟩; have hc1 := below_newCell hb1; have B1 := Lib.hid hb1; clear hb1)
          go_wp2_with (go_at_call 124; refine (byte_yes g size L lost pos _ x2 _ (by omega) (H.out.below B1.out) X2.out).mono ?_; rintro e w2 ⟨rfl, hb2⟩; have hn2 := below_more B1.out hb2 (Nat.le_refl _); have hc2 := below_newCell hn2; have B2 := Lib.hid hn2; clear hb2 hn2)
          go_wp2_with (go_at_call 124; refine (byte_no g size L lost (pos + 1) _ _ (by omega) (H.out.below B2.out) (by omega)).mono ?_; rintro e w3 ⟨rfl, hb3⟩; have hn3 := below_more B2.out hb3 (Nat.le_refl _); have hc3 := below_newCell hn3; have B3 := Lib.hid hn3; clear hb3 hn3)
          go_ret2
          exact ⟨rfl, below_unalloc B3.out⟩
      · rw [if_neg (by omega)]
        clear hx1
        go_enter Try.func127, Try.ntmps127
        go_wp2_with (go_at_call 124; refine (byte_yes g size L lost 1 _ x1 _ (by omega) H.out X1.out).mono ?_; rintro e w1 ⟨rfl, hb1⟩; have hc1 := below_newCell hb1; have B1 := Lib.hid hb1; clear hb1)
        go_wp2_with (go_at_call 124; refine (byte_no g size L lost pos _ _ (by omega) (H.out.below B1.out) (by omega)).mono ?_; rintro e w2 ⟨rfl, hb2⟩; have hn2 := below_more B1.out hb2 (Nat.le_refl _); have hc2 := below_newCell hn2; have B2 := Lib.hid hn2; clear hb2 hn2)
        go_wp2_with (go_at_call 124; refine (byte_no g size L lost (pos + 1) _ _ (by omega) (H.out.below B2.out) (by omega)).mono ?_; rintro e w3 ⟨rfl, hb3⟩; have hn3 := below_more B2.out hb3 (Nat.le_refl _); have hc3 := below_newCell hn3; have B3 := Lib.hid hn3; clear hb3 hn3)
        go_ret2
        exact ⟨rfl, below_unalloc B3.out⟩
    · rw [if_pos ⟨h1, hs⟩]
      have hne : ((x1.toNat : Int) != (second.toNat : Int)) = true := by
        simp
        intro h
        exact hs (UInt8.toNat_inj.1 (by omega))
      clear hx1
      go_enter Try.func127, Try.ntmps127
      go_wp2_with (go_at_call 124; refine (byte_yes g size L lost 1 _ x1 _ (by omega) H.out X1.out).mono ?_; rintro e w1 ⟨rfl, hb1⟩; have hc1 := below_newCell hb1; have B1 := Lib.hid hb1; clear hb1)
      go_ret2
      exact ⟨rfl, below_unalloc B1.out⟩
  · rw [if_neg (by omega), if_neg (by omega)]
    go_enter Try.func127, Try.ntmps127
    go_wp2_with (go_at_call 124; refine (byte_no g size L lost 1 _ _ (by omega) H.out (by omega)).mono ?_; rintro e w1 ⟨rfl, hb1⟩; have hc1 := below_newCell hb1; have B1 := Lib.hid hb1; clear hb1)
    go_wp2_with (go_at_call 124; refine (byte_no g size L lost pos _ _ (by omega) (H.out.below B1.out) (by omega)).mono ?_; rintro e w2 ⟨rfl, hb2⟩; have hn2 := below_more B1.out hb2 (Nat.le_refl _); have hc2 := below_newCell hn2; have B2 := Lib.hid hn2; clear hb2 hn2)
    go_wp2_with (go_at_call 124; refine (byte_no g size L lost (pos + 1) _ _ (by omega) (H.out.below B2.out) (by omega)).mono ?_; rintro e w3 ⟨rfl, hb3⟩; have hn3 := below_more B2.out hb3 (Nat.le_refl _); have hc3 := below_newCell hn3; have B3 := Lib.hid hn3; clear hb3 hn3)
    go_ret2
    exact ⟨rfl, below_unalloc B3.out⟩
set_option maxRecDepth 100000 in
set_option maxHeartbeats 1600000 in
theorem begins_false (g size : Nat) (L : List UInt8) (lost : Int) (second : UInt8) (pos : Nat) (i : Int) (w : World) (hi : i = pos) (h : IsRing w g size L lost) (hp : 2 ≤ pos) (hp2 : pos ≤ 100) :
    Calls Try.prog 127 #[.agg #[.pointer (some ⟨g, 0, none⟩)], bv second, .int .i64 i, .bool false] w fun e w' => e = .returned (.tuple #[.int .i64 ((beginsM L second pos false).1 : Int), .int .u8 ((beginsM L second pos false).2 : Int)]) ∧ Below w.heap.size w w' := by
  subst hi
  unfold beginsM
  have h0 := h.alloc (.cells #[.pointer (some ⟨g, 0, none⟩)] 181)
  have H := Lib.hid h0
  clear h h0
  by_cases h1 : 1 < L.length
  · obtain ⟨x1, hx1⟩ := getElem?_some' h1
    rw [show L.getD 1 0 = x1 by simp [List.getD, hx1]]
    have X1 := Lib.hid hx1
    by_cases hs : x1 = second
    · subst hs
      rw [if_neg (by simp)]
      have hne : ((x1.toNat : Int) != (x1.toNat : Int)) = false := by simp
      by_cases h2 : pos < L.length
      · obtain ⟨x2, hx2⟩ := getElem?_some' h2
        have X2 := Lib.hid hx2
        by_cases h3 : pos + 1 < L.length
        · obtain ⟨x3, hx3⟩ := getElem?_some' h3
          have X3 := Lib.hid hx3
          rw [if_pos h3, show L.getD pos 0 = x2 by simp [List.getD, hx2], show L.getD (pos + 1) 0 = x3 by simp [List.getD, hx3]]
          try simp only [if_true, if_false, Bool.false_eq_true]
          clear hx1 hx2 hx3
          go_enter Try.func127, Try.ntmps127
          go_wp2_with (go_at_call 124; (refine (byte_yes g size L lost 1 _ x1 _ (by omega) H.out X1.out).mono ?_); rintro e w1 ⟨rfl, hb1⟩; have hc1 := below_newCell hb1; have B1 := Lib.hid hb1; clear hb1)
          go_wp2_with (go_at_call 124; refine (byte_yes g size L lost pos _ x2 _ (by omega) (H.out.below B1.out) X2.out).mono ?_; rintro e w2 ⟨rfl, hb2⟩; have hn2 := below_more B1.out hb2 (Nat.le_refl _); have hc2 := below_newCell hn2; have B2 := Lib.hid hn2; clear hb2 hn2)
          go_wp2_with (go_at_call 124; refine (byte_yes g size L lost (pos + 1) _ x3 _ (by omega) (H.out.below B2.out) X3.out).mono ?_; rintro e w3 ⟨rfl, hb3⟩; have hn3 := below_more B2.out hb3 (Nat.le_refl _); have hc3 := below_newCell hn3; have B3 := Lib.hid hn3; clear hb3 hn3)
          go_ret2
          exact ⟨by rw [i64_join8]; rfl, below_unalloc B3.out⟩
        · rw [if_neg h3]
          clear hx1 hx2
          go_enter Try.func127, Try.ntmps127
          go_wp2_with (go_at_call 124; refine (byte_yes g size L lost 1 _ x1 _ (by omega) H.out X1.out).mono ?_; rintro e w1 ⟨rfl, hb1⟩; have hc1 := below_newCell hb1; have B1 := Lib.hid hb1; clear hb1)
          go_wp2_with (go_at_call 124; refine (byte_yes g size L lost pos _ x2 _ (by omega) (H.out.below B1.out) X2.out).mono ?_; rintro e w2 ⟨rfl, hb2⟩; have hn2 := below_more B1.out hb2 (Nat.le_refl _); have hc2 := below_newCell hn2; have B2 := Lib.hid hn2; clear hb2 hn2)
          go_wp2_with (go_at_call 124; refine (byte_no g size L lost (pos + 1) _ _ (by omega) (H.out.below B2.out) (by omega)).mono ?_; rintro e w3 ⟨rfl, hb3⟩; have hn3 := below_more B2.out hb3 (Nat.le_refl _); have hc3 := below_newCell hn3; have B3 := Lib.hid hn3; clear hb3 hn3)
          go_ret2
          exact ⟨rfl, below_unalloc B3.out⟩
      · rw [if_neg (by omega)]
        clear hx1
        go_enter Try.func127, Try.ntmps127
        go_wp2_with (go_at_call 124; refine (byte_yes g size L lost 1 _ x1 _ (by omega) H.out X1.out).mono ?_; rintro e w1 ⟨rfl, hb1⟩; have hc1 := below_newCell hb1; have B1 := Lib.hid hb1; clear hb1)
        go_wp2_with (go_at_call 124; refine (byte_no g size L lost pos _ _ (by omega) (H.out.below B1.out) (by omega)).mono ?_; rintro e w2 ⟨rfl, hb2⟩; have hn2 := below_more B1.out hb2 (Nat.le_refl _); have hc2 := below_newCell hn2; have B2 := Lib.hid hn2; clear hb2 hn2)
        go_wp2_with (go_at_call 124; refine (byte_no g size L lost (pos + 1) _ _ (by omega) (H.out.below B2.out) (by omega)).mono ?_; rintro e w3 ⟨rfl, hb3⟩; have hn3 := below_more B2.out hb3 (Nat.le_refl _); have hc3 := below_newCell hn3; have B3 := Lib.hid hn3; clear hb3 hn3)
        go_ret2
        exact ⟨rfl, below_unalloc B3.out⟩
    · rw [if_pos ⟨h1, hs⟩]
      have hne : ((x1.toNat : Int) != (second.toNat : Int)) = true := by
        simp
        intro h
        exact hs (UInt8.toNat_inj.1 (by omega))
      clear hx1
      go_enter Try.func127, Try.ntmps127
      go_wp2_with (go_at_call 124; refine (byte_yes g size L lost 1 _ x1 _ (by omega) H.out X1.out).mono ?_; rintro e w1 ⟨rfl, hb1⟩; have hc1 := below_newCell hb1; have B1 := Lib.hid hb1; clear hb1)
      go_ret2
      exact ⟨rfl, below_unalloc B1.out⟩
  · rw [if_neg (by omega), if_neg (by omega)]
    go_enter Try.func127, Try.ntmps127
    go_wp2_with (go_at_call 124; refine (byte_no g size L lost 1 _ _ (by omega) H.out (by omega)).mono ?_; rintro e w1 ⟨rfl, hb1⟩; have hc1 := below_newCell hb1; have B1 := Lib.hid hb1; clear hb1)
    go_wp2_with (go_at_call 124; refine (byte_no g size L lost pos _ _ (by omega) (H.out.below B1.out) (by omega)).mono ?_; rintro e w2 ⟨rfl, hb2⟩; have hn2 := below_more B1.out hb2 (Nat.le_refl _); have hc2 := below_newCell hn2; have B2 := Lib.hid hn2; clear hb2 hn2)
    go_wp2_with (go_at_call 124; refine (byte_no g size L lost (pos + 1) _ _ (by omega) (H.out.below B2.out) (by omega)).mono ?_; rintro e w3 ⟨rfl, hb3⟩; have hn3 := below_more B2.out hb3 (Nat.le_refl _); have hc3 := below_newCell hn3; have B3 := Lib.hid hn3; clear hb3 hn3)
    go_ret2
    exact ⟨rfl, below_unalloc B3.out⟩
def hexD (n : Nat) : UInt8 := if n < 10 then (48 + n).toUInt8 else (55 + n).toUInt8
theorem hexD_at : ∀ (n : Nat) (h : n < ({ data := #[48, 49, 50, 51, 52, 53, 54, 55, 56, 57, 65, 66, 67, 68, 69, 70] } : ByteArray).size), ({ data := #[48, 49, 50, 51, 52, 53, 54, 55, 56, 57, 65, 66, 67, 68, 69, 70] } : ByteArray)[n]'h = hexD n := by
  intro n h
  have h' : n < 16 := h
  obtain h | h | h | h | h | h | h | h | h | h | h | h | h | h | h | h : n = 0 ∨ n = 1 ∨ n = 2 ∨ n = 3 ∨ n = 4 ∨ n = 5 ∨ n = 6 ∨ n = 7 ∨ n = 8 ∨ n = 9 ∨ n = 10 ∨ n = 11 ∨ n = 12 ∨ n = 13 ∨ n = 14 ∨ n = 15 := by omega
  all_goals (subst h; rfl)
def tailM (L : List UInt8) : List UInt8 := [42, hexD ((xorL L).toNat / 16), hexD ((xorL L).toNat % 16), 13, 10]

set_option maxRecDepth 100000 in
set_option maxHeartbeats 1600000 in
theorem tail_any (v : Value) (L : List UInt8) (w : World) (hB : Bs w v L) (hl : L.length ≤ 140737488355328) :
    Calls Try.prog 71 #[v] w fun e w' => ∃ v, e = .returned v ∧ OwnB w' w.heap.size v (tailM L) ∧ Below w.heap.size w w' := by
  have hx := sums_xor v L w hB hl
  obtain ⟨x, hxx⟩ : ∃ x, x = xorL L := ⟨_, rfl⟩
  have hxl := UInt8.toNat_lt x
  have e1 : bits .and .u8 (x.toNat : Int) 15 = (x.toNat : Int) % 16 := u8_and15 _ (by omega) (by omega)
  rw [← hxx] at hx
  have HX := Lib.hid hx
  have HXX := Lib.hid hxx
  clear hx hB hxx
  go_enter Try.func71, Try.ntmps71
  go_wp2_with (go_at_call 104; refine HX.out.mono ?_; rintro e w1 ⟨rfl, hB⟩; have HB := Lib.hid hB; clear hB)
  have b1 : 0 ≤ (x.toNat : Int) / 16 := by omega
  have b2 : (x.toNat : Int) / 16 < 16 := by omega
  have b3 : 0 ≤ (x.toNat : Int) % 16 := by omega
  have b4 : (x.toNat : Int) % 16 < 16 := by omega
  go_region
  all_goals go_wp2_with fail
  go_ret
  simp only [hexD_at]
  exact ⟨_, rfl, (own_made (by rw [tailM, ← HXX.out]; rfl) HB.out.size rfl (by show 5 ≤ _; omega)).drew, (HB.out.alloc HB.out.size _).drew⟩

end Go.Proofs.Ytfgglffjigolhaa
