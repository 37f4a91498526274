/- The frames' laws: FrameNone. -/
import Derived.Test.YtfgglffjigolhaaLawFB
import Derived.Test.YtfgglffjigolhaaFrameI
import Derived.Test.YtfgglffjigolhaaLawFC
namespace Go.Proofs.Ytfgglffjigolhaa
open Go.RowKit

def NoneTo (g gc : Nat) (base : Nat) (v : Value) (F : List FrameV) (R : List UInt8) (lost lost2 : Int) (w : World) (wr : World) (i d : Value) : Prop :=
  ∃ (j f' : Nat) (L' : List UInt8), i = .int .i64 j ∧ d = .int .i64 ((allM 4096 f' L').2.1 : Int) ∧ j ≤ F.length ∧ base ≤ wr.heap.size ∧ L'.length < f' ∧ L'.length ≤ 3000 ∧ (allM 4096 f' L').2.1 ≤ 3000 ∧ (allM 4096 f' L').1 = (listF F).drop j ∧ (allM 4096 f' L').2.2 = R ∧
    OwnF wr base v F ∧ IsRing wr g 4096 R lost ∧ IsRing wr gc 4096 L' lost2 ∧ Below w.heap.size w wr
theorem allM_le (size : Nat) : ∀ (f : Nat) (L : List UInt8), L.length < f → (allM size f L).2.1 ≤ L.length
  | 0, L, h => absurd h (Nat.not_lt_zero _)
  | f + 1, L, h => by
    rw [allM_succ]
    obtain ⟨h1, h2, h3⟩ := nextM_rest size (L.length + 1) L (by omega)
    unfold nextC
    split
    · rename_i hok
      have := h2 hok
      have ih := allM_le size f (nextM size (L.length + 1) L).2.2.2.2 (by omega)
      simp only
      omega
    · simp only; omega

theorem allM_cons {size f : Nat} {L : List UInt8} {x : Nat × List UInt8} {xs : List (Nat × List UInt8)} (h : (allM size (f + 1) L).1 = x :: xs) :
    (nextC size L).2.1 = true ∧ x = ((nextC size L).2.2.1, (nextC size L).2.2.2.1) ∧ xs = (allM size f (nextC size L).2.2.2.2).1 ∧
    (allM size (f + 1) L).2.1 = (nextC size L).1 + (allM size f (nextC size L).2.2.2.2).2.1 ∧ (allM size (f + 1) L).2.2 = (allM size f (nextC size L).2.2.2.2).2.2 := by
  rw [allM_succ] at h ⊢
  by_cases ho : (nextC size L).2.1 = true
  · rw [if_pos ho] at h ⊢
    injection h with h1 h2
    exact ⟨ho, h1.symm, h2.symm, rfl, rfl⟩
  · rw [if_neg ho] at h; cases h
theorem allM_nil {size f : Nat} {L : List UInt8} (h : (allM size (f + 1) L).1 = []) :
    (nextC size L).2.1 = false ∧ (allM size (f + 1) L).2.1 = (nextC size L).1 ∧ (allM size (f + 1) L).2.2 = (nextC size L).2.2.2.2 := by
  rw [allM_succ] at h ⊢
  by_cases ho : (nextC size L).2.1 = true
  · rw [if_pos ho] at h; cases h
  · rw [if_neg ho]
    exact ⟨by simpa using ho, rfl, rfl⟩
set_option maxRecDepth 100000 in
set_option maxHeartbeats 1600000 in
theorem frameNone_any (v : Value) (b : List UInt8) (w : World) (hB : Bs w v b) (hl : b.length ≤ maxLen) :
    Calls Try.prog 5 #[v] w fun e w' => e = .returned (.bool true) ∧ Below w.heap.size w w' := by
  obtain ⟨n, hn⟩ : ∃ n, n = b.length := ⟨_, rfl⟩
  obtain ⟨A, c, rfl, hle, hb⟩ := hB.form hn.symm
  have HB := Lib.hid hb
  have HN := Lib.hid hn
  clear hB hb hn
  by_cases h2 : 3000 < n
  · have g2 : (3000 : Int) < n := by omega
    go_enter Try.func5, Try.ntmps5
    go_wp2_with (go_at_call 22; go_must (refine (known_any _).mono ?_; rintro e w1 ⟨rfl, hb1⟩; have B1 := Lib.hid hb1; clear hb1))
    go_ret
    exact ⟨rfl, B1.out⟩
  · have g2 : ¬ (3000 : Int) < n := by omega
    have hpl := putL_nil (size := 4096) (b := b) (by rw [← HN.out]; omega) (by decide)
    have hall := fun (W : World) g lost h => all_any g 4096 b lost W h (n + 1) (by rw [← HN.out]; omega)
    have hdl := allM_le 4096 (n + 1) b (by rw [← HN.out]; omega)
    rw [← HN.out] at hdl
    have HPL := Lib.hid hpl
    have HALL := Lib.hid hall
    clear hpl hall
    have tok1 : True := trivial
    have tok1b : True := trivial
    go_enter Try.func5, Try.ntmps5
    go_wp2_with (first | (go_at_call 25; have tk := tok1; clear tk tok1; go_must (refine (next_nil _).mono ?_; rintro e w1 ⟨rfl, hb1⟩; have B1 := Lib.hid hb1; clear hb1)) | (go_at_call 29; have tk := tok1b; clear tk tok1b; go_must (refine (all_nil _).mono ?_; rintro e w2 ⟨rfl, hb2⟩; have B2 := Lib.hid ((by repeat (first | with_reducible exact B1.out | with_reducible exact Below.refl _ _ | with_reducible refine below_drew1 ?_ | with_reducible refine below_drewN1 ?_ _ | with_reducible refine below_alloc1 ?_ _ | with_reducible refine below_setb (by first | exact Nat.le_refl _ | omega) ?_ | with_reducible refine below_step ?_ hb2)) : Below w.heap.size w w2); clear hb2; have tok2 : True := trivial)) | (go_at_call 21; go_must (refine (ring_new_ok 4096 _ (by decide) (by decide)).mono ?_; rintro e w4 ⟨g, rfl, hr4, hg4, hb4⟩; have R4 := Lib.hid hr4; have G4 := Lib.hid hg4; have B4 := Lib.hid (below_more B2.out hb4 (Nat.le_refl _)); have E43 : Hid (Ext (OneB g) w2 w4) := Lib.hid (Ext.of_below hb4); have s2 := B2.out.size; clear hr4 hg4 hb4)) | (go_at_call 23; go_must (refine (ring_put g 4096 [] b 0 (.slice A n c) _ R4.out (HB.out.below B4.out) (by rw [← HN.out]; omega) (HB.out.own_nil (by have := G4.out; omega)) (by decide)).mono ?_; rintro e w5 ⟨rfl, hr5, he5⟩; rw [HPL.out] at hr5; obtain ⟨ls, hr5⟩ : ∃ ls : Int, IsRing w5 g 4096 b ls := ⟨_, hr5⟩; have R5 := Lib.hid hr5; have E5 := Lib.hid he5; clear hr5 he5)) | (go_at_call 30; go_must (refine (ring_copy g 4096 b _ _ R5.out).mono ?_; rintro e w6 ⟨rfl, hr6, hb6⟩; have C6 := Lib.hid hr6; have R6 := Lib.hid (R5.out.below hb6); have hgc : g < w5.heap.size := R5.out.lt; have hs6 : w5.heap.size < w6.heap.size := hr6.lt; have B6 := Lib.hid (((Ext.of_below (S := OneB g) B4.out).same (E5.out)).same (Ext.of_below hb6)); clear hr6 hb6)) | (go_at_call 29; go_must (refine (HALL.out _ _ _ R6.out).mono ?_; rintro e w7 ⟨u, F, rfl, hF, hlF, hr7, he7⟩; obtain ⟨A7, c7, rfl⟩ := hF.form; have O7 := Lib.hid hF; have LF := Lib.hid hlF; have R7 := Lib.hid hr7; have C7 := Lib.hid (C6.out.kept he7 (fun e => by have : w5.heap.size = g := e; omega)); have B7 := Lib.hid ((B6.out.same he7).belowN (fun x hx e => by have h1 := G4.out; have : x = g := e; omega)); have hs7 : w6.heap.size ≤ w7.heap.size := he7.size; clear hF hlF hr7 he7)))
    have hFl : F.length ≤ 3000 := by
      have h1 := allM_count 4096 (n + 1) b (by rw [← HN.out]; omega)
      rw [← LF.out, ← HN.out] at h1
      simp only [listF, List.length_map] at h1
      omega
    go_loopw [12, 59] (fun d i wr => NoneTo g w5.heap.size w6.heap.size (.slice A7 F.length c7) F (allM 4096 (n + 1) b).2.2 ls ls w wr i d) (fun _ i _ => F.length - (intOf i).toNat)
    case atStart => exact ⟨0, n + 1, b, rfl, rfl, Nat.zero_le _, hs7, by rw [← HN.out]; omega, by rw [← HN.out]; omega, by omega, by rw [LF.out]; rfl, rfl, O7.out, R7.out, C7.out, B7.out⟩
    case round =>
      obtain ⟨j, f', L', rfl, rfl, hj, hsz, hf', hL', hD, hA1, hA2, hO, hR, hC, hB⟩ := hrel
      obtain ⟨f', rfl⟩ : ∃ x, f' = x + 1 := ⟨f' - 1, by omega⟩
      have hnx := fun (W : World) h => next_any w5.heap.size 4096 L' ls W h (L'.length + 1) (by omega)
      have hrest := nextM_rest 4096 (L'.length + 1) L' (by omega)
      have hlF : (listF F).length = F.length := by simp [listF]
      by_cases hlt : j < F.length
      · have hd : (listF F).drop j = (listF F)[j]'(by omega) :: (listF F).drop (j + 1) := List.drop_eq_getElem_cons (by omega)
        rw [hd] at hA1
        obtain ⟨k1, k2, k3, k4, k5⟩ := allM_cons hA1
        obtain ⟨gF, u, rfl, c0, c1, hu, hfu⟩ := hO.at_ (j := j) hlt
        have hxj : (listF F)[j]'(by omega) = (F[j].1, F[j].2.1) := by simp [listF]
        rw [k2] at hxj
        injection hxj with hx1 hx2
        rw [← hx1] at c0
        rw [← hx2] at hu
        clear hx1 hx2
        unfold nextC at k1 k2 k3 k4 k5 c0 hu
        obtain ⟨⟨d, ok, k, bb, M⟩, hr⟩ : ∃ r, r = nextM 4096 (L'.length + 1) L' := ⟨_, rfl⟩
        rw [← hr] at hnx hrest k1 k2 k3 k4 k5 c0 hu
        simp only at hnx hrest k1 k2 k3 k4 k5 c0 hu
        subst k1
        have hlt2 := hrest.2.1 rfl
        obtain ⟨Au, cu, rfl, hnu, hu⟩ := hu.form rfl
        have i0 : (0 : Int) ≤ (j : Int) := by omega
        have i1 : (j : Int) < (F.length : Int) := by omega
        simp only [Nexted] at hnx
        have HNX := Lib.hid hnx
        have HU := Lib.hid hu
        have HK := Lib.hid (And.intro k2 (And.intro k3 (And.intro k4 k5)))
        have HO := Lib.hid hO
        have HR := Lib.hid hR
        have HC := Lib.hid hC
        have HBL := Lib.hid hB
        have HD := Lib.hid (And.intro hd (And.intro hA1 hA2))
        rw [k4] at hD ⊢
        clear hnx hu k2 k3 k5 hO hR hC hB hd hA1 hA2 hr hrest k4
        go_wp2_with (first | (go_at_call 25; go_must (refine (HNX.out _ (HC.out.alloc _)).mono ?_; rintro e w8 ⟨⟨v8, rfl, hv8, fv8⟩, hr8, he8⟩; obtain ⟨A8, c8, rfl, hz8, hv8⟩ := hv8.form rfl; clear hz8; have hne : ¬ wr.heap.size = w5.heap.size := (by omega); have C8 := Lib.hid hr8; have E8 := Lib.hid he8; have X8 := Lib.hid (he8.heap (heap_alloc_same wr _) hne); have V8 := Lib.hid hv8; have F8 := Lib.hid fv8; have U8 := Lib.hid ((HU.out.alloc _).kept he8 (fun x _ hx e => by have h1 := hfu x hx; have : x = w5.heap.size := e; omega)); clear hr8 he8 hv8 fv8 c0 c1; have s8 := heap_lt X8.out; have c80 := cell_of X8.out 0; have c81 := cell_of X8.out 1)) | (go_at_call 27; go_must (refine (ref_same _ _ [(k, bb)] [(k, bb)] _ ((Fss.oneg (g := w8.heap.size + 1) (by simp) (U8.out.alloc _) _).alloc _) (Fss.oneg (g := w8.heap.size + 2) (by simp) ((V8.out.alloc _).alloc _) _) (by simp) (by simp)).mono ?_; rintro e w' ⟨rfl, nq, rfl⟩)))
        go_roundw
        case rel =>
          have hsz8 := E8.out.size
          refine ⟨j + 1, f', M, by go_num, ?_, by omega, by simp; simp at hsz8; omega, by omega, by omega, by omega, HK.out.2.1.symm, ?_, ?_, ?_, ?_, ?_⟩
          · congr 1; omega
          · rw [← HK.out.2.2.2]; exact HD.out.2.2
          · exact ((((HO.out.alloc _).ext E8.out (by omega)).alloc _).alloc _).alloc _
          · exact ((((HR.out.alloc _).kept E8.out (fun e => by have : g = w5.heap.size := e; omega)).alloc _).alloc _).alloc _
          · exact ((C8.out.alloc _).alloc _).alloc _
          · have hb8 : Below w.heap.size w w8 := ((Ext.of_below (S := OneB w5.heap.size) (below_alloc1 HBL.out _)).same E8.out).belowN (fun x hx e => by have : x = w5.heap.size := e; have := B6.out.size; have := B4.out.size; have := E5.out.size; omega)
            exact (by repeat (first | with_reducible exact hb8 | with_reducible exact Below.refl _ _ | with_reducible refine below_drew1 ?_ | with_reducible refine below_drewN1 ?_ _ | with_reducible refine below_alloc1 ?_ _ | with_reducible refine below_setb (by first | exact Nat.le_refl _ | omega) ?_))
        case measure => simp [intOf]; omega
      · obtain rfl : j = F.length := by omega
        have hdn : (listF F).drop F.length = [] := by rw [← hlF]; exact List.drop_length
        rw [hdn] at hA1
        obtain ⟨k1, k2, k3⟩ := allM_nil hA1
        unfold nextC at k1 k2 k3
        obtain ⟨⟨d, ok, k, bb, M⟩, hr⟩ : ∃ r, r = nextM 4096 (L'.length + 1) L' := ⟨_, rfl⟩
        rw [← hr] at hnx hrest k1 k2 k3
        simp only at hnx hrest k1 k2 k3
        subst k1
        simp only [Nexted] at hnx
        rw [hA2] at k3
        rw [k2] at hD ⊢
        rw [k3] at hR
        have HNX := Lib.hid hnx
        have HO := Lib.hid hO
        have HR := Lib.hid hR
        have HC := Lib.hid hC
        have HBL := Lib.hid hB
        have hdd : ((d : Int) == (d : Int)) = true := by simp
        have hmm : ((M.length : Int) == (M.length : Int)) = true := by simp
        clear hnx k2 k3 hO hR hC hB hA1 hA2 hr hrest hdn
        go_wp2_with (first | (go_at_call 25; go_must (refine (HNX.out _ HC.out).mono ?_; rintro e w8 ⟨⟨v8, rfl, hv8, fv8⟩, hr8, he8⟩; obtain ⟨A8, c8, rfl, hz8, hv8⟩ := hv8.form rfl; clear hz8; have C8 := Lib.hid hr8; have E8 := Lib.hid he8; have R8 := Lib.hid (HR.out.kept he8 (fun e => by have : g = w5.heap.size := e; omega)); clear hr8 he8 hv8 fv8; have tok3 : True := trivial)) | (go_at_call 31; have tk := tok3; clear tk tok3; go_must (refine (ring_len g 4096 M _ _ R8.out).mono ?_; rintro e w' ⟨rfl, rfl⟩; have tok4 : True := trivial)) | (go_at_call 31; have tk := tok4; clear tk tok4; go_must (refine (ring_len w5.heap.size 4096 M _ _ C8.out).mono ?_; rintro e w' ⟨rfl, rfl⟩)) | (go_at_call 22; go_must (refine (known_any _).mono ?_; rintro e w9 ⟨rfl, hb9⟩; have B9 := Lib.hid hb9; clear hb9)))
        go_ret
        have hb8 : Below w.heap.size w w8 := ((Ext.of_below (S := OneB w5.heap.size) HBL.out).same E8.out).belowN (fun x hx e => by have : x = w5.heap.size := e; have := B6.out.size; have := B4.out.size; have := E5.out.size; omega)
        exact ⟨rfl, (by repeat (first | with_reducible exact hb8 | with_reducible exact Below.refl _ _ | with_reducible refine below_drew1 ?_ | with_reducible refine below_drewN1 ?_ _ | with_reducible refine below_alloc1 ?_ _ | with_reducible refine below_setb (by first | exact Nat.le_refl _ | omega) ?_ | with_reducible refine below_step ?_ B9.out))⟩
end Go.Proofs.Ytfgglffjigolhaa
