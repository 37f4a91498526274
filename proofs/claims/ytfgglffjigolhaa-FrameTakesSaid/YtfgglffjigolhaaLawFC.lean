/- The frames' laws: FrameBytes. -/
import Derived.Test.YtfgglffjigolhaaLawFB
import Derived.Test.YtfgglffjigolhaaSame
import Derived.Test.YtfgglffjigolhaaFrameH
namespace Go.Proofs.Ytfgglffjigolhaa
open Go.RowKit

theorem Fss.oneg {w : World} {k : Nat} {u : Value} {b : List UInt8} {g : Nat} (hg : g = w.heap.size) (hu : Bs w u b) (t : TypeId) : Fss (w.alloc (.cells #[.int .u8 (k : Int), u] t)) (.slice (some ⟨g, 0, none⟩) 1 1) [(k, b)] := by
  subst hg; exact Fss.one hu t

set_option maxRecDepth 100000 in
set_option maxHeartbeats 1600000 in
theorem frameBytes_any (k : UInt8) (v : Value) (b : List UInt8) (w : World) (hB : Bs w v b) (hl : b.length ≤ maxLen) :
    Calls Try.prog 6 #[.agg #[bv k, v]] w fun e w' => e = .returned (.bool true) ∧ Below w.heap.size w w' := by
  obtain ⟨n, hn⟩ : ∃ n, n = b.length := ⟨_, rfl⟩
  obtain ⟨A, c, rfl, hle, hb⟩ := hB.form hn.symm
  have HB := Lib.hid hb
  have HN := Lib.hid hn
  clear hB hb hn
  by_cases h2 : 2000 < n
  · have g2 : (2000 : Int) < n := by omega
    go_enter Try.func6, Try.ntmps6
    go_wp2_with (go_at_call 22; go_must (refine (known_any _).mono ?_; rintro e w1 ⟨rfl, hb1⟩; have B1 := Lib.hid hb1; clear hb1))
    go_ret
    exact ⟨rfl, (by repeat (first | with_reducible exact Below.refl _ _ | with_reducible exact Below.refl _ _ | with_reducible refine below_drew1 ?_ | with_reducible refine below_drewN1 ?_ _ | with_reducible refine below_alloc1 ?_ _ | with_reducible refine below_setb (by first | exact Nat.le_refl _ | omega) ?_ | with_reducible refine below_step ?_ B1.out))⟩
  · have g2 : ¬ (2000 : Int) < n := by omega
    obtain ⟨⟨out, r⟩, hr⟩ : ∃ r, r = bytesM k.toNat b := ⟨_, rfl⟩
    have hfb := fun (W : World) v h => frame_bytes k v b W h (by rw [← HN.out]; omega)
    have hrb := fun (W : World) h => ref_bytes k (.slice A n c) b W h (by rw [← HN.out]; omega)
    rw [← hr] at hfb hrb
    simp only [Bytesed] at hfb hrb
    have hrr : ((r : Int) != (r : Int)) = false := by simp
    have HFB := Lib.hid hfb
    have HRB := Lib.hid hrb
    have HR := Lib.hid hr
    clear hfb hrb hr
    have hnx := fun (W : World) (g : Nat) lost (h : IsRing W g 4096 out lost) (hz : r = 0) => next_any g 4096 out lost W h (out.length + 1) (by omega)
    have hnx2 : r = 0 → nextM 4096 (out.length + 1) out = (0, true, k.toNat, b, []) := fun hz => by
      have := next_bytes (k := k.toNat) (size := 4096) (b := b) (out := out) (by rw [← HR.out, hz]) (by decide) [] out.length
      simpa using this
    have hol : r = 0 → out.length ≤ 1031 := fun hz => (bytesM_len (k := k.toNat) (b := b) (out := out) (by rw [← HR.out, hz])).2
    have HNX := Lib.hid hnx
    have HNX2 := Lib.hid hnx2
    have HOL := Lib.hid hol
    have hop : r = 0 → 0 < out.length := fun hz => by
      rcases bytesM_zero (k := k.toNat) (b := b) (out := out) (by rw [← HR.out, hz]) with ⟨_, _, _, rfl⟩ | ⟨_, _, _, _, _, rfl⟩ | ⟨_, _, rfl⟩ <;> simp
    have HOP := Lib.hid hop
    clear hop
    clear hnx hnx2 hol
    by_cases hr0 : r = 0
    · have hrz : ((r : Int) != 0) = false := by simp [hr0]
      have HR0 := Lib.hid hr0
      clear hr0
      have tok1 : True := trivial
      go_enter Try.func6, Try.ntmps6
      go_wp2_with (first | (at_builtin; have tk := tok1; clear tk tok1; go_must (refine wpList_append_bytes rfl (.tmp 18) (.tmp 20) rfl w.heap.size (.slice (some ⟨w.heap.size + 1, 0, none⟩) 0 0) (.slice A n c) [] b rfl (own_madeg (L := []) rfl (by simp) rfl (by simp) (by simp)) rfl ((HB.out.alloc _).alloc _) (by have := HN.out; simp; omega) (by simp; omega) ?_; intro v1 w1 ho1 hg1; rw [List.nil_append] at ho1; obtain ⟨A1, c1, rfl, hz1, _⟩ := ho1.bs.form HN.out.symm; clear hz1; have X1 := Lib.hid (((Ext.refl (OneB (w.heap.size + 1)) _).grown hg1 (fun k hk => .inr (show k = w.heap.size + 1 by simpa [Value.ownBlock] using hk.symm))).heap (heap_keep (heap_alloc_same w _)) (by show ¬ w.heap.size = w.heap.size + 1; omega)); have B1 := Lib.hid (Below.grown (by repeat (first | with_reducible exact Below.refl _ _ | with_reducible exact Below.refl _ _ | with_reducible refine below_drew1 ?_ | with_reducible refine below_drewN1 ?_ _ | with_reducible refine below_alloc1 ?_ _ | with_reducible refine below_setb (by first | exact Nat.le_refl _ | omega) ?_)) hg1 (by simp; omega) (row_ge (by omega)) : Below w.heap.size w w1); have O1 := Lib.hid ho1.bs; clear ho1 hg1; have s1 := heap_lt X1.out; have c10 := cell_of X1.out 0; have c11 := cell_of X1.out 1)) | (go_at_call 32; go_must (refine (HFB.out _ _ O1.out).mono ?_; rintro e w2 ⟨⟨v2, rfl, hv2, fv2⟩, hb2⟩; obtain ⟨A2, c2, rfl, hz2, hv2⟩ := hv2.form rfl; clear hz2; have B2 := Lib.hid (below_more B1.out hb2 (Nat.le_refl _)); have X2 := Lib.hid ((Ext.of_below (S := NoB) hb2).heap X1.out (fun x => x)); have O2 := Lib.hid (O1.out.below hb2); have V2 := Lib.hid hv2; clear hb2 hv2 fv2 c10 c11 s1; have s2 := heap_lt X2.out; have c20 := cell_of X2.out 0; have c21 := cell_of X2.out 1)) | (go_at_call 33; go_must (refine (HRB.out _ (HB.out.below B2.out)).mono ?_; rintro e w3 ⟨⟨v3, rfl, hv3, fv3⟩, hb3⟩; obtain ⟨A3, c3, rfl, hz3, hv3⟩ := hv3.form rfl; clear hz3; have B3 := Lib.hid (below_more B2.out hb3 (Nat.le_refl _)); have X3 := Lib.hid ((Ext.of_below (S := NoB) hb3).heap X2.out (fun x => x)); have O3 := Lib.hid (O2.out.below hb3); have U3 := Lib.hid (V2.out.below hb3); have V3 := Lib.hid hv3; clear hb3 hv3 fv3 c20 c21 s2; have s3 := heap_lt X3.out; have c30 := cell_of X3.out 0; have c31 := cell_of X3.out 1; have k1 := conv_bs O3.out; have k2 := conv_bs U3.out; have k3 := conv_bs V3.out; have k4 := conv_bs (HB.out.below B3.out))) | (go_at_call 21; go_must (refine (ring_new_ok 4096 _ (by decide) (by decide)).mono ?_; rintro e w4 ⟨g, rfl, hr4, hg4, hb4⟩; have R4 := Lib.hid hr4; have G4 := Lib.hid hg4; have B4 := Lib.hid (below_more B3.out hb4 (Nat.le_refl _)); have X4 := Lib.hid ((Ext.of_below (S := NoB) hb4).heap X3.out (fun x => x)); have V4 := Lib.hid (U3.out.below hb4); have E43 : Hid (Ext (OneB g) w3 w4) := Lib.hid (Ext.of_below hb4); have NE4 : Hid (∀ x, x < w3.heap.size → ¬ x = g) := Lib.hid (fun x hx e => by omega); clear hr4 hg4 hb4 c30 c31 s3 k1 k2 k3 k4)) | (go_at_call 23; go_must (refine (ring_put g 4096 [] out 0 (.slice A2 out.length c2) _ R4.out V4.out (by have := HOL.out HR0.out; omega) (fun e => absurd rfl (NE4.out g (U3.out.own_lt (HOP.out HR0.out) g e))) (by decide)).mono ?_; rintro e w5 ⟨rfl, hr5, he5⟩; rw [putL_nil (by have := HOL.out HR0.out; omega) (by decide)] at hr5; have R5 := Lib.hid hr5; have E5 := Lib.hid he5; clear hr5 he5)) | (go_at_call 25; go_must (refine (HNX.out _ _ _ R5.out HR0.out).mono ?_; rw [HNX2.out HR0.out]; rintro e w6 ⟨⟨v6, rfl, hv6, fv6⟩, hr6, he6⟩; obtain ⟨A6, c6, rfl, hz6, hv6⟩ := hv6.form HN.out.symm; clear hz6; have R6 := Lib.hid hr6; have hs3 : w.heap.size < w3.heap.size := heap_lt X3.out; have hne : ¬ w.heap.size = g := NE4.out _ hs3; have E6 := Lib.hid (E5.out.same he6); have X6 := Lib.hid (E6.out.heap X4.out hne); have V6 := Lib.hid hv6; have B6 := Lib.hid (((Ext.of_below (S := OneB g) B4.out).same E6.out).belowN (fun x hx e => NE4.out x (by omega) e)); have O6 := Lib.hid ((HB.out.below B3.out).kept ((E43.out).same E6.out) (fun x hx _ e => NE4.out x hx e)); clear hr6 he6 hv6 fv6 hs3 hne; have s6 := heap_lt X6.out; have c60 := cell_of X6.out 0; have c61 := cell_of X6.out 1)) | (go_at_call 31; go_must (refine (ring_len g 4096 [] _ _ (R6.out.alloc _)).mono ?_; rintro e w' ⟨rfl, rfl⟩)) | (go_at_call 27; go_must (refine (ref_same _ _ [(k.toNat, b)] [(k.toNat, b)] _ ((Fss.oneg (g := w6.heap.size + 1) (by simp) (V6.out.alloc _) _).alloc _) (Fss.oneg (g := w6.heap.size + 2) (by simp) ((O6.out.alloc _).alloc _) _) (by simp) (by simp)).mono ?_; rintro e w' ⟨rfl, nq, rfl⟩)) | (go_at_call 22; go_must (refine (known_any _).mono ?_; rintro e w7 ⟨rfl, hb7⟩; have B7 := Lib.hid hb7; clear hb7)))
      go_ret
      exact ⟨rfl, (by repeat (first | with_reducible exact B6.out | with_reducible exact Below.refl _ _ | with_reducible refine below_drew1 ?_ | with_reducible refine below_drewN1 ?_ _ | with_reducible refine below_alloc1 ?_ _ | with_reducible refine below_setb (by first | exact Nat.le_refl _ | omega) ?_ | with_reducible refine below_step ?_ B7.out))⟩
    · have hrz : ((r : Int) != 0) = true := by simp; omega
      have HR0 := Lib.hid hr0
      clear hr0
      have tok1 : True := trivial
      go_enter Try.func6, Try.ntmps6
      go_wp2_with (first | (at_builtin; have tk := tok1; clear tk tok1; go_must (refine wpList_append_bytes rfl (.tmp 18) (.tmp 20) rfl w.heap.size (.slice (some ⟨w.heap.size + 1, 0, none⟩) 0 0) (.slice A n c) [] b rfl (own_madeg (L := []) rfl (by simp) rfl (by simp) (by simp)) rfl ((HB.out.alloc _).alloc _) (by have := HN.out; simp; omega) (by simp; omega) ?_; intro v1 w1 ho1 hg1; rw [List.nil_append] at ho1; obtain ⟨A1, c1, rfl, hz1, _⟩ := ho1.bs.form HN.out.symm; clear hz1; have X1 := Lib.hid (((Ext.refl (OneB (w.heap.size + 1)) _).grown hg1 (fun k hk => .inr (show k = w.heap.size + 1 by simpa [Value.ownBlock] using hk.symm))).heap (heap_keep (heap_alloc_same w _)) (by show ¬ w.heap.size = w.heap.size + 1; omega)); have B1 := Lib.hid (Below.grown (by repeat (first | with_reducible exact Below.refl _ _ | with_reducible exact Below.refl _ _ | with_reducible refine below_drew1 ?_ | with_reducible refine below_drewN1 ?_ _ | with_reducible refine below_alloc1 ?_ _ | with_reducible refine below_setb (by first | exact Nat.le_refl _ | omega) ?_)) hg1 (by simp; omega) (row_ge (by omega)) : Below w.heap.size w w1); have O1 := Lib.hid ho1.bs; clear ho1 hg1; have s1 := heap_lt X1.out; have c10 := cell_of X1.out 0; have c11 := cell_of X1.out 1)) | (go_at_call 32; go_must (refine (HFB.out _ _ O1.out).mono ?_; rintro e w2 ⟨⟨v2, rfl, hv2, fv2⟩, hb2⟩; obtain ⟨A2, c2, rfl, hz2, hv2⟩ := hv2.form rfl; clear hz2; have B2 := Lib.hid (below_more B1.out hb2 (Nat.le_refl _)); have X2 := Lib.hid ((Ext.of_below (S := NoB) hb2).heap X1.out (fun x => x)); have O2 := Lib.hid (O1.out.below hb2); have V2 := Lib.hid hv2; clear hb2 hv2 fv2 c10 c11 s1; have s2 := heap_lt X2.out; have c20 := cell_of X2.out 0; have c21 := cell_of X2.out 1)) | (go_at_call 33; go_must (refine (HRB.out _ (HB.out.below B2.out)).mono ?_; rintro e w3 ⟨⟨v3, rfl, hv3, fv3⟩, hb3⟩; obtain ⟨A3, c3, rfl, hz3, hv3⟩ := hv3.form rfl; clear hz3; have B3 := Lib.hid (below_more B2.out hb3 (Nat.le_refl _)); have X3 := Lib.hid ((Ext.of_below (S := NoB) hb3).heap X2.out (fun x => x)); have O3 := Lib.hid (O2.out.below hb3); have U3 := Lib.hid (V2.out.below hb3); have V3 := Lib.hid hv3; clear hb3 hv3 fv3 c20 c21 s2; have s3 := heap_lt X3.out; have c30 := cell_of X3.out 0; have c31 := cell_of X3.out 1; have k1 := conv_bs O3.out; have k2 := conv_bs U3.out; have k3 := conv_bs V3.out; have k4 := conv_bs (HB.out.below B3.out))) | (go_at_call 22; go_must (refine (known_any _).mono ?_; rintro e w4 ⟨rfl, hb4⟩; have B4 := Lib.hid (below_more B3.out hb4 (Nat.le_refl _)); clear hb4)))
      go_ret
      exact ⟨rfl, B4.out⟩
end Go.Proofs.Ytfgglffjigolhaa
