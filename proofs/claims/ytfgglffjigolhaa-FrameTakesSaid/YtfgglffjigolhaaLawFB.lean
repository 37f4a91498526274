/- The frames' laws: known. -/
import Derived.Test.YtfgglffjigolhaaLawFA
import Derived.Test.YtfgglffjigolhaaStr
import Derived.Lib.SmallJoins
namespace Go.Proofs.Ytfgglffjigolhaa
open Go.RowKit

theorem known1 : nextM 64 8 [36, 65, 42, 52, 49, 13, 10] = (0, true, 1, [65], []) := by kernel_rfl
theorem known2 : nextM 64 10 [120, 181, 98, 1, 2, 0, 0, 3, 10] = (1, true, 2, [1, 2], []) := by kernel_rfl
theorem known3 : nextM 64 8 [36, 65, 42, 52, 50, 13, 10] = (7, false, 0, [], []) := by kernel_rfl
theorem known4 : nextM 64 3 [36, 65] = (0, false, 0, [], [36, 65]) := by kernel_rfl
theorem bs_mark {w : World} {cs : Array Value} {n g : Nat} {L : List UInt8} {fr : Nat × Nat} (hcs : cs.toList = L.map bv) (hn : n = L.length) (hg : g = w.heap.size) :
    Bs (w.alloc (.cells cs 5 fr)) (.slice (some ⟨g, 0, none⟩) n n) L := by
  subst hn hg
  refine ⟨_, _, rfl, Nat.le_refl _, fun i hi => ⟨w.heap.size, 0, rfl, ?_⟩⟩
  rw [Nat.zero_add, World.cell?_alloc_mark, ← Array.getElem?_toList, hcs]
  simp [hi]
theorem lt_own {w : World} {g l c : Nat} (h : g < w.heap.size) : ∀ k, (Value.slice (some ⟨g, 0, none⟩) l c).ownBlock = some k → k < w.heap.size := by
  intro k hk
  have : g = k := by simpa [Value.ownBlock] using hk
  omega

set_option maxRecDepth 100000 in
set_option maxHeartbeats 1600000 in
theorem known_any (w : World) :
    Calls Try.prog 22 #[] w fun e w' => e = .returned (.bool true) ∧ Below w.heap.size w w' := by
  have kc := fun (w : World) (C : Array Value) (n c g : Nat) (hg : g = w.heap.size) => Joins.run_convert_bytes_const_at (P := Try.prog) w 30 5 C n c g hg Try.underlying30 Try.underlying5
  have tok1 : True := trivial
  go_enter Try.func22, Try.ntmps22
  go_wp2_with (first | (go_at_call 59; have tk := tok1; clear tk tok1; go_must (refine (of_any _ [36, 65, 42, 52, 49, 13, 10] _ (bs_mark (L := [36, 65, 42, 52, 49, 13, 10]) rfl rfl (by simp)) (lt_own (by simp)) (by decide) 8 (by decide)).mono ?_; rintro e w1 ⟨h, hb1⟩; rw [known1] at h; obtain ⟨v1, rfl, hv1, _⟩ := h; obtain ⟨A1, c1, rfl, hn1, hv1⟩ := hv1.form (n := 1) rfl; have B1 := Lib.hid (below_unalloc hb1); have V1 := Lib.hid hv1; clear hb1 hv1; have tok2 : True := trivial)) | (go_at_call 59; have tk := tok2; clear tk tok2; go_must (refine (of_any _ [120, 181, 98, 1, 2, 0, 0, 3, 10] _ (bs_mark (L := [120, 181, 98, 1, 2, 0, 0, 3, 10]) rfl rfl (by simp)) (lt_own (by simp)) (by decide) 10 (by decide)).mono ?_; rintro e w2 ⟨h, hb2⟩; rw [known2] at h; obtain ⟨v2, rfl, hv2, _⟩ := h; obtain ⟨A2, c2, rfl, hn2, hv2⟩ := hv2.form (n := 2) rfl; have F1 := Lib.hid ((Ext.of_below (S := NoB) hb2).heap (heap_keep (heap_alloc_same w1 _)) (fun x => x)); have U1 := Lib.hid (((V1.out.alloc _).alloc _).below hb2); have B2 := Lib.hid (below_more (below_alloc1 (below_alloc1 B1.out _) _) hb2 (Nat.le_refl _)); clear hb2 hv2; have tok3 : True := trivial)) | (go_at_call 59; have tk := tok3; clear tk tok3; go_must (refine (of_any _ [36, 65, 42, 52, 50, 13, 10] _ (bs_mark (L := [36, 65, 42, 52, 50, 13, 10]) rfl rfl (by simp)) (lt_own (by simp)) (by decide) 8 (by decide)).mono ?_; rintro e w3 ⟨h, hb3⟩; rw [known3] at h; obtain ⟨v3, rfl, hv3, _⟩ := h; obtain ⟨A3, c3, rfl, hn3, hv3⟩ := hv3.form (n := 0) rfl; have G1 := Lib.hid ((Ext.of_below (S := NoB) hb3).heap (heap_keep (heap_keep F1.out)) (fun x => x)); have G2 := Lib.hid ((Ext.of_below (S := NoB) hb3).heap (heap_keep (heap_alloc_same w2 _)) (fun x => x)); have T1 := Lib.hid (((U1.out.alloc _).alloc _).below hb3); have B3 := Lib.hid (below_more (below_alloc1 (below_alloc1 B2.out _) _) hb3 (Nat.le_refl _)); clear hb3 hv3; have tok4 : True := trivial)) | (go_at_call 59; have tk := tok4; clear tk tok4; go_must (refine (of_any _ [36, 65] _ (bs_mark (L := [36, 65]) rfl rfl (by simp)) (lt_own (by simp)) (by decide) 3 (by decide)).mono ?_; rintro e w4 ⟨h, hb4⟩; rw [known4] at h; obtain ⟨v4, rfl, hv4, _⟩ := h; obtain ⟨A4, c4, rfl, hn4, hv4⟩ := hv4.form (n := 0) rfl; have H1 := Lib.hid ((Ext.of_below (S := NoB) hb4).heap (heap_keep (heap_keep G1.out)) (fun x => x)); have H2 := Lib.hid ((Ext.of_below (S := NoB) hb4).heap (heap_keep (heap_keep G2.out)) (fun x => x)); have S1 := ((T1.out.alloc _).alloc _).below hb4; have kcv := fun o => conv_bs (S1.alloc o); clear S1; have B4 := Lib.hid (below_more (below_alloc1 (below_alloc1 B3.out _) _) hb4 (Nat.le_refl _)); clear hb4 hv4; have s1 := heap_lt H1.out; have s2 := heap_lt H2.out; have d1 := cell_of H1.out 0; have d2 := cell_of H1.out 1; have d3 := cell_of H2.out 0; have d4 := cell_of H2.out 1)))
  go_ret
  exact ⟨rfl, (by repeat (first | with_reducible exact B4.out | with_reducible exact Below.refl _ _ | with_reducible refine below_drew1 ?_ | with_reducible refine below_drewN1 ?_ _ | with_reducible refine below_alloc1 ?_ _ | with_reducible refine below_setb (by first | exact Nat.le_refl _ | omega) ?_))⟩
end Go.Proofs.Ytfgglffjigolhaa
