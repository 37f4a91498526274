/- The frames' laws: of. -/
import Derived.Test.YtfgglffjigolhaaFrameG
namespace Go.Proofs.Ytfgglffjigolhaa
open Go.RowKit

theorem putL_nil {size : Nat} {b : List UInt8} (h : b.length ≤ size) (h0 : 0 < size) : putL size [] b = b := by
  rw [putL_eq b (Nat.zero_le _) h0]
  simp [Nat.sub_eq_zero_of_le h]

set_option maxRecDepth 100000 in
set_option maxHeartbeats 1600000 in
theorem of_any (v : Value) (b : List UInt8) (w : World) (hB : Bs w v b) (hv : ∀ k, v.ownBlock = some k → k < w.heap.size) (hl : b.length ≤ 64) (f : Nat) (hf : b.length < f) :
    Calls Try.prog 59 #[v] w fun e w' => Nexted w.heap.size w' e (nextM 64 f b).1 (nextM 64 f b).2.1 (nextM 64 f b).2.2.1 (nextM 64 f b).2.2.2.1 ∧ Below w.heap.size w w' := by
  have HB := Lib.hid (hB.alloc (.cells #[.int .u8 0, .slice none 0 0] 39))
  have hpl := putL_nil hl (show 0 < 64 by decide)
  have HPL := Lib.hid hpl
  have HV := Lib.hid hv
  have hnx := fun g lost W h => next_any g 64 b lost W h f hf
  obtain ⟨⟨d, ok, k, bb, rest⟩, hr⟩ : ∃ r, r = nextM 64 f b := ⟨_, rfl⟩
  rw [← hr] at hnx ⊢
  simp only [Nexted] at hnx ⊢
  have HNX := Lib.hid hnx
  clear hB hpl hv hnx hr
  go_enter Try.func59, Try.ntmps59
  go_wp2_with (first | (go_at_call 21; go_must (refine (ring_new_ok 64 _ (by decide) (by decide)).mono ?_; rintro e w1 ⟨g, rfl, hr1, hg1, hb1⟩; have R1 := Lib.hid hr1; have G1 := Lib.hid hg1; have B1 := Lib.hid hb1; clear hr1 hg1 hb1)) | (go_at_call 23; go_must (refine (ring_put g 64 [] b 0 v _ R1.out (HB.out.below B1.out) (by omega) (fun e => absurd (HV.out g e) (by have h2 := G1.out; simp at h2; omega)) (by decide)).mono ?_; rintro e w2 ⟨rfl, hr2, he2⟩; rw [HPL.out] at hr2; have R2 := Lib.hid hr2; have E2 := Lib.hid he2; clear hr2 he2)) | (go_at_call 25; go_must (refine (HNX.out _ _ _ R2.out).mono ?_; rintro e w3 ⟨⟨u, rfl, hu, fu⟩, _, he3⟩; obtain ⟨A, cp, rfl, hnc, hu⟩ := hu.form rfl; have E3 := Lib.hid he3; have U := Lib.hid hu; have FU := Lib.hid fu; clear he3 hu fu; have H3 := Lib.hid ((E3.out.heap (E2.out.heap (below_newHeap B1.out) (fun e => by have h2 := G1.out; have h3 : w.heap.size = g := e; simp at h2; omega)) (fun e => by have h2 := G1.out; have h3 : w.heap.size = g := e; simp at h2; omega))); have hc1 := cell_of H3.out 0; have hc2 := cell_of H3.out 1; have hf1 := frozen_of H3.out 0 none; have hf2 := frozen_of H3.out 1 none)))
  have hq := fin_cells H3.out (.int .u8 (k : Int)) (.slice A bb.length cp)
  have hq0 := cell_of hq 0
  have hq1 := cell_of hq 1
  have hg2 : w.heap.size < g := by have h2 := G1.out; simp at h2; omega
  have hs : w.heap.size + 1 ≤ w2.heap.size := by have h1 := E2.out.size; have h2 := B1.out.size; simp at h2; omega
  have hbl : Below w.heap.size w w3 := (((Ext.of_below (S := OneB g) (below_unalloc B1.out)).same E2.out).same E3.out).belowN (fun x hx e => by have : x = g := e; omega)
  refine bodyPost_ret (v := .tuple #[.agg #[.int .u8 (k : Int), .slice A bb.length cp], .bool ok, .int .i64 (d : Int)]) (by simp [results, Try.results59, go_sem, hq0, hq1]) rfl ?_
  exact ⟨⟨_, rfl, U.out.set2 (FU.out.low hs) _ _, FU.out.low (by omega)⟩, below_set2 hbl (Nat.le_refl _) _ _⟩
end Go.Proofs.Ytfgglffjigolhaa
