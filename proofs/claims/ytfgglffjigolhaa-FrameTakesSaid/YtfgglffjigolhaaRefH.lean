/- The document's frames: Begin. -/
import Derived.Test.YtfgglffjigolhaaRefG
import Derived.Test.YtfgglffjigolhaaRefA
import Derived.Test.YtfgglffjigolhaaLawFE
namespace Go.Proofs.Ytfgglffjigolhaa
open Go.RowKit

theorem rscan_len : ∀ (xs acc : List UInt8), acc.length ≤ 76 → (rscan xs acc).1.length ≤ 77
  | [], acc, h => by rw [rscan_nil]; simp only; omega
  | x :: xs, acc, h => by
    rw [rscan_cons]
    split
    · simp only; omega
    · split
      · simp only [List.length_append, List.length_cons, List.length_nil]; omega
      · exact rscan_len xs (acc ++ [x]) (by simp only [List.length_append, List.length_cons, List.length_nil]; omega)
theorem refBodyM_len (size : Nat) (L : List UInt8) : (refBodyM size L).2.1.length ≤ 1100 ∧ (refBodyM size L).1 ≤ 3 := by
  unfold refBodyM
  cases L with
  | nil => simp
  | cons c xs =>
    simp only
    split
    · have := rscan_len xs [] (by simp)
      simp only; omega
    · split
      · (repeat' split) <;> simp only [List.length_nil, List.length_cons, List.length_drop, List.length_take] <;> omega
      · split
        · (repeat' split) <;> simp only [List.length_nil, List.length_cons, List.length_drop, List.length_take] <;> omega
        · simp
def RBegun (B : Nat) (w' : World) (e : Ending) (r : Nat × Nat × Nat × List UInt8) : Prop :=
  ∃ v, e = .returned (.tuple #[.int .i64 (r.1 : Int), .agg #[.int .u8 (r.2.2.1 : Int), v], .int .i64 (r.2.1 : Int)]) ∧ Bs w' v r.2.2.2 ∧ Fresh B v

set_option maxRecDepth 100000 in
set_option maxHeartbeats 1600000 in
theorem ref_begin_nil (g size : Nat) (w : World) (h : RefRing w g size []) :
    Calls Try.prog 65 #[.pointer (some ⟨g, 0, none⟩)] w fun e w' => RBegun w.heap.size w' e (0, 0, 0, []) ∧ Below w.heap.size w w' := by
  obtain ⟨v, lost, h1, h2, h3⟩ := h
  obtain ⟨A, c, rfl, hle, hb⟩ := h2.form (n := 0) rfl
  have hlt := heap_lt h1
  have c0 := cell_of h1 0
  have c1 := cell_of h1 1
  clear h2 h3 hb h1
  go_enter Try.func65, Try.ntmps65
  go_wp2_with fail
  refine bodyPost_ret (v := .tuple #[.int .i64 0, .agg #[.int .u8 0, .slice none 0 0], .int .i64 0]) (by simp [results, Try.results65, go_sem]) rfl ?_
  exact ⟨⟨_, rfl, Bs.nil _, Fresh.nil _ _ _⟩, (by repeat (first | with_reducible exact Below.refl _ _ | with_reducible exact Below.refl _ _ | with_reducible refine below_drew1 ?_ | with_reducible refine below_drewN1 ?_ _ | with_reducible refine below_alloc1 ?_ _ | with_reducible refine below_setb (by first | exact Nat.le_refl _ | omega) ?_))⟩

theorem keep_set2 {w : World} {g i P : Nat} {a b v : Value} (h : w.cell? ⟨g, i, none⟩ = some v) (hne : ¬ g = P) : ((w.setCell ⟨P, 0, none⟩ a).setCell ⟨P, 1, none⟩ b).cell? ⟨g, i, none⟩ = some v :=
  (((Ext.refl (OneB P) w).set1 0 a).set1 1 b).cellv h (fun e => hne e)
/-- The state behind body's call: the two boxes, the body. -/
structure Mid (w w2 : World) (g size n c : Nat) (A : Option Addr) (P k : Nat) (u : Value) (b : List UInt8) : Prop where
  box : w2.heap[w.heap.size]? = some (.cells #[.int .u8 0, .slice none 0 0] 39 (0, 0))
  cur : w2.heap[P]? = some (.cells #[.int .u8 (k : Int), u] 39 (0, 0))
  below : Below w.heap.size w w2
  bs : Bs w2 u b
  fresh : Fresh (w.heap.size + 1) u
  far : w.heap.size < P
  d0 : w2.cell? ⟨g, 0, none⟩ = some (.int .i64 (size : Int))
  d1 : w2.cell? ⟨g, 1, none⟩ = some (.slice A n c)
theorem Mid.next {w w2 w3 : World} {g size n c : Nat} {A : Option Addr} {P k : Nat} {u : Value} {b : List UInt8} (h : Mid w w2 g size n c A P k u b) (hb : Below w2.heap.size w2 w3) : Mid w w3 g size n c A P k u b :=
  ⟨(Ext.of_below (S := NoB) hb).heap h.box (fun x => x), (Ext.of_below (S := NoB) hb).heap h.cur (fun x => x), below_more h.below hb (Nat.le_refl _), h.bs.below hb, h.fresh, h.far, below_keep hb h.d0, below_keep hb h.d1⟩
theorem Mid.drewN {w w2 : World} {g size n c : Nat} {A : Option Addr} {P k : Nat} {u : Value} {b : List UInt8} (h : Mid w w2 g size n c A P k u b) (d : Nat) : Mid w (w2.drewN d) g size n c A P k u b :=
  ⟨h.box, h.cur, below_drewN1 h.below d, h.bs, h.fresh, h.far, h.d0, h.d1⟩
theorem Bs.set2' {w5 : World} {v : Value} {L : List UInt8} {r B : Nat} (h : Bs w5 v L) (hf : Fresh B v) (hr : r < B) (a b : Value) : Bs ((w5.setCell ⟨r, 0, none⟩ a).setCell ⟨r, 1, none⟩ b) v L :=
  h.kept (S := OneB r) (((Ext.refl _ _).set1 0 a).set1 1 b) (fun g _ hg e => by have h1 := hf g hg; have h2 : g = r := e; omega)
set_option maxRecDepth 100000 in
set_option maxHeartbeats 3200000 in
theorem ref_begin_not (g size : Nat) (L : List UInt8) (w : World) (h : RefRing w g size L) (hne : L ≠ []) (hth : ¬ (refBodyM size L).2.2 = (true, false)) (hl : L.length ≤ size) (hs : size ≤ 4096) :
    Calls Try.prog 65 #[.pointer (some ⟨g, 0, none⟩)] w fun e w' => RBegun w.heap.size w' e (refBeginM size L) ∧ Below w.heap.size w w' := by
  obtain ⟨v, lost, h1, h2, h3⟩ := h
  obtain ⟨n, hn⟩ : ∃ n, n = L.length := ⟨_, rfl⟩
  obtain ⟨A, c, rfl, hle, hb⟩ := h2.form hn.symm
  have hlt := heap_lt h1
  have c0 : w.cell? ⟨g, 0, none⟩ = some (.int .i64 (size : Int)) := (cell_of h1 0).trans rfl
  have c1 : w.cell? ⟨g, 1, none⟩ = some (.slice A n c) := (cell_of h1 1).trans rfl
  have C01 := Lib.hid (And.intro c0 c1)
  have hn0 : 0 < n := by rw [hn]; exact List.length_pos_iff.mpr hne
  have hn1 : ((n : Int) == 0) = false := by simp; omega
  have hbody := fun (W : World) hB => ref_body_any size (.slice A n c) L W hB hne (by omega) (by omega)
  have hbl := refBodyM_len size L
  have hm := show refBeginM size L = _ from by unfold refBeginM; rw [if_neg hne]
  obtain ⟨⟨k, b, there, wrong⟩, hr⟩ : ∃ r, r = refBodyM size L := ⟨_, rfl⟩
  rw [← hr] at hbody hbl hm hth
  simp only [Bodied] at hbody
  simp only at hbl hm
  rw [← hn] at hm hl
  have HBODY := Lib.hid hbody
  have HB := Lib.hid hb
  have HN := Lib.hid hn
  clear h2 h3 hb h1 hbody hr hn hne
  cases wrong with
  | true =>
    rw [if_pos rfl] at hm
    rw [hm]
    clear hm
    go_enter Try.func65, Try.ntmps65
    go_wp2_with fail
    go_region_held3 (fun w' => w'.cell? ⟨g, 0, none⟩ = some (.int .i64 (size : Int)) ∧ w'.cell? ⟨g, 1, none⟩ = some (.slice A n c)) (first | exact ⟨d0, d1⟩ | exact ⟨keep_set2 d0 (by omega), keep_set2 d1 (by omega)⟩ | (go_keep; done))
      ((go_at_call 100; go_must (refine (HBODY.out _ (by repeat (any_goals (first | with_reducible exact HB.out | with_reducible exact HB.out.bs | with_reducible refine Bs.drew ?_ | with_reducible refine Bss.drew ?_ | with_reducible refine IsRing.drew ?_ | with_reducible refine Bs.drewN ?_ _ | with_reducible refine Bss.drewN ?_ _ | with_reducible refine IsRing.drewN ?_ _ | (with_reducible refine own2_bsi ?_ ?_ ?_; focus (simp; done)) | (with_reducible refine own1_bsi ?_ ?_; focus (simp; done)) | (with_reducible refine own4_bsi ?_ ?_ ?_ ?_ ?_; focus (simp; done)) | with_reducible rfl | with_reducible assumption | (with_reducible refine Bss.made2g 30 ?_ ?_ ?_; focus (simp; done)) | (with_reducible refine Bss.made3g 30 ?_ ?_ ?_ ?_; focus (simp; done)) | with_reducible refine Bs.alloc ?_ _ | with_reducible refine Bss.alloc ?_ _ | with_reducible refine IsRing.alloc ?_ _ | rfl)))).mono ?_; rintro e w1 ⟨⟨u, rfl, hu, fu⟩, hb1⟩; obtain ⟨Au, cu, rfl, hzu, hu⟩ := hu.form rfl; clear hzu; have b1 : Below w.heap.size w w1 := ((by repeat (first | with_reducible exact Below.refl _ _ | with_reducible exact Below.refl _ _ | with_reducible refine below_drew1 ?_ | with_reducible refine below_drewN1 ?_ _ | with_reducible refine below_alloc1 ?_ _ | with_reducible refine below_setb (by first | exact Nat.le_refl _ | omega) ?_ | with_reducible refine below_step ?_ hb1))); have d0 := below_keep b1 C01.out.1; have d1 := below_keep b1 C01.out.2; have x1 : w1.heap[w.heap.size]? = some (.cells #[.int .u8 0, .slice none 0 0] 39 (0, 0)) := ((hb1.block w.heap.size (by simp; try omega)).trans (by first | exact heap_alloc_same w _ | exact heap_keep (heap_alloc_same w _))); (try (have x5 : w1.heap[w.heap.size + 1]? = some (.cells #[.int .u8 0, .slice none 0 0] 39 (0, 0)) := ((hb1.block (w.heap.size + 1) (by simp; done)).trans (heap_alloc2 w _ _)); have e50 := cell_of x5 0; have e51 := cell_of x5 1; have f50 := frozen_of x5 0 none; have f51 := frozen_of x5 1 none; have X5 := Lib.hid x5; clear x5)); have X1 := Lib.hid x1; have B1 := Lib.hid b1; clear x1 b1; have U1 := Lib.hid hu; have F1 := Lib.hid fu; have s1 := hb1.size; clear hb1 hu fu)))
    all_goals
      first
        | obtain ⟨P, hP⟩ : ∃ P, P = w.heap.size + 1 := ⟨_, rfl⟩
          obtain ⟨w2, hw2⟩ : ∃ w2, w2 = (w1.setCell ⟨w.heap.size + 1, 0, none⟩ (.int .u8 (k : Int))).setCell ⟨w.heap.size + 1, 1, none⟩ (.slice Au b.length cu) := ⟨_, rfl⟩
          rw [← hw2, ← hP]
          have M : Mid w w2 g size n c A P k (.slice Au b.length cu) b := by
            rw [hw2, hP]
            exact ⟨by rw [heap_setCell_other (by show ¬ w.heap.size = w.heap.size + 1; omega), heap_setCell_other (by show ¬ w.heap.size = w.heap.size + 1; omega)]; exact X1.out, fin_cells X5.out _ _, below_set2 B1.out (by omega) _ _,
               U1.out.set2' (B := w.heap.size + 2) (F1.out.low (by simp)) (by omega) _ _, F1.out.low (by simp), by omega, keep_set2 d0 (by omega), keep_set2 d1 (by omega)⟩
        | obtain ⟨P, hP⟩ : ∃ P, P = w1.heap.size := ⟨_, rfl⟩
          obtain ⟨w2, hw2⟩ : ∃ w2, w2 = w1.alloc (.cells #[.int .u8 (k : Int), .slice Au b.length cu] 39) := ⟨_, rfl⟩
          rw [← hw2, ← hP]
          have M : Mid w w2 g size n c A P k (.slice Au b.length cu) b := by
            rw [hw2, hP]
            exact ⟨heap_keep X1.out, heap_alloc_same w1 _, below_alloc1 B1.out _, U1.out.alloc _, F1.out.low (by simp), by simp at s1; omega, ((Ext.refl NoB w1).alloc _).cellv d0 (fun x => x), ((Ext.refl NoB w1).alloc _).cellv d1 (fun x => x)⟩
      try clear e50 e51 f50 f51 X5
      clear hw2 hP d0 d1 X1 B1 U1 F1 s1
      have hPlt := M.far
      have d0' := M.d0
      have d1' := M.d1
      have k0 := cell_of M.box 0
      have k1 := cell_of M.box 1
      have k2 := cell_of M.cur 0
      have k3 := cell_of M.cur 1
      have f0 := frozen_of M.box 0 none
      have f1 := frozen_of M.box 1 none
      have hneP : ¬ w.heap.size = P := by omega
      have hneP' : ¬ P = w.heap.size := by omega
      have MM := Lib.hid M
      clear M
      go_wp2_with fail
      go_region
      all_goals go_wp2_with fail
      all_goals
        have hq := fin_cells MM.out.box (.int .u8 (k : Int)) (.slice Au b.length cu)
        have hq0 := cell_of hq 0
        have hq1 := cell_of hq 1
        refine bodyPost_ret (v := .tuple #[.int .i64 2, .agg #[.int .u8 (k : Int), .slice Au b.length cu], .int .i64 0]) (by simp [results, Try.results65, go_sem, hq0, hq1]) rfl ?_
        exact ⟨⟨_, rfl, (MM.out.bs.set2 MM.out.fresh _ _).drewN _, MM.out.fresh.low (by omega)⟩, below_drewN (below_set2 MM.out.below (Nat.le_refl _) _ _) _⟩
  | false =>
    rw [if_neg (by decide)] at hm
    cases there with
    | false =>
      rw [if_neg (fun h => absurd h.1 (by decide)), if_neg (fun h => absurd h.1 (by decide))] at hm
      by_cases hns : n = size
      · rw [if_pos hns] at hm
        have hne2 : ((n : Int) == (size : Int)) = true := by simp [hns]
        rw [hm]
        clear hm hns
        go_enter Try.func65, Try.ntmps65
        go_wp2_with fail
        go_region_held3 (fun w' => w'.cell? ⟨g, 0, none⟩ = some (.int .i64 (size : Int)) ∧ w'.cell? ⟨g, 1, none⟩ = some (.slice A n c)) (first | exact ⟨d0, d1⟩ | exact ⟨keep_set2 d0 (by omega), keep_set2 d1 (by omega)⟩ | (go_keep; done))
          ((go_at_call 100; go_must (refine (HBODY.out _ (by repeat (any_goals (first | with_reducible exact HB.out | with_reducible exact HB.out.bs | with_reducible refine Bs.drew ?_ | with_reducible refine Bss.drew ?_ | with_reducible refine IsRing.drew ?_ | with_reducible refine Bs.drewN ?_ _ | with_reducible refine Bss.drewN ?_ _ | with_reducible refine IsRing.drewN ?_ _ | (with_reducible refine own2_bsi ?_ ?_ ?_; focus (simp; done)) | (with_reducible refine own1_bsi ?_ ?_; focus (simp; done)) | (with_reducible refine own4_bsi ?_ ?_ ?_ ?_ ?_; focus (simp; done)) | with_reducible rfl | with_reducible assumption | (with_reducible refine Bss.made2g 30 ?_ ?_ ?_; focus (simp; done)) | (with_reducible refine Bss.made3g 30 ?_ ?_ ?_ ?_; focus (simp; done)) | with_reducible refine Bs.alloc ?_ _ | with_reducible refine Bss.alloc ?_ _ | with_reducible refine IsRing.alloc ?_ _ | rfl)))).mono ?_; rintro e w1 ⟨⟨u, rfl, hu, fu⟩, hb1⟩; obtain ⟨Au, cu, rfl, hzu, hu⟩ := hu.form rfl; clear hzu; have b1 : Below w.heap.size w w1 := ((by repeat (first | with_reducible exact Below.refl _ _ | with_reducible exact Below.refl _ _ | with_reducible refine below_drew1 ?_ | with_reducible refine below_drewN1 ?_ _ | with_reducible refine below_alloc1 ?_ _ | with_reducible refine below_setb (by first | exact Nat.le_refl _ | omega) ?_ | with_reducible refine below_step ?_ hb1))); have d0 := below_keep b1 C01.out.1; have d1 := below_keep b1 C01.out.2; have x1 : w1.heap[w.heap.size]? = some (.cells #[.int .u8 0, .slice none 0 0] 39 (0, 0)) := ((hb1.block w.heap.size (by simp; try omega)).trans (by first | exact heap_alloc_same w _ | exact heap_keep (heap_alloc_same w _))); (try (have x5 : w1.heap[w.heap.size + 1]? = some (.cells #[.int .u8 0, .slice none 0 0] 39 (0, 0)) := ((hb1.block (w.heap.size + 1) (by simp; done)).trans (heap_alloc2 w _ _)); have e50 := cell_of x5 0; have e51 := cell_of x5 1; have f50 := frozen_of x5 0 none; have f51 := frozen_of x5 1 none; have X5 := Lib.hid x5; clear x5)); have X1 := Lib.hid x1; have B1 := Lib.hid b1; clear x1 b1; have U1 := Lib.hid hu; have F1 := Lib.hid fu; have s1 := hb1.size; clear hb1 hu fu)))
        all_goals
          first
            | obtain ⟨P, hP⟩ : ∃ P, P = w.heap.size + 1 := ⟨_, rfl⟩
              obtain ⟨w2, hw2⟩ : ∃ w2, w2 = (w1.setCell ⟨w.heap.size + 1, 0, none⟩ (.int .u8 (k : Int))).setCell ⟨w.heap.size + 1, 1, none⟩ (.slice Au b.length cu) := ⟨_, rfl⟩
              rw [← hw2, ← hP]
              have M : Mid w w2 g size n c A P k (.slice Au b.length cu) b := by
                rw [hw2, hP]
                exact ⟨by rw [heap_setCell_other (by show ¬ w.heap.size = w.heap.size + 1; omega), heap_setCell_other (by show ¬ w.heap.size = w.heap.size + 1; omega)]; exact X1.out, fin_cells X5.out _ _, below_set2 B1.out (by omega) _ _,
                   U1.out.set2' (B := w.heap.size + 2) (F1.out.low (by simp)) (by omega) _ _, F1.out.low (by simp), by omega, keep_set2 d0 (by omega), keep_set2 d1 (by omega)⟩
            | obtain ⟨P, hP⟩ : ∃ P, P = w1.heap.size := ⟨_, rfl⟩
              obtain ⟨w2, hw2⟩ : ∃ w2, w2 = w1.alloc (.cells #[.int .u8 (k : Int), .slice Au b.length cu] 39) := ⟨_, rfl⟩
              rw [← hw2, ← hP]
              have M : Mid w w2 g size n c A P k (.slice Au b.length cu) b := by
                rw [hw2, hP]
                exact ⟨heap_keep X1.out, heap_alloc_same w1 _, below_alloc1 B1.out _, U1.out.alloc _, F1.out.low (by simp), by simp at s1; omega, ((Ext.refl NoB w1).alloc _).cellv d0 (fun x => x), ((Ext.refl NoB w1).alloc _).cellv d1 (fun x => x)⟩
          try clear e50 e51 f50 f51 X5
          clear hw2 hP d0 d1 X1 B1 U1 F1 s1
          have hPlt := M.far
          have d0' := M.d0
          have d1' := M.d1
          have k0 := cell_of M.box 0
          have k1 := cell_of M.box 1
          have k2 := cell_of M.cur 0
          have k3 := cell_of M.cur 1
          have f0 := frozen_of M.box 0 none
          have f1 := frozen_of M.box 1 none
          have hneP : ¬ w.heap.size = P := by omega
          have hneP' : ¬ P = w.heap.size := by omega
          have MM := Lib.hid M
          clear M
          go_wp2_with fail
          go_quiet (fail)
          obtain ⟨w4, hw4⟩ : ∃ x, x = w2.drewN nq := ⟨_, rfl⟩
          rw [← hw4]
          have M : Mid w w4 g size n c A P k (.slice Au b.length cu) b := by rw [hw4]; exact MM.out.drewN nq
          clear MM d0' d1' k0 k1 k2 k3 f0 f1 hneP hneP' hPlt hw4
          have hPlt := M.far
          have d0' := M.d0
          have d1' := M.d1
          have k0 := cell_of M.box 0
          have k1 := cell_of M.box 1
          have k2 := cell_of M.cur 0
          have k3 := cell_of M.cur 1
          have f0 := frozen_of M.box 0 none
          have f1 := frozen_of M.box 1 none
          have hneP : ¬ w.heap.size = P := by omega
          have hneP' : ¬ P = w.heap.size := by omega
          have MM := Lib.hid M
          clear M
          go_wp2_with fail
          go_region
          all_goals go_wp2_with fail
          all_goals
            have hq := fin_cells MM.out.box (.int .u8 (k : Int)) (.slice Au b.length cu)
            have hq0 := cell_of hq 0
            have hq1 := cell_of hq 1
            refine bodyPost_ret (v := .tuple #[.int .i64 2, .agg #[.int .u8 (k : Int), .slice Au b.length cu], .int .i64 0]) (by simp [results, Try.results65, go_sem, hq0, hq1]) rfl ?_
            exact ⟨⟨_, rfl, (MM.out.bs.set2 MM.out.fresh _ _).drewN _, MM.out.fresh.low (by omega)⟩, below_drewN (below_set2 MM.out.below (Nat.le_refl _) _ _) _⟩
      · rw [if_neg hns] at hm
        have hne2 : ((n : Int) == (size : Int)) = false := by simp; omega
        rw [hm]
        clear hm hns
        go_enter Try.func65, Try.ntmps65
        go_wp2_with fail
        go_region_held3 (fun w' => w'.cell? ⟨g, 0, none⟩ = some (.int .i64 (size : Int)) ∧ w'.cell? ⟨g, 1, none⟩ = some (.slice A n c)) (first | exact ⟨d0, d1⟩ | exact ⟨keep_set2 d0 (by omega), keep_set2 d1 (by omega)⟩ | (go_keep; done))
          ((go_at_call 100; go_must (refine (HBODY.out _ (by repeat (any_goals (first | with_reducible exact HB.out | with_reducible exact HB.out.bs | with_reducible refine Bs.drew ?_ | with_reducible refine Bss.drew ?_ | with_reducible refine IsRing.drew ?_ | with_reducible refine Bs.drewN ?_ _ | with_reducible refine Bss.drewN ?_ _ | with_reducible refine IsRing.drewN ?_ _ | (with_reducible refine own2_bsi ?_ ?_ ?_; focus (simp; done)) | (with_reducible refine own1_bsi ?_ ?_; focus (simp; done)) | (with_reducible refine own4_bsi ?_ ?_ ?_ ?_ ?_; focus (simp; done)) | with_reducible rfl | with_reducible assumption | (with_reducible refine Bss.made2g 30 ?_ ?_ ?_; focus (simp; done)) | (with_reducible refine Bss.made3g 30 ?_ ?_ ?_ ?_; focus (simp; done)) | with_reducible refine Bs.alloc ?_ _ | with_reducible refine Bss.alloc ?_ _ | with_reducible refine IsRing.alloc ?_ _ | rfl)))).mono ?_; rintro e w1 ⟨⟨u, rfl, hu, fu⟩, hb1⟩; obtain ⟨Au, cu, rfl, hzu, hu⟩ := hu.form rfl; clear hzu; have b1 : Below w.heap.size w w1 := ((by repeat (first | with_reducible exact Below.refl _ _ | with_reducible exact Below.refl _ _ | with_reducible refine below_drew1 ?_ | with_reducible refine below_drewN1 ?_ _ | with_reducible refine below_alloc1 ?_ _ | with_reducible refine below_setb (by first | exact Nat.le_refl _ | omega) ?_ | with_reducible refine below_step ?_ hb1))); have d0 := below_keep b1 C01.out.1; have d1 := below_keep b1 C01.out.2; have x1 : w1.heap[w.heap.size]? = some (.cells #[.int .u8 0, .slice none 0 0] 39 (0, 0)) := ((hb1.block w.heap.size (by simp; try omega)).trans (by first | exact heap_alloc_same w _ | exact heap_keep (heap_alloc_same w _))); (try (have x5 : w1.heap[w.heap.size + 1]? = some (.cells #[.int .u8 0, .slice none 0 0] 39 (0, 0)) := ((hb1.block (w.heap.size + 1) (by simp; done)).trans (heap_alloc2 w _ _)); have e50 := cell_of x5 0; have e51 := cell_of x5 1; have f50 := frozen_of x5 0 none; have f51 := frozen_of x5 1 none; have X5 := Lib.hid x5; clear x5)); have X1 := Lib.hid x1; have B1 := Lib.hid b1; clear x1 b1; have U1 := Lib.hid hu; have F1 := Lib.hid fu; have s1 := hb1.size; clear hb1 hu fu)))
        all_goals
          first
            | obtain ⟨P, hP⟩ : ∃ P, P = w.heap.size + 1 := ⟨_, rfl⟩
              obtain ⟨w2, hw2⟩ : ∃ w2, w2 = (w1.setCell ⟨w.heap.size + 1, 0, none⟩ (.int .u8 (k : Int))).setCell ⟨w.heap.size + 1, 1, none⟩ (.slice Au b.length cu) := ⟨_, rfl⟩
              rw [← hw2, ← hP]
              have M : Mid w w2 g size n c A P k (.slice Au b.length cu) b := by
                rw [hw2, hP]
                exact ⟨by rw [heap_setCell_other (by show ¬ w.heap.size = w.heap.size + 1; omega), heap_setCell_other (by show ¬ w.heap.size = w.heap.size + 1; omega)]; exact X1.out, fin_cells X5.out _ _, below_set2 B1.out (by omega) _ _,
                   U1.out.set2' (B := w.heap.size + 2) (F1.out.low (by simp)) (by omega) _ _, F1.out.low (by simp), by omega, keep_set2 d0 (by omega), keep_set2 d1 (by omega)⟩
            | obtain ⟨P, hP⟩ : ∃ P, P = w1.heap.size := ⟨_, rfl⟩
              obtain ⟨w2, hw2⟩ : ∃ w2, w2 = w1.alloc (.cells #[.int .u8 (k : Int), .slice Au b.length cu] 39) := ⟨_, rfl⟩
              rw [← hw2, ← hP]
              have M : Mid w w2 g size n c A P k (.slice Au b.length cu) b := by
                rw [hw2, hP]
                exact ⟨heap_keep X1.out, heap_alloc_same w1 _, below_alloc1 B1.out _, U1.out.alloc _, F1.out.low (by simp), by simp at s1; omega, ((Ext.refl NoB w1).alloc _).cellv d0 (fun x => x), ((Ext.refl NoB w1).alloc _).cellv d1 (fun x => x)⟩
          try clear e50 e51 f50 f51 X5
          clear hw2 hP d0 d1 X1 B1 U1 F1 s1
          have hPlt := M.far
          have d0' := M.d0
          have d1' := M.d1
          have k0 := cell_of M.box 0
          have k1 := cell_of M.box 1
          have k2 := cell_of M.cur 0
          have k3 := cell_of M.cur 1
          have f0 := frozen_of M.box 0 none
          have f1 := frozen_of M.box 1 none
          have hneP : ¬ w.heap.size = P := by omega
          have hneP' : ¬ P = w.heap.size := by omega
          have MM := Lib.hid M
          clear M
          go_wp2_with fail
          go_quiet (fail)
          obtain ⟨w4, hw4⟩ : ∃ x, x = w2.drewN nq := ⟨_, rfl⟩
          rw [← hw4]
          have M : Mid w w4 g size n c A P k (.slice Au b.length cu) b := by rw [hw4]; exact MM.out.drewN nq
          clear MM d0' d1' k0 k1 k2 k3 f0 f1 hneP hneP' hPlt hw4
          have hPlt := M.far
          have d0' := M.d0
          have d1' := M.d1
          have k0 := cell_of M.box 0
          have k1 := cell_of M.box 1
          have k2 := cell_of M.cur 0
          have k3 := cell_of M.cur 1
          have f0 := frozen_of M.box 0 none
          have f1 := frozen_of M.box 1 none
          have hneP : ¬ w.heap.size = P := by omega
          have hneP' : ¬ P = w.heap.size := by omega
          have MM := Lib.hid M
          clear M
          go_wp2_with fail
          go_region
          all_goals go_wp2_with fail
          all_goals
            have hq := fin_cells MM.out.box (.int .u8 (k : Int)) (.slice Au b.length cu)
            have hq0 := cell_of hq 0
            have hq1 := cell_of hq 1
            refine bodyPost_ret (v := .tuple #[.int .i64 0, .agg #[.int .u8 (k : Int), .slice Au b.length cu], .int .i64 0]) (by simp [results, Try.results65, go_sem, hq0, hq1]) rfl ?_
            exact ⟨⟨_, rfl, (MM.out.bs.set2 MM.out.fresh _ _).drewN _, MM.out.fresh.low (by omega)⟩, below_drewN (below_set2 MM.out.below (Nat.le_refl _) _ _) _⟩
    | true => exact absurd rfl hth
end Go.Proofs.Ytfgglffjigolhaa
