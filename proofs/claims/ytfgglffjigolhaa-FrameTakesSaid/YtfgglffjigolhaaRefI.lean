/- The document's frames: Begin, where a body is there. -/
import Derived.Test.YtfgglffjigolhaaRefH
namespace Go.Proofs.Ytfgglffjigolhaa
open Go.RowKit

set_option maxRecDepth 100000 in
set_option maxHeartbeats 3200000 in
theorem ref_begin_there (g size : Nat) (L : List UInt8) (w : World) (h : RefRing w g size L) (hne : L ≠ []) (hl : L.length ≤ size) (hs : size ≤ 4096) (hth : (refBodyM size L).2.2 = (true, false)) :
    Calls Try.prog 65 #[.pointer (some ⟨g, 0, none⟩)] w fun e w' => RBegun w.heap.size w' e (refBeginM size L) ∧ Below w.heap.size w w' := by
  obtain ⟨v, lost, h1, h2, h3⟩ := h
  obtain ⟨n, hn⟩ : ∃ n, n = L.length := ⟨_, rfl⟩
  obtain ⟨A, c, rfl, hle, hb⟩ := h2.form hn.symm
  have hlt := heap_lt h1
  have c0 : w.cell? ⟨g, 0, none⟩ = some (.int .i64 (size : Int)) := (cell_of h1 0).trans rfl
  have c1 : w.cell? ⟨g, 1, none⟩ = some (.slice A n c) := (cell_of h1 1).trans rfl
  have C01 := Lib.hid (And.intro c0 c1)
  have hn0 : 0 < n := by rw [hn]; exact List.length_pos_iff.mpr hne
  have hn1 : ((n : Int) == 0) = false := by simp; omega
  have hbody := fun (W : World) hB => ref_body_any size (.slice A n c) L W hB hne (by omega) (by omega)
  have hbl := refBodyM_len size L
  have hm := show refBeginM size L = _ from by unfold refBeginM; rw [if_neg hne]
  obtain ⟨⟨k, b, tw⟩, hr⟩ : ∃ r, r = refBodyM size L := ⟨_, rfl⟩
  rw [← hr] at hbody hbl hm hth
  simp only at hth
  subst hth
  simp only [Bodied] at hbody
  simp only at hbl hm
  rw [← hn] at hm hl
  have HBODY := Lib.hid hbody
  have HB := Lib.hid hb
  have HN := Lib.hid hn
  clear h2 h3 hb h1 hbody hr hn hne
  rw [if_neg (by decide)] at hm
  obtain ⟨k8, hk8⟩ : ∃ k8 : UInt8, k8.toNat = k := ⟨UInt8.ofNat k, by rw [UInt8.toNat_ofNat']; omega⟩
  subst hk8
  have hrb := fun (W : World) v h => ref_bytes k8 v b W h (by omega)
  obtain ⟨⟨want, r⟩, hw⟩ : ∃ r, r = bytesM k8.toNat b := ⟨_, rfl⟩
  rw [← hw] at hrb hm
  simp only [Bytesed] at hrb
  simp only [true_and] at hm
  obtain ⟨m, hmm⟩ : ∃ m, m = want.length := ⟨_, rfl⟩
  rw [← hmm] at hm
  have hml : m ≤ 1031 := by
    have := bytesM_le k8.toNat b
    rw [← hw] at this
    simp only at this
    omega
  have HRB := Lib.hid hrb
  have HW := Lib.hid hw
  have HM := Lib.hid hm
  have HMM := Lib.hid hmm
  rw [hm]
  clear hrb hw hmm hm
  obtain ⟨R, hR⟩ : ∃ R, R = (if cpl want L = m then (1, m, k8.toNat, b) else if cpl want L < n then (2, 0, k8.toNat, b) else if n = size then (2, 0, k8.toNat, b) else (0, 0, k8.toNat, b)) := ⟨_, rfl⟩
  rw [← hR]
  have HR := Lib.hid hR
  clear hR
  go_enter Try.func65, Try.ntmps65
  go_wp2_with fail
  go_region_held3 (fun w' => w'.cell? ⟨g, 0, none⟩ = some (.int .i64 (size : Int)) ∧ w'.cell? ⟨g, 1, none⟩ = some (.slice A n c)) (first | exact ⟨d0, d1⟩ | exact ⟨keep_set2 d0 (by omega), keep_set2 d1 (by omega)⟩ | (go_keep; done))
    ((go_at_call 100; go_must (refine (HBODY.out _ (by repeat (any_goals (first | with_reducible exact HB.out | with_reducible exact HB.out.bs | with_reducible refine Bs.drew ?_ | with_reducible refine Bss.drew ?_ | with_reducible refine IsRing.drew ?_ | with_reducible refine Bs.drewN ?_ _ | with_reducible refine Bss.drewN ?_ _ | with_reducible refine IsRing.drewN ?_ _ | (with_reducible refine own2_bsi ?_ ?_ ?_; focus (simp; done)) | (with_reducible refine own1_bsi ?_ ?_; focus (simp; done)) | (with_reducible refine own4_bsi ?_ ?_ ?_ ?_ ?_; focus (simp; done)) | with_reducible rfl | with_reducible assumption | (with_reducible refine Bss.made2g 30 ?_ ?_ ?_; focus (simp; done)) | (with_reducible refine Bss.made3g 30 ?_ ?_ ?_ ?_; focus (simp; done)) | with_reducible refine Bs.alloc ?_ _ | with_reducible refine Bss.alloc ?_ _ | with_reducible refine IsRing.alloc ?_ _ | rfl)))).mono ?_; rintro e w1 ⟨⟨u, rfl, hu, fu⟩, hb1⟩; obtain ⟨Au, cu, rfl, hzu, hu⟩ := hu.form rfl; clear hzu; have b1 : Below w.heap.size w w1 := ((by repeat (first | with_reducible exact Below.refl _ _ | with_reducible exact Below.refl _ _ | with_reducible refine below_drew1 ?_ | with_reducible refine below_drewN1 ?_ _ | with_reducible refine below_alloc1 ?_ _ | with_reducible refine below_setb (by first | exact Nat.le_refl _ | omega) ?_ | with_reducible refine below_step ?_ hb1))); have d0 := below_keep b1 C01.out.1; have d1 := below_keep b1 C01.out.2; have x1 : w1.heap[w.heap.size]? = some (.cells #[.int .u8 0, .slice none 0 0] 39 (0, 0)) := ((hb1.block w.heap.size (by simp; try omega)).trans (by first | exact heap_alloc_same w _ | exact heap_keep (heap_alloc_same w _))); (try (have x5 : w1.heap[w.heap.size + 1]? = some (.cells #[.int .u8 0, .slice none 0 0] 39 (0, 0)) := ((hb1.block (w.heap.size + 1) (by simp; done)).trans (heap_alloc2 w _ _)); have e50 := cell_of x5 0; have e51 := cell_of x5 1; have f50 := frozen_of x5 0 none; have f51 := frozen_of x5 1 none; have X5 := Lib.hid x5; clear x5)); have X1 := Lib.hid x1; have B1 := Lib.hid b1; clear x1 b1; have U1 := Lib.hid hu; have F1 := Lib.hid fu; have s1 := hb1.size; clear hb1 hu fu)))
  all_goals
    first
      | obtain ⟨P, hP⟩ : ∃ P, P = w.heap.size + 1 := ⟨_, rfl⟩
        obtain ⟨w2, hw2⟩ : ∃ w2, w2 = (w1.setCell ⟨w.heap.size + 1, 0, none⟩ (.int .u8 (k8.toNat : Int))).setCell ⟨w.heap.size + 1, 1, none⟩ (.slice Au b.length cu) := ⟨_, rfl⟩
        rw [← hw2, ← hP]
        have M : Mid w w2 g size n c A P k8.toNat (.slice Au b.length cu) b := by
          rw [hw2, hP]
          exact ⟨by rw [heap_setCell_other (by show ¬ w.heap.size = w.heap.size + 1; omega), heap_setCell_other (by show ¬ w.heap.size = w.heap.size + 1; omega)]; exact X1.out, fin_cells X5.out _ _, below_set2 B1.out (by omega) _ _,
             U1.out.set2' (B := w.heap.size + 2) (F1.out.low (by simp)) (by omega) _ _, F1.out.low (by simp), by omega, keep_set2 d0 (by omega), keep_set2 d1 (by omega)⟩
      | obtain ⟨P, hP⟩ : ∃ P, P = w1.heap.size := ⟨_, rfl⟩
        obtain ⟨w2, hw2⟩ : ∃ w2, w2 = w1.alloc (.cells #[.int .u8 (k8.toNat : Int), .slice Au b.length cu] 39) := ⟨_, rfl⟩
        rw [← hw2, ← hP]
        have M : Mid w w2 g size n c A P k8.toNat (.slice Au b.length cu) b := by
          rw [hw2, hP]
          exact ⟨heap_keep X1.out, heap_alloc_same w1 _, below_alloc1 B1.out _, U1.out.alloc _, F1.out.low (by simp), by simp at s1; omega, ((Ext.refl NoB w1).alloc _).cellv d0 (fun x => x), ((Ext.refl NoB w1).alloc _).cellv d1 (fun x => x)⟩
    try clear e50 e51 f50 f51 X5
    clear hw2 hP d0 d1 X1 B1 U1 F1 s1
    have hPlt := M.far
    have d0' := M.d0
    have d1' := M.d1
    have k0 := cell_of M.box 0
    have k1 := cell_of M.box 1
    have k2 := cell_of M.cur 0
    have k3 := cell_of M.cur 1
    have f0 := frozen_of M.box 0 none
    have f1 := frozen_of M.box 1 none
    have hneP : ¬ w.heap.size = P := by omega
    have hneP' : ¬ P = w.heap.size := by omega
    have MM := Lib.hid M
    clear M
    go_wp2_with (go_at_call 33; go_must (refine (HRB.out _ _ MM.out.bs).mono ?_; rintro e w3 ⟨⟨v3, rfl, hv3, fv3⟩, hb3⟩; obtain ⟨A3, c3, rfl, hz3, hv3⟩ := hv3.form HMM.out.symm; have M := MM.out.next hb3; clear MM d0' d1' k0 k1 k2 k3 f0 f1 hneP hneP' hPlt hb3 fv3; have V3 := Lib.hid hv3; clear hv3))
    have hPlt := M.far
    have d0' := M.d0
    have d1' := M.d1
    have k0 := cell_of M.box 0
    have k1 := cell_of M.box 1
    have k2 := cell_of M.cur 0
    have k3 := cell_of M.cur 1
    have f0 := frozen_of M.box 0 none
    have f1 := frozen_of M.box 1 none
    have hneP : ¬ w.heap.size = P := by omega
    have hneP' : ¬ P = w.heap.size := by omega
    have MM := Lib.hid M
    clear M
    go_loopw [10] (fun i wr => ∃ j d : Nat, i = .int .i64 j ∧ j ≤ m ∧ j ≤ n ∧ cpl want L = j + cpl (want.drop j) (L.drop j) ∧ wr = w3.drewN d) (fun i _ => m - (intOf i).toNat)
    case atStart => exact ⟨0, 0, rfl, Nat.zero_le _, Nat.zero_le _, by simp, rfl⟩
    case round =>
      obtain ⟨j, d, rfl, hjm, hjn, hcp, hwr⟩ := hrel
      have M : Mid w wr g size n c A P k8.toNat (.slice Au b.length cu) b := by rw [hwr]; exact MM.out.drewN d
      have v2 : Bs wr (.slice A3 m c3) want := by rw [hwr]; exact V3.out
      have l2 : Bs wr (.slice A n c) L := HB.out.below M.below
      obtain ⟨w2, hw2⟩ : ∃ w2, w2 = wr := ⟨_, rfl⟩
      rw [← hw2] at M v2 l2 hwr ⊢
      have HWR := Lib.hid hwr
      clear MM d0' d1' k0 k1 k2 k3 f0 f1 hneP hneP' hPlt hw2 hwr
      have hPlt := M.far
      have d0' := M.d0
      have d1' := M.d1
      have k0 := cell_of M.box 0
      have k1 := cell_of M.box 1
      have k2 := cell_of M.cur 0
      have k3 := cell_of M.cur 1
      have f0 := frozen_of M.box 0 none
      have f1 := frozen_of M.box 1 none
      have hneP : ¬ w.heap.size = P := by omega
      have hneP' : ¬ P = w.heap.size := by omega
      have MM := Lib.hid M
      clear M
      by_cases hm1 : j < m
      · by_cases hn2 : j < n
        · have hjw : j < want.length := by rw [← HMM.out]; exact hm1
          have hjl : j < L.length := by rw [← HN.out]; exact hn2
          obtain ⟨g3, o3, rfl, hz3, cw⟩ := v2.at_ hjw
          obtain ⟨gl, ol, rfl, hzl, cl⟩ := l2.at_ hjl
          clear hz3 hzl
          have dw : want.drop j = want[j] :: want.drop (j + 1) := List.drop_eq_getElem_cons hjw
          have dl : L.drop j = L[j] :: L.drop (j + 1) := List.drop_eq_getElem_cons hjl
          rw [dw, dl, cpl_cons] at hcp
          obtain ⟨x, hx⟩ : ∃ x, x = want[j] := ⟨_, rfl⟩
          obtain ⟨y, hy⟩ : ∃ y, y = L[j] := ⟨_, rfl⟩
          rw [← hx] at cw hcp
          rw [← hy] at cl hcp
          have i0 : (0 : Int) ≤ (j : Int) := by omega
          have i1 : (j : Int) < (m : Int) := by omega
          have i2 : (j : Int) < (n : Int) := by omega
          clear dw dl hx hy v2 l2
          by_cases hxy : x = y
          · subst hxy
            rw [if_pos rfl] at hcp
            have HCP := Lib.hid hcp
            clear hcp
            go_wp2_with fail
            go_quiet (fail)
            go_wp2_with fail
            go_roundw
            case rel => exact ⟨j + 1, d + nq, by go_num, by omega, by omega, by rw [HCP.out]; omega, by rw [HWR.out]; exact World.drewN_drewN _ _ _⟩
            case measure => simp [intOf]; omega
          · rw [if_neg hxy, Nat.add_zero] at hcp
            have hne3 : ((x.toNat : Int) == (y.toNat : Int)) = false := by
              simp
              intro h
              exact hxy (UInt8.toNat_inj.1 (by omega))
            have hjm3 : ((j : Int) == (m : Int)) = false := by simp; omega
            have HCP := Lib.hid (show (if cpl want L = m then (1, m, k8.toNat, b) else if cpl want L < n then (2, 0, k8.toNat, b) else if n = size then (2, 0, k8.toNat, b) else (0, 0, k8.toNat, b) : Nat × Nat × Nat × List UInt8) = (2, 0, k8.toNat, b) by rw [hcp, if_neg (by omega), if_pos hn2])
            clear hcp hxy
            go_wp2_with fail
            go_quiet (fail)
            obtain ⟨w4, hw4⟩ : ∃ x, x = w2.drewN nq := ⟨_, rfl⟩
            rw [← hw4]
            have M := MM.out.drewN nq
            rw [← hw4] at M
            clear MM d0' d1' k0 k1 k2 k3 f0 f1 hneP hneP' hPlt hw4
            have hPlt := M.far
            have d0' := M.d0
            have d1' := M.d1
            have k0 := cell_of M.box 0
            have k1 := cell_of M.box 1
            have k2 := cell_of M.cur 0
            have k3 := cell_of M.cur 1
            have f0 := frozen_of M.box 0 none
            have f1 := frozen_of M.box 1 none
            have hneP : ¬ w.heap.size = P := by omega
            have hneP' : ¬ P = w.heap.size := by omega
            have MM := Lib.hid M
            clear M
            go_wp2_with fail
            go_region
            all_goals go_wp2_with fail
            all_goals
              rw [HR.out, HCP.out]
              have hq := fin_cells MM.out.box (.int .u8 (k8.toNat : Int)) (.slice Au b.length cu)
              have hq0 := cell_of hq 0
              have hq1 := cell_of hq 1
              refine bodyPost_ret (v := .tuple #[.int .i64 2, .agg #[.int .u8 (k8.toNat : Int), .slice Au b.length cu], .int .i64 0]) (by simp [results, Try.results65, go_sem, hq0, hq1]) rfl ?_
              exact ⟨⟨_, rfl, (MM.out.bs.set2 MM.out.fresh _ _).drewN _, MM.out.fresh.low (by omega)⟩, below_drewN (below_set2 MM.out.below (Nat.le_refl _) _ _) _⟩
        · obtain rfl : j = n := by omega
          have hcz : cpl want L = j := by
            rw [hcp, show L.drop j = [] by rw [HN.out]; exact List.drop_length]
            cases hd : want.drop j with
            | nil => rw [cpl_nil]; rfl
            | cons x X => rw [cpl_nil']; rfl
          have hjm3 : ((j : Int) == (m : Int)) = false := by simp; omega
          have i1 : (j : Int) < (m : Int) := by omega
          clear v2 l2 hcp
          by_cases hns : j = size
          · have HCP := Lib.hid (show (if cpl want L = m then (1, m, k8.toNat, b) else if cpl want L < j then (2, 0, k8.toNat, b) else if j = size then (2, 0, k8.toNat, b) else (0, 0, k8.toNat, b) : Nat × Nat × Nat × List UInt8) = (2, 0, k8.toNat, b) by rw [hcz, if_neg (by omega), if_neg (by omega), if_pos hns])
            have hne2 : ((j : Int) == (size : Int)) = true := by simp [hns]
            clear hcz hns
            go_wp2_with fail
            go_quiet (fail)
            obtain ⟨w4, hw4⟩ : ∃ x, x = w2.drewN nq := ⟨_, rfl⟩
            rw [← hw4]
            have M := MM.out.drewN nq
            rw [← hw4] at M
            clear MM d0' d1' k0 k1 k2 k3 f0 f1 hneP hneP' hPlt hw4
            have hPlt := M.far
            have d0' := M.d0
            have d1' := M.d1
            have k0 := cell_of M.box 0
            have k1 := cell_of M.box 1
            have k2 := cell_of M.cur 0
            have k3 := cell_of M.cur 1
            have f0 := frozen_of M.box 0 none
            have f1 := frozen_of M.box 1 none
            have hneP : ¬ w.heap.size = P := by omega
            have hneP' : ¬ P = w.heap.size := by omega
            have MM := Lib.hid M
            clear M
            go_wp2_with fail
            go_quiet (fail)
            obtain ⟨w5, hw5⟩ : ∃ x, x = w4.drewN nq := ⟨_, rfl⟩
            rw [← hw5]
            have M := MM.out.drewN nq
            rw [← hw5] at M
            clear MM d0' d1' k0 k1 k2 k3 f0 f1 hneP hneP' hPlt hw5
            have hPlt := M.far
            have d0' := M.d0
            have d1' := M.d1
            have k0 := cell_of M.box 0
            have k1 := cell_of M.box 1
            have k2 := cell_of M.cur 0
            have k3 := cell_of M.cur 1
            have f0 := frozen_of M.box 0 none
            have f1 := frozen_of M.box 1 none
            have hneP : ¬ w.heap.size = P := by omega
            have hneP' : ¬ P = w.heap.size := by omega
            have MM := Lib.hid M
            clear M
            go_wp2_with fail
            go_region
            all_goals go_wp2_with fail
            all_goals
              rw [HR.out, HCP.out]
              have hq := fin_cells MM.out.box (.int .u8 (k8.toNat : Int)) (.slice Au b.length cu)
              have hq0 := cell_of hq 0
              have hq1 := cell_of hq 1
              refine bodyPost_ret (v := .tuple #[.int .i64 2, .agg #[.int .u8 (k8.toNat : Int), .slice Au b.length cu], .int .i64 0]) (by simp [results, Try.results65, go_sem, hq0, hq1]) rfl ?_
              exact ⟨⟨_, rfl, (MM.out.bs.set2 MM.out.fresh _ _).drewN _, MM.out.fresh.low (by omega)⟩, below_drewN (below_set2 MM.out.below (Nat.le_refl _) _ _) _⟩
          · have HCP := Lib.hid (show (if cpl want L = m then (1, m, k8.toNat, b) else if cpl want L < j then (2, 0, k8.toNat, b) else if j = size then (2, 0, k8.toNat, b) else (0, 0, k8.toNat, b) : Nat × Nat × Nat × List UInt8) = (0, 0, k8.toNat, b) by rw [hcz, if_neg (by omega), if_neg (by omega), if_neg hns])
            have hne2 : ((j : Int) == (size : Int)) = false := by simp; omega
            clear hcz hns
            go_wp2_with fail
            go_quiet (fail)
            obtain ⟨w4, hw4⟩ : ∃ x, x = w2.drewN nq := ⟨_, rfl⟩
            rw [← hw4]
            have M := MM.out.drewN nq
            rw [← hw4] at M
            clear MM d0' d1' k0 k1 k2 k3 f0 f1 hneP hneP' hPlt hw4
            have hPlt := M.far
            have d0' := M.d0
            have d1' := M.d1
            have k0 := cell_of M.box 0
            have k1 := cell_of M.box 1
            have k2 := cell_of M.cur 0
            have k3 := cell_of M.cur 1
            have f0 := frozen_of M.box 0 none
            have f1 := frozen_of M.box 1 none
            have hneP : ¬ w.heap.size = P := by omega
            have hneP' : ¬ P = w.heap.size := by omega
            have MM := Lib.hid M
            clear M
            go_wp2_with fail
            go_quiet (fail)
            obtain ⟨w5, hw5⟩ : ∃ x, x = w4.drewN nq := ⟨_, rfl⟩
            rw [← hw5]
            have M := MM.out.drewN nq
            rw [← hw5] at M
            clear MM d0' d1' k0 k1 k2 k3 f0 f1 hneP hneP' hPlt hw5
            have hPlt := M.far
            have d0' := M.d0
            have d1' := M.d1
            have k0 := cell_of M.box 0
            have k1 := cell_of M.box 1
            have k2 := cell_of M.cur 0
            have k3 := cell_of M.cur 1
            have f0 := frozen_of M.box 0 none
            have f1 := frozen_of M.box 1 none
            have hneP : ¬ w.heap.size = P := by omega
            have hneP' : ¬ P = w.heap.size := by omega
            have MM := Lib.hid M
            clear M
            go_wp2_with fail
            go_region
            all_goals go_wp2_with fail
            all_goals
              rw [HR.out, HCP.out]
              have hq := fin_cells MM.out.box (.int .u8 (k8.toNat : Int)) (.slice Au b.length cu)
              have hq0 := cell_of hq 0
              have hq1 := cell_of hq 1
              refine bodyPost_ret (v := .tuple #[.int .i64 0, .agg #[.int .u8 (k8.toNat : Int), .slice Au b.length cu], .int .i64 0]) (by simp [results, Try.results65, go_sem, hq0, hq1]) rfl ?_
              exact ⟨⟨_, rfl, (MM.out.bs.set2 MM.out.fresh _ _).drewN _, MM.out.fresh.low (by omega)⟩, below_drewN (below_set2 MM.out.below (Nat.le_refl _) _ _) _⟩
      · obtain rfl : j = m := by omega
        have hcz : cpl want L = j := by
          rw [hcp, show want.drop j = [] by rw [HMM.out]; exact List.drop_length, cpl_nil]; rfl
        have HCP := Lib.hid (show (if cpl want L = j then (1, j, k8.toNat, b) else if cpl want L < n then (2, 0, k8.toNat, b) else if n = size then (2, 0, k8.toNat, b) else (0, 0, k8.toNat, b) : Nat × Nat × Nat × List UInt8) = (1, j, k8.toNat, b) by rw [hcz, if_pos rfl])
        have hjm3 : ((j : Int) == (j : Int)) = true := by simp
        have hjj : decide ((j : Int) < (j : Int)) = false := by simp
        have hjj2 : decide (j < j) = false := by simp
        clear v2 l2 hcp hcz
        go_wp2_with fail
        go_quiet (fail)
        obtain ⟨w4, hw4⟩ : ∃ x, x = w2.drewN nq := ⟨_, rfl⟩
        rw [← hw4]
        have M := MM.out.drewN nq
        rw [← hw4] at M
        clear MM d0' d1' k0 k1 k2 k3 f0 f1 hneP hneP' hPlt hw4
        have hPlt := M.far
        have d0' := M.d0
        have d1' := M.d1
        have k0 := cell_of M.box 0
        have k1 := cell_of M.box 1
        have k2 := cell_of M.cur 0
        have k3 := cell_of M.cur 1
        have f0 := frozen_of M.box 0 none
        have f1 := frozen_of M.box 1 none
        have hneP : ¬ w.heap.size = P := by omega
        have hneP' : ¬ P = w.heap.size := by omega
        have MM := Lib.hid M
        clear M
        go_wp2_with fail
        go_region
        all_goals go_wp2_with fail
        all_goals
          rw [HR.out, HCP.out]
          have hq := fin_cells MM.out.box (.int .u8 (k8.toNat : Int)) (.slice Au b.length cu)
          have hq0 := cell_of hq 0
          have hq1 := cell_of hq 1
          refine bodyPost_ret (v := .tuple #[.int .i64 1, .agg #[.int .u8 (k8.toNat : Int), .slice Au b.length cu], .int .i64 ↑j]) (by simp [results, Try.results65, go_sem, hq0, hq1]) rfl ?_
          exact ⟨⟨_, rfl, (MM.out.bs.set2 MM.out.fresh _ _).drewN _, MM.out.fresh.low (by omega)⟩, below_drewN (below_set2 MM.out.below (Nat.le_refl _) _ _) _⟩

theorem ref_begin (g size : Nat) (L : List UInt8) (w : World) (h : RefRing w g size L) (hl : L.length ≤ size) (hs : size ≤ 4096) :
    Calls Try.prog 65 #[.pointer (some ⟨g, 0, none⟩)] w fun e w' => RBegun w.heap.size w' e (refBeginM size L) ∧ Below w.heap.size w w' := by
  by_cases hne : L = []
  · subst hne
    exact ref_begin_nil g size w h
  · by_cases hth : (refBodyM size L).2.2 = (true, false)
    · exact ref_begin_there g size L w h hne hl hs hth
    · exact ref_begin_not g size L w h hne hth hl hs
end Go.Proofs.Ytfgglffjigolhaa
