/- The document's frames: body. -/
import Derived.Test.YtfgglffjigolhaaRefC
import Derived.Test.YtfgglffjigolhaaPureG
namespace Go.Proofs.Ytfgglffjigolhaa
open Go.RowKit

/-- What body tells. -/
def Bodied (B : Nat) (w' : World) (e : Ending) (r : Nat × List UInt8 × Bool × Bool) : Prop :=
  ∃ v, e = .returned (.tuple #[.agg #[.int .u8 (r.1 : Int), v], .bool r.2.2.1, .bool r.2.2.2]) ∧ Bs w' v r.2.1 ∧ Fresh B v

theorem keep_cell {w : World} {p : Addr} {v : Value} (h : w.cell? p = some v) (o : Obj) : (w.alloc o).drew.cell? p = some v := ((Ext.refl NoB w).alloc o).drew.cellv h (fun x => x)
theorem keep_frozen {w : World} {p : Addr} {v : Value} (h : w.cell? p = some v) (hf : w.frozen? p = false) (o : Obj) : (w.alloc o).drew.frozen? p = false :=
  (((Ext.refl NoB w).alloc o).drew.frozen (World.block_lt_of_cell? w p h) (fun x => x)).trans hf
set_option maxRecDepth 100000 in
set_option maxHeartbeats 1600000 in
theorem ref_body_nmea (size : Nat) (v : Value) (xs : List UInt8) (w : World) (hB : Bs w v (36 :: xs)) (hl : xs.length ≤ 4096) :
    Calls Try.prog 100 #[v, .int .i64 size] w fun e w' => Bodied w.heap.size w' e (1, rscan xs []) ∧ Below w.heap.size w w' := by
  obtain ⟨n, hn⟩ : ∃ n, n = (36 :: xs : List UInt8).length := ⟨_, rfl⟩
  obtain ⟨A, c, rfl, hle, hb⟩ := hB.form hn.symm
  have h0 := hb.at_ (k := 0) (by simp)
  obtain ⟨g, off, rfl, hz, hc0⟩ := h0
  clear hz
  rw [Nat.add_zero] at hc0
  have i0 : (0 : Int) < (n : Int) := by rw [hn]; simp
  have hlt0 := World.block_lt_of_cell? w _ hc0
  have HB := Lib.hid hb
  have HN := Lib.hid hn
  simp only [List.getElem_cons_zero] at hc0
  clear hB hb hn
  go_enter Try.func100, Try.ntmps100
  go_wp2_with fail
  go_loopw [8] (fun i wr => ∃ (j : Nat) (acc : List UInt8) (u : Value), i = .int .i64 j ∧ 1 ≤ j ∧ j ≤ n ∧ acc.length + 1 = j ∧ acc.length ≤ 76 ∧ rscan xs [] = rscan ((36 :: xs).drop j) acc ∧ OwnB wr (w.heap.size + 2) u acc ∧ Below w.heap.size w wr ∧
    wr.heap[w.heap.size]? = some (.cells #[.int .u8 0, .slice none 0 0] 39 (0, 0)) ∧ wr.heap[w.heap.size + 1]? = some (.cells #[.int .u8 1, u] 39 (0, 0))) (fun i _ => n - (intOf i).toNat)
  case atStart => exact ⟨1, [], .slice none 0 0, rfl, by omega, by omega, rfl, by simp, by simp, ⟨rfl, .inl ⟨rfl, rfl⟩⟩, ((Below.refl _ _).alloc (Nat.le_refl _) _).alloc (by simp) _, heap_keep (heap_alloc_same w _), heap_alloc2 _ _ _⟩
  case round =>
    obtain ⟨j, acc, u, rfl, hj1, hjn, hacc, ha76, hrs, ho, hB, hh1, hh2⟩ := hrel
    have hs1 := heap_lt hh2
    have hs0 : w.heap.size < wr.heap.size := by omega
    have hk1 := cell_of hh1 0
    have hk2 := cell_of hh1 1
    have hk3 := cell_of hh2 0
    have hk4 := cell_of hh2 1
    have hf1 := frozen_of hh1 0 none
    have hf2 := frozen_of hh1 1 none
    have hf3 := frozen_of hh2 1 none
    obtain ⟨A1, c1, rfl, hle1, hbs1⟩ := ho.bs.form rfl
    have HRS := Lib.hid hrs
    have HO := Lib.hid ho
    have HBL := Lib.hid hB
    have HH1 := Lib.hid hh1
    have HH2 := Lib.hid hh2
    have HS1 := Lib.hid hbs1
    clear hrs ho hB hh1 hh2 hbs1
    by_cases hlt : j < n
    · have hlt' : j < (36 :: xs : List UInt8).length := by rw [← HN.out]; exact hlt
      obtain ⟨g', off', he, hz, hcx⟩ := HB.out.at_ hlt'
      clear hz
      obtain ⟨rfl, rfl⟩ : g = g' ∧ off = off' := by simpa using he
      clear he
      have hcx2 := (HBL.out.cell (p := ⟨g, off + j, none⟩) (World.block_lt_of_cell? w _ hcx)).trans hcx
      have hd : (36 :: xs : List UInt8).drop j = (36 :: xs)[j] :: (36 :: xs).drop (j + 1) := List.drop_eq_getElem_cons hlt'
      obtain ⟨x, hx⟩ : ∃ x, x = (36 :: xs : List UInt8)[j] := ⟨_, rfl⟩
      rw [← hx] at hd hcx2
      have hm := HRS.out
      rw [hd, rscan_cons] at hm
      have HX := Lib.hid hx
      clear hx hd hcx
      have ij : (j : Int) < (n : Int) := by omega
      by_cases hbx : isBodyB x = false
      · rw [if_pos hbx] at hm
        have HM := Lib.hid hm
        have HBX := Lib.hid hbx
        clear hm hbx
        go_wp2_with (go_at_call 74; go_must (refine (ref_may x _).mono ?_; rintro e w' ⟨rfl, rfl⟩; rw [HBX.out]))
        have hq := fin_cells HH1.out (.int .u8 1) (.slice A1 acc.length c1)
        have hq0 := cell_of hq 0
        have hq1 := cell_of hq 1
        have hfr : Fresh (w.heap.size + 1) (.slice A1 acc.length c1) := HO.out.fresh (by omega)
        refine bodyPost_ret (v := .tuple #[.agg #[.int .u8 1, .slice A1 acc.length c1], .bool true, .bool false]) (by simp [results, Try.results100, go_sem, hq0, hq1]) rfl ?_
        rw [HM.out]
        exact ⟨⟨_, rfl, HS1.out.set2 hfr _ _, hfr.low (by omega)⟩, below_set2 HBL.out (Nat.le_refl _) _ _⟩
      · have hbx' : isBodyB x = true := by simpa using hbx
        rw [if_neg hbx] at hm
        have HBX := Lib.hid hbx'
        have HMM := Lib.hid hm
        have HK : Hid (wr.cell? ⟨w.heap.size + 1, 1, none⟩ = some (.slice A1 acc.length c1) ∧ wr.frozen? ⟨w.heap.size + 1, 1, none⟩ = false ∧ g < wr.heap.size ∧ wr.cell? ⟨g, off + j, none⟩ = some (bv x)) := Lib.hid ⟨hk4, hf3, by omega, hcx2⟩
        have hne1 : ∀ k, (Value.slice A1 acc.length c1).ownBlock = some k → w.heap.size + 2 ≤ k := fun k hk => (HO.out.lt k hk).1
        have NE := Lib.hid hne1
        clear hbx hbx' hm hne1
        by_cases h76 : 76 < acc.length + 1
        · have hm := HMM.out
          rw [if_pos h76] at hm
          have HM := Lib.hid hm
          clear hm HMM
          go_wp2_with (go_at_call 74; go_must (refine (ref_may x _).mono ?_; rintro e w' ⟨rfl, rfl⟩; rw [HBX.out]))
          go_region_law
            ((refine step_append_byte rfl (.tmp 32) (.tmp 37) rfl (w.heap.size + 2) (.slice A1 acc.length c1) acc rfl (HO.out.alloc _) wr.heap.size x rfl (cell_newD _ _ _ _) (by omega) (by simp; omega) ?_; intro v' w1 hown1 hgrow1; obtain ⟨A2, c2, rfl, hz2, hb2⟩ := hown1.bs.form (n := acc.length + 1) (by simp); clear hz2
              have K1 : w1.cell? ⟨w.heap.size + 1, 1, none⟩ = some (.slice A1 acc.length c1) := hgrow1.cell (a := ⟨w.heap.size + 1, 1, none⟩) (keep_cell HK.out.1 _) (fun e => absurd (NE.out _ e.symm) (by show ¬ w.heap.size + 2 ≤ w.heap.size + 1; omega))
              have K2 : w1.frozen? ⟨w.heap.size + 1, 1, none⟩ = false := (hgrow1.frozen_far ⟨w.heap.size + 1, 1, none⟩ (by simp; omega) (fun e => absurd (NE.out _ e.symm) (by show ¬ w.heap.size + 2 ≤ w.heap.size + 1; omega))).trans (keep_frozen HK.out.1 HK.out.2.1 _)
              have K3 : w1.cell? ⟨g, off + j, none⟩ = some (bv x) := hgrow1.cell (a := ⟨g, off + j, none⟩) (keep_cell HK.out.2.2.2 _) (fun e => absurd (NE.out _ e.symm) (by show ¬ w.heap.size + 2 ≤ g; omega))
              have HB2 := Lib.hid hb2; have HO1 := Lib.hid hown1; have HG1 := Lib.hid hgrow1; clear hb2 hown1 hgrow1))
          all_goals
            obtain ⟨w2, hw2⟩ : ∃ w2, w2 = w1.setCell ⟨w.heap.size + 1, 1, none⟩ (.slice A2 j c2) := ⟨_, rfl⟩
            rw [← hw2]
            have X1 : w2.heap[w.heap.size]? = some (.cells #[.int .u8 0, .slice none 0 0] 39 (0, 0)) := by
              rw [hw2, heap_setCell_other (by show ¬ w.heap.size = w.heap.size + 1; omega), HG1.out.block _ (by simp; omega) (fun e => absurd (NE.out _ e.symm) (by omega))]
              exact (((Ext.refl NoB wr).alloc _).drew).heap HH1.out (fun x => x)
            have X2 : w2.heap[w.heap.size + 1]? = some (.cells #[.int .u8 1, .slice A2 j c2] 39 (0, 0)) := by
              have := ((((Ext.refl NoB wr).alloc (.cells #[bv x] 5)).drew).heap HH2.out (fun x => x))
              rw [hw2, heap_setCell_same ((HG1.out.block _ (by simp; omega) (fun e => absurd (NE.out _ e.symm) (by omega))).trans this)]
              rfl
            have BB : Below w.heap.size w w2 := by
              rw [hw2]
              exact (Below.grown (by repeat (first | with_reducible exact HBL.out | with_reducible exact Below.refl _ _ | with_reducible refine below_drew1 ?_ | with_reducible refine below_drewN1 ?_ _ | with_reducible refine below_alloc1 ?_ _ | with_reducible refine below_setb (by first | exact Nat.le_refl _ | omega) ?_)) HG1.out (by simp; omega) (fun x hx => by have := NE.out x hx; omega)).setCell (p := ⟨w.heap.size + 1, 1, none⟩) (by show w.heap.size ≤ w.heap.size + 1; omega) _
            have O2 : OwnB w2 (w.heap.size + 2) (.slice A2 j c2) (acc ++ [x]) := by
              rw [hw2]
              have := ownsRow_setCell_below (HO1.out : OwnB w1 (w.heap.size + 2) (.slice A2 (acc.length + 1) c2) (acc ++ [x])) (a := ⟨w.heap.size + 1, 1, none⟩) (by show w.heap.size + 1 < w.heap.size + 2; omega) (.slice A2 j c2)
              rw [hacc] at this
              exact this
            have hk1 := cell_of X1 0
            have hk2 := cell_of X1 1
            have hk3 := cell_of X2 0
            have hk4 := cell_of X2 1
            have hf1 := frozen_of X1 0 none
            have hf2 := frozen_of X1 1 none
            have s2 := heap_lt X2
            have HX1 := Lib.hid X1
            have HX2 := Lib.hid X2
            have HBB := Lib.hid BB
            have HO2 := Lib.hid O2
            clear X1 X2 BB O2 hw2 K1 K2 K3
            have g76 : (76 : Int) < (j : Int) := by omega
            go_wp2_with fail
            have hq := fin_cells HX1.out (.int .u8 1) (.slice A2 j c2)
            have hq0 := cell_of hq 0
            have hq1 := cell_of hq 1
            have hfr : Fresh (w.heap.size + 1) (.slice A2 j c2) := HO2.out.fresh (by omega)
            refine bodyPost_ret (v := .tuple #[.agg #[.int .u8 1, .slice A2 j c2], .bool false, .bool true]) (by simp [results, Try.results100, go_sem, hq0, hq1]) rfl ?_
            rw [HM.out]
            exact ⟨⟨_, rfl, HO2.out.bs.set2 hfr _ _, hfr.low (by omega)⟩, below_set2 HBB.out (Nat.le_refl _) _ _⟩
        · have hm := HMM.out
          rw [if_neg h76] at hm
          have HM := Lib.hid hm
          clear hm HMM
          go_wp2_with (go_at_call 74; go_must (refine (ref_may x _).mono ?_; rintro e w' ⟨rfl, rfl⟩; rw [HBX.out]))
          go_region_law
            ((refine step_append_byte rfl (.tmp 32) (.tmp 37) rfl (w.heap.size + 2) (.slice A1 acc.length c1) acc rfl (HO.out.alloc _) wr.heap.size x rfl (cell_newD _ _ _ _) (by omega) (by simp; omega) ?_; intro v' w1 hown1 hgrow1; obtain ⟨A2, c2, rfl, hz2, hb2⟩ := hown1.bs.form (n := acc.length + 1) (by simp); clear hz2
              have K1 : w1.cell? ⟨w.heap.size + 1, 1, none⟩ = some (.slice A1 acc.length c1) := hgrow1.cell (a := ⟨w.heap.size + 1, 1, none⟩) (keep_cell HK.out.1 _) (fun e => absurd (NE.out _ e.symm) (by show ¬ w.heap.size + 2 ≤ w.heap.size + 1; omega))
              have K2 : w1.frozen? ⟨w.heap.size + 1, 1, none⟩ = false := (hgrow1.frozen_far ⟨w.heap.size + 1, 1, none⟩ (by simp; omega) (fun e => absurd (NE.out _ e.symm) (by show ¬ w.heap.size + 2 ≤ w.heap.size + 1; omega))).trans (keep_frozen HK.out.1 HK.out.2.1 _)
              have K3 : w1.cell? ⟨g, off + j, none⟩ = some (bv x) := hgrow1.cell (a := ⟨g, off + j, none⟩) (keep_cell HK.out.2.2.2 _) (fun e => absurd (NE.out _ e.symm) (by show ¬ w.heap.size + 2 ≤ g; omega))
              have HB2 := Lib.hid hb2; have HO1 := Lib.hid hown1; have HG1 := Lib.hid hgrow1; clear hb2 hown1 hgrow1))
          all_goals
            obtain ⟨w2, hw2⟩ : ∃ w2, w2 = w1.setCell ⟨w.heap.size + 1, 1, none⟩ (.slice A2 j c2) := ⟨_, rfl⟩
            rw [← hw2]
            have X1 : w2.heap[w.heap.size]? = some (.cells #[.int .u8 0, .slice none 0 0] 39 (0, 0)) := by
              rw [hw2, heap_setCell_other (by show ¬ w.heap.size = w.heap.size + 1; omega), HG1.out.block _ (by simp; omega) (fun e => absurd (NE.out _ e.symm) (by omega))]
              exact (((Ext.refl NoB wr).alloc _).drew).heap HH1.out (fun x => x)
            have X2 : w2.heap[w.heap.size + 1]? = some (.cells #[.int .u8 1, .slice A2 j c2] 39 (0, 0)) := by
              have := ((((Ext.refl NoB wr).alloc (.cells #[bv x] 5)).drew).heap HH2.out (fun x => x))
              rw [hw2, heap_setCell_same ((HG1.out.block _ (by simp; omega) (fun e => absurd (NE.out _ e.symm) (by omega))).trans this)]
              rfl
            have BB : Below w.heap.size w w2 := by
              rw [hw2]
              exact (Below.grown (by repeat (first | with_reducible exact HBL.out | with_reducible exact Below.refl _ _ | with_reducible refine below_drew1 ?_ | with_reducible refine below_drewN1 ?_ _ | with_reducible refine below_alloc1 ?_ _ | with_reducible refine below_setb (by first | exact Nat.le_refl _ | omega) ?_)) HG1.out (by simp; omega) (fun x hx => by have := NE.out x hx; omega)).setCell (p := ⟨w.heap.size + 1, 1, none⟩) (by show w.heap.size ≤ w.heap.size + 1; omega) _
            have O2 : OwnB w2 (w.heap.size + 2) (.slice A2 j c2) (acc ++ [x]) := by
              rw [hw2]
              have := ownsRow_setCell_below (HO1.out : OwnB w1 (w.heap.size + 2) (.slice A2 (acc.length + 1) c2) (acc ++ [x])) (a := ⟨w.heap.size + 1, 1, none⟩) (by show w.heap.size + 1 < w.heap.size + 2; omega) (.slice A2 j c2)
              rw [hacc] at this
              exact this
            have hk1 := cell_of X1 0
            have hk2 := cell_of X1 1
            have hk3 := cell_of X2 0
            have hk4 := cell_of X2 1
            have hf1 := frozen_of X1 0 none
            have hf2 := frozen_of X1 1 none
            have s2 := heap_lt X2
            have HX1 := Lib.hid X1
            have HX2 := Lib.hid X2
            have HBB := Lib.hid BB
            have HO2 := Lib.hid O2
            clear X1 X2 BB O2 hw2 K1 K2 K3
            have g76 : ¬ (76 : Int) < (j : Int) := by omega
            go_wp2_with fail
            go_roundw
            case rel => exact ⟨j + 1, acc ++ [x], .slice A2 j c2, by go_num, by omega, by omega, by simp; omega, by simp; omega, HM.out, HO2.out, HBB.out, HX1.out, HX2.out⟩
            case measure => simp [intOf]; omega
    · obtain rfl : j = n := by omega
      have hd : (36 :: xs : List UInt8).drop j = [] := by rw [HN.out]; exact List.drop_length
      have hm := HRS.out
      rw [hd, rscan_nil] at hm
      have HM := Lib.hid hm
      clear hd hm
      go_wp2_with fail
      have hq := fin_cells HH1.out (.int .u8 1) (.slice A1 acc.length c1)
      have hq0 := cell_of hq 0
      have hq1 := cell_of hq 1
      have hfr : Fresh (w.heap.size + 1) (.slice A1 acc.length c1) := HO.out.fresh (by omega)
      refine bodyPost_ret (v := .tuple #[.agg #[.int .u8 1, .slice A1 acc.length c1], .bool false, .bool false]) (by simp [results, Try.results100, go_sem, hq0, hq1]) rfl ?_
      rw [HM.out]
      exact ⟨⟨_, rfl, HS1.out.set2 hfr _ _, hfr.low (by omega)⟩, below_set2 HBL.out (Nat.le_refl _) _ _⟩
end Go.Proofs.Ytfgglffjigolhaa
