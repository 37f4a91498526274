/- The document's frames: body, UBX, SiRF, others. -/
import Derived.Test.YtfgglffjigolhaaRefD
namespace Go.Proofs.Ytfgglffjigolhaa
open Go.RowKit

theorem bs_cell {w : World} {n c k : Nat} {g off : Nat} {L : List UInt8} {x : UInt8} (h : Bs w (.slice (some ⟨g, off, none⟩) n c) L) (hk : L[k]? = some x) : w.cell? ⟨g, off + k, none⟩ = some (bv x) := by
  obtain ⟨hl, rfl⟩ := List.getElem?_eq_some_iff.1 hk
  obtain ⟨g', off', he, _, hc⟩ := h.at_ hl
  obtain ⟨rfl, rfl⟩ : g = g' ∧ off = off' := by simpa using he
  exact hc
theorem bs_open {w : World} {v : Value} {x : UInt8} {xs : List UInt8} (h : Bs w v (x :: xs)) : ∃ n c g off, v = .slice (some ⟨g, off, none⟩) n c ∧ n = (x :: xs).length ∧ n ≤ c ∧ g < w.heap.size ∧ w.cell? ⟨g, off, none⟩ = some (bv x) ∧ Bs w (.slice (some ⟨g, off, none⟩) n c) (x :: xs) := by
  obtain ⟨A, c, rfl, hle, hb⟩ := h.form rfl
  obtain ⟨g, off, rfl, _, hc⟩ := hb.at_ (k := 0) (by simp)
  rw [Nat.add_zero] at hc
  exact ⟨_, c, g, off, rfl, rfl, hle, World.block_lt_of_cell? w _ hc, hc, hb⟩

set_option maxRecDepth 100000 in
set_option maxHeartbeats 1600000 in
theorem ref_body_other (size : Nat) (v : Value) (x : UInt8) (xs : List UInt8) (w : World) (hB : Bs w v (x :: xs)) (h1 : x ≠ 36) (h2 : x ≠ 181) (h3 : x ≠ 160) :
    Calls Try.prog 100 #[v, .int .i64 size] w fun e w' => Bodied w.heap.size w' e (0, [], false, true) ∧ Below w.heap.size w w' := by
  obtain ⟨n, c, g, off, rfl, hn, hle, hlt0, hc0, hb⟩ := bs_open hB
  have i0 : (0 : Int) < (n : Int) := by rw [hn]; simp
  have i00 : 0 < n := by omega
  have q1 : ((x.toNat : Int) == 36) = false := neq_u8 h1 rfl
  have q2 : ((x.toNat : Int) == 181) = false := neq_u8 h2 rfl
  have q3 : ((x.toNat : Int) == 160) = false := neq_u8 h3 rfl
  clear hB hb hn h1 h2 h3
  go_enter Try.func100, Try.ntmps100
  go_wp2_with fail
  refine bodyPost_ret (v := .tuple #[.agg #[.int .u8 0, .slice none 0 0], .bool false, .bool true]) (by simp [results, Try.results100, go_sem]) rfl ?_
  exact ⟨⟨_, rfl, Bs.nil _, Fresh.nil _ _ _⟩, (by repeat (first | with_reducible exact Below.refl _ _ | with_reducible exact Below.refl _ _ | with_reducible refine below_drew1 ?_ | with_reducible refine below_drewN1 ?_ _ | with_reducible refine below_alloc1 ?_ _ | with_reducible refine below_setb (by first | exact Nat.le_refl _ | omega) ?_))⟩

set_option maxRecDepth 100000 in
set_option maxHeartbeats 3200000 in
theorem ref_body_ubx (size : Nat) (v : Value) (xs : List UInt8) (w : World) (hB : Bs w v (181 :: xs)) (hl : xs.length ≤ 4096) (hsz : size ≤ 100000) :
    Calls Try.prog 100 #[v, .int .i64 size] w fun e w' => Bodied w.heap.size w' e (refBodyM size (181 :: xs)) ∧ Below w.heap.size w w' := by
  obtain ⟨n, c, g, off, rfl, hn, hle, hlt0, hc0, hb⟩ := bs_open hB
  have hbody := show refBodyM size (181 :: xs) = _ from by
    unfold refBodyM
    simp only
    rw [if_neg (by decide), if_pos trivial]
  have i0 : (0 : Int) < (n : Int) := by rw [hn]; simp
  have i00 : 0 < n := by omega
  have hnl : n ≤ 4097 := by rw [hn]; simp; omega
  rw [← hn] at hbody
  have HB := Lib.hid hb
  have HN := Lib.hid hn
  clear hB hb hn
  by_cases h1 : 1 < n
  · have i1 : (1 : Int) < (n : Int) := by omega
    obtain ⟨s, xs, rfl⟩ : ∃ s r, xs = s :: r := by
      have := HN.out
      match xs with
      | s :: r => exact ⟨s, r, rfl⟩
      | [] => simp at this; omega
    have hc1 := bs_cell HB.out (k := 1) (x := s) rfl
    rw [show (181 :: s :: xs : List UInt8).getD 1 0 = s from rfl] at hbody
    by_cases hs : s = 98
    · subst hs
      rw [if_neg (fun h => h.2 rfl)] at hbody
      by_cases h6 : n < 6
      · rw [if_pos h6] at hbody
        have i6 : (n : Int) < 6 := by omega
        rw [hbody]
        clear hbody
        go_enter Try.func100, Try.ntmps100
        go_wp2_with fail
        refine bodyPost_ret (v := .tuple #[.agg #[.int .u8 2, .slice none 0 0], .bool false, .bool false]) (by simp [results, Try.results100, go_sem]) rfl ?_
        exact ⟨⟨_, rfl, Bs.nil _, Fresh.nil _ _ _⟩, (by repeat (first | with_reducible exact Below.refl _ _ | with_reducible exact Below.refl _ _ | with_reducible refine below_drew1 ?_ | with_reducible refine below_drewN1 ?_ _ | with_reducible refine below_alloc1 ?_ _ | with_reducible refine below_setb (by first | exact Nat.le_refl _ | omega) ?_))⟩
      · rw [if_neg h6] at hbody
        have i6 : ¬ (n : Int) < 6 := by omega
        obtain ⟨l2, l3, l4, l5, rest, rfl⟩ : ∃ a b c d r, xs = a :: b :: c :: d :: r := by
          have := HN.out
          simp only [List.length_cons] at this
          match xs with
          | a :: b :: c :: d :: r => exact ⟨a, b, c, d, r, rfl⟩
          | [] => simp at this; omega
          | [_] => simp at this; omega
          | [_, _] => simp at this; omega
          | [_, _, _] => simp at this; omega
        have g2 : (181 :: 98 :: l2 :: l3 :: l4 :: l5 :: rest : List UInt8).getD 2 0 = l2 := rfl
        have g3 : (181 :: 98 :: l2 :: l3 :: l4 :: l5 :: rest : List UInt8).getD 3 0 = l3 := rfl
        have g4 : (181 :: 98 :: l2 :: l3 :: l4 :: l5 :: rest : List UInt8).getD 4 0 = l4 := rfl
        have g5 : (181 :: 98 :: l2 :: l3 :: l4 :: l5 :: rest : List UInt8).getD 5 0 = l5 := rfl
        rw [g2, g3, g4, g5] at hbody
        clear g2 g3 g4 g5
        obtain ⟨nn, hnn⟩ : ∃ nn, nn = l4.toNat + 256 * l5.toNat := ⟨_, rfl⟩
        rw [← hnn] at hbody
        have b4 := UInt8.toNat_lt l4
        have b5 := UInt8.toNat_lt l5
        have e1 : (l4.toNat : Int) + 256 * (l5.toNat : Int) = (nn : Int) := by omega
        have hnn2 : nn ≤ 65535 := by omega
        have i4 : (4 : Int) < (n : Int) := by omega
        have i5 : (5 : Int) < (n : Int) := by omega
        have c4 := bs_cell HB.out (k := 4) (x := l4) rfl
        have c5 := bs_cell HB.out (k := 5) (x := l5) rfl
        have HNN := Lib.hid hnn
        clear hnn
        by_cases hw : 512 < nn ∨ size < nn + 8
        · rw [if_pos hw] at hbody
          rw [hbody]
          clear hbody
          by_cases hw1 : 512 < nn
          · have j1 : (512 : Int) < (nn : Int) := by omega
            go_enter Try.func100, Try.ntmps100
            go_wp2_with fail
            go_quiet (fail)
            go_wp2_with fail
            refine bodyPost_ret (v := .tuple #[.agg #[.int .u8 2, .slice none 0 0], .bool false, .bool true]) (by simp [results, Try.results100, go_sem]) rfl ?_
            exact ⟨⟨_, rfl, Bs.nil _, Fresh.nil _ _ _⟩, (by repeat (first | with_reducible exact Below.refl _ _ | with_reducible exact Below.refl _ _ | with_reducible refine below_drew1 ?_ | with_reducible refine below_drewN1 ?_ _ | with_reducible refine below_alloc1 ?_ _ | with_reducible refine below_setb (by first | exact Nat.le_refl _ | omega) ?_))⟩
          · have j1 : ¬ (512 : Int) < (nn : Int) := by omega
            have j2 : (size : Int) < (nn : Int) + 8 := by omega
            go_enter Try.func100, Try.ntmps100
            go_wp2_with fail
            go_quiet (fail)
            go_wp2_with fail
            refine bodyPost_ret (v := .tuple #[.agg #[.int .u8 2, .slice none 0 0], .bool false, .bool true]) (by simp [results, Try.results100, go_sem]) rfl ?_
            exact ⟨⟨_, rfl, Bs.nil _, Fresh.nil _ _ _⟩, (by repeat (first | with_reducible exact Below.refl _ _ | with_reducible exact Below.refl _ _ | with_reducible refine below_drew1 ?_ | with_reducible refine below_drewN1 ?_ _ | with_reducible refine below_alloc1 ?_ _ | with_reducible refine below_setb (by first | exact Nat.le_refl _ | omega) ?_))⟩
        · rw [if_neg hw] at hbody
          have j1 : ¬ (512 : Int) < (nn : Int) := by omega
          have j2 : ¬ (size : Int) < (nn : Int) + 8 := by omega
          by_cases hsh : n < 6 + nn
          · rw [if_pos hsh] at hbody
            rw [hbody]
            clear hbody hw
            have j3 : (n : Int) < 6 + (nn : Int) := by omega
            go_enter Try.func100, Try.ntmps100
            go_wp2_with fail
            go_quiet (fail)
            go_wp2_with fail
            refine bodyPost_ret (v := .tuple #[.agg #[.int .u8 2, .slice none 0 0], .bool false, .bool false]) (by simp [results, Try.results100, go_sem]) rfl ?_
            exact ⟨⟨_, rfl, Bs.nil _, Fresh.nil _ _ _⟩, (by repeat (first | with_reducible exact Below.refl _ _ | with_reducible exact Below.refl _ _ | with_reducible refine below_drew1 ?_ | with_reducible refine below_drewN1 ?_ _ | with_reducible refine below_alloc1 ?_ _ | with_reducible refine below_setb (by first | exact Nat.le_refl _ | omega) ?_))⟩
          · rw [if_neg hsh] at hbody
            rw [hbody]
            clear hbody hw
            have j3 : ¬ (n : Int) < 6 + (nn : Int) := by omega
            have c2 := bs_cell HB.out (k := 2) (x := l2) rfl
            have c3 := bs_cell HB.out (k := 3) (x := l3) rfl
            have i2 : (2 : Int) < (n : Int) := by omega
            have i3 : (3 : Int) < (n : Int) := by omega
            have htk := HB.out.take (k := 6 + nn) (by omega) (by rw [← HN.out]; omega)
            obtain ⟨A', hA, hcut, -⟩ := htk.cut (k := 6) (by rw [List.length_take, ← HN.out]; omega)
            have hA : (if c = 6 then some (⟨g, off, none⟩ : Addr) else some ⟨g, off + 6, none⟩) = A' := hA
            rw [show 6 + nn - 6 = nn by omega] at hcut
            obtain ⟨body, hbd⟩ : ∃ body, body = ((181 :: 98 :: l2 :: l3 :: l4 :: l5 :: rest : List UInt8).take (6 + nn)).drop 6 := ⟨_, rfl⟩
            rw [← hbd] at hcut ⊢
            have hbl : body.length = nn := by rw [hbd, List.length_drop, List.length_take, ← HN.out]; omega
            have w1 : IntKind.i64.wrap (6 + (nn : Int)) = 6 + (nn : Int) := IntWalk.i64_in _ (by omega)
            have w2 : (0 : Int) ≤ 6 + (nn : Int) := by omega
            have w3 : (6 + (nn : Int)).toNat = 6 + nn := by omega
            have w4 : (6 : Int) ≤ 6 + (nn : Int) := by omega
            have w5 : (6 : Int) + (nn : Int) ≤ (c : Int) := by omega
            have w6 : 6 + nn - 6 = nn := by omega
            have HCUT := Lib.hid hcut
            have HBD := Lib.hid (And.intro hbd hbl)
            clear htk hcut hbd hbl
            go_enter Try.func100, Try.ntmps100
            go_wp2_with fail
            go_quiet (fail)
            go_wp2_with fail
            go_region_law
              ((refine step_append_bytes rfl (.tmp 94) (.tmp 98) rfl (w.heap.size + 2) (.slice (some ⟨w.heap.size + 2, 0, none⟩) 2 2) (.slice A' nn (c - 6)) [l2, l3] body rfl (own_madeg (L := [l2, l3]) rfl (by simp) rfl (by simp) (by simp)) rfl (by repeat (any_goals (first | with_reducible exact HCUT.out | with_reducible exact HCUT.out.bs | with_reducible refine Bs.drew ?_ | with_reducible refine Bss.drew ?_ | with_reducible refine IsRing.drew ?_ | with_reducible refine Bs.drewN ?_ _ | with_reducible refine Bss.drewN ?_ _ | with_reducible refine IsRing.drewN ?_ _ | (with_reducible refine own2_bsi ?_ ?_ ?_; focus (simp; done)) | (with_reducible refine own1_bsi ?_ ?_; focus (simp; done)) | (with_reducible refine own4_bsi ?_ ?_ ?_ ?_ ?_; focus (simp; done)) | with_reducible rfl | with_reducible assumption | (with_reducible refine Bss.made2g 30 ?_ ?_ ?_; focus (simp; done)) | (with_reducible refine Bss.made3g 30 ?_ ?_ ?_ ?_; focus (simp; done)) | with_reducible refine Bs.alloc ?_ _ | with_reducible refine Bss.alloc ?_ _ | with_reducible refine IsRing.alloc ?_ _ | rfl))) (by rw [HBD.out.2]; simp; omega) (by simp) ?_; intro v1 w1 ho1 hg1
                obtain ⟨A2, c2, rfl, hz2, hb2⟩ := ho1.bs.form (n := 2 + nn) (by rw [List.length_append, HBD.out.2]; rfl); clear hz2
                have X1 : w1.heap[w.heap.size]? = some (.cells #[.int .u8 0, .slice none 0 0] 39 (0, 0)) := (hg1.block _ (by simp; omega) (fun e => by have : w.heap.size = w.heap.size + 2 := (by first | (simp [Value.ownBlock] at e; done) | simpa [Value.ownBlock] using e); omega)).trans (heap_keep (heap_keep (heap_alloc_same w _)))
                have X2 : w1.heap[w.heap.size + 1]? = some (.cells #[.int .u8 2, .slice none 0 0] 39 (0, 0)) := (hg1.block _ (by simp) (fun e => by have : w.heap.size + 1 = w.heap.size + 2 := (by first | (simp [Value.ownBlock] at e; done) | simpa [Value.ownBlock] using e); omega)).trans (heap_keep (heap_alloc2 w _ _))
                have hk4 := cell_of X2 1; have hf4 := frozen_of X2 1 none
                have HX1 := Lib.hid X1; have HX2 := Lib.hid X2; have HO1 := Lib.hid ho1; have HG1 := Lib.hid hg1; clear X1 X2 ho1 hg1 hb2))
            all_goals
              obtain ⟨w2, hw2⟩ : ∃ w2, w2 = w1.setCell ⟨w.heap.size + 1, 1, none⟩ (.slice A2 (2 + nn) c2) := ⟨_, rfl⟩
              rw [← hw2]
              have Y1 : w2.heap[w.heap.size]? = some (.cells #[.int .u8 0, .slice none 0 0] 39 (0, 0)) := by
                rw [hw2, heap_setCell_other (by show ¬ w.heap.size = w.heap.size + 1; omega)]; exact HX1.out
              have Y2 : w2.heap[w.heap.size + 1]? = some (.cells #[.int .u8 2, .slice A2 (2 + nn) c2] 39 (0, 0)) := by
                rw [hw2, heap_setCell_same HX2.out]; rfl
              have BB : Below w.heap.size w w2 := by
                rw [hw2]
                exact (Below.grown (by repeat (first | with_reducible exact Below.refl _ _ | with_reducible exact Below.refl _ _ | with_reducible refine below_drew1 ?_ | with_reducible refine below_drewN1 ?_ _ | with_reducible refine below_alloc1 ?_ _ | with_reducible refine below_setb (by first | exact Nat.le_refl _ | omega) ?_)) HG1.out (by simp; omega) (row_ge (by omega))).setCell (p := ⟨w.heap.size + 1, 1, none⟩) (by show w.heap.size ≤ w.heap.size + 1; omega) _
              have O2 : OwnB w2 (w.heap.size + 2) (.slice A2 (2 + nn) c2) ([l2, l3] ++ body) := by
                rw [hw2]
                exact ownsRow_setCell_below HO1.out (a := ⟨w.heap.size + 1, 1, none⟩) (by show w.heap.size + 1 < w.heap.size + 2; omega) (.slice A2 (2 + nn) c2)
              have hk1 := cell_of Y1 0
              have hk2 := cell_of Y1 1
              have hk3 := cell_of Y2 0
              have hk5 := cell_of Y2 1
              have hf1 := frozen_of Y1 0 none
              have hf2 := frozen_of Y1 1 none
              have s2 := heap_lt Y2
              have HY1 := Lib.hid Y1
              have HY2 := Lib.hid Y2
              have HBB := Lib.hid BB
              have HO2 := Lib.hid O2
              clear Y1 Y2 BB O2 hw2 hk4 hf4
              go_wp2_with fail
              have hq := fin_cells HY1.out (.int .u8 2) (.slice A2 (2 + nn) c2)
              have hq0 := cell_of hq 0
              have hq1 := cell_of hq 1
              have hfr : Fresh (w.heap.size + 1) (.slice A2 (2 + nn) c2) := HO2.out.fresh (by omega)
              refine bodyPost_ret (v := .tuple #[.agg #[.int .u8 2, .slice A2 (2 + nn) c2], .bool true, .bool false]) (by simp [results, Try.results100, go_sem, hq0, hq1]) rfl ?_
              exact ⟨⟨_, rfl, HO2.out.bs.set2 hfr _ _, hfr.low (by omega)⟩, below_set2 HBB.out (Nat.le_refl _) _ _⟩
    · rw [if_pos ⟨h1, hs⟩] at hbody
      have hne : ((s.toNat : Int) != 98) = true := by
        have : ((s.toNat : Int) == 98) = false := neq_u8 hs rfl
        simp [bne, this]
      rw [hbody]
      clear hbody hs
      go_enter Try.func100, Try.ntmps100
      go_wp2_with fail
      refine bodyPost_ret (v := .tuple #[.agg #[.int .u8 2, .slice none 0 0], .bool false, .bool true]) (by simp [results, Try.results100, go_sem]) rfl ?_
      exact ⟨⟨_, rfl, Bs.nil _, Fresh.nil _ _ _⟩, (by repeat (first | with_reducible exact Below.refl _ _ | with_reducible exact Below.refl _ _ | with_reducible refine below_drew1 ?_ | with_reducible refine below_drewN1 ?_ _ | with_reducible refine below_alloc1 ?_ _ | with_reducible refine below_setb (by first | exact Nat.le_refl _ | omega) ?_))⟩
  · rw [if_neg (fun h => h1 h.1), if_pos (by omega)] at hbody
    have i1 : ¬ (1 : Int) < (n : Int) := by omega
    have i6 : (n : Int) < 6 := by omega
    rw [hbody]
    clear hbody
    go_enter Try.func100, Try.ntmps100
    go_wp2_with fail
    refine bodyPost_ret (v := .tuple #[.agg #[.int .u8 2, .slice none 0 0], .bool false, .bool false]) (by simp [results, Try.results100, go_sem]) rfl ?_
    exact ⟨⟨_, rfl, Bs.nil _, Fresh.nil _ _ _⟩, (by repeat (first | with_reducible exact Below.refl _ _ | with_reducible exact Below.refl _ _ | with_reducible refine below_drew1 ?_ | with_reducible refine below_drewN1 ?_ _ | with_reducible refine below_alloc1 ?_ _ | with_reducible refine below_setb (by first | exact Nat.le_refl _ | omega) ?_))⟩
end Go.Proofs.Ytfgglffjigolhaa
