/- The document's frames: body, SiRF. -/
import Derived.Test.YtfgglffjigolhaaRefE
namespace Go.Proofs.Ytfgglffjigolhaa
open Go.RowKit

set_option maxRecDepth 100000 in
set_option maxHeartbeats 3200000 in
theorem ref_body_sirf (size : Nat) (v : Value) (xs : List UInt8) (w : World) (hB : Bs w v (160 :: xs)) (hl : xs.length ≤ 4096) (hsz : size ≤ 100000) :
    Calls Try.prog 100 #[v, .int .i64 size] w fun e w' => Bodied w.heap.size w' e (refBodyM size (160 :: xs)) ∧ Below w.heap.size w w' := by
  obtain ⟨n, c, g, off, rfl, hn, hle, hlt0, hc0, hb⟩ := bs_open hB
  have hbody := show refBodyM size (160 :: xs) = _ from by
    unfold refBodyM
    simp only
    rw [if_neg (by decide), if_neg (by decide), if_pos trivial]
  have i0 : (0 : Int) < (n : Int) := by rw [hn]; simp
  have i00 : 0 < n := by omega
  have hnl : n ≤ 4097 := by rw [hn]; simp; omega
  rw [← hn] at hbody
  have HB := Lib.hid hb
  have HN := Lib.hid hn
  clear hB hb hn
  by_cases h1 : 1 < n
  · have i1 : (1 : Int) < (n : Int) := by omega
    obtain ⟨s, xs, rfl⟩ : ∃ s r, xs = s :: r := by
      have := HN.out
      match xs with
      | s :: r => exact ⟨s, r, rfl⟩
      | [] => simp at this; omega
    have hc1 := bs_cell HB.out (k := 1) (x := s) rfl
    rw [show (160 :: s :: xs : List UInt8).getD 1 0 = s from rfl] at hbody
    by_cases hs : s = 162
    · subst hs
      rw [if_neg (fun h => h.2 rfl)] at hbody
      by_cases h6 : n < 4
      · rw [if_pos h6] at hbody
        have i6 : (n : Int) < 4 := by omega
        rw [hbody]
        clear hbody
        go_enter Try.func100, Try.ntmps100
        go_wp2_with fail
        refine bodyPost_ret (v := .tuple #[.agg #[.int .u8 3, .slice none 0 0], .bool false, .bool false]) (by simp [results, Try.results100, go_sem]) rfl ?_
        exact ⟨⟨_, rfl, Bs.nil _, Fresh.nil _ _ _⟩, (by repeat (first | with_reducible exact Below.refl _ _ | with_reducible exact Below.refl _ _ | with_reducible refine below_drew1 ?_ | with_reducible refine below_drewN1 ?_ _ | with_reducible refine below_alloc1 ?_ _ | with_reducible refine below_setb (by first | exact Nat.le_refl _ | omega) ?_))⟩
      · rw [if_neg h6] at hbody
        have i6 : ¬ (n : Int) < 4 := by omega
        obtain ⟨l2, l3, rest, rfl⟩ : ∃ a b r, xs = a :: b :: r := by
          have := HN.out
          simp only [List.length_cons] at this
          match xs with
          | a :: b :: r => exact ⟨a, b, r, rfl⟩
          | [] => simp at this; omega
          | [_] => simp at this; omega
        have g2 : (160 :: 162 :: l2 :: l3 :: rest : List UInt8).getD 2 0 = l2 := rfl
        have g3 : (160 :: 162 :: l2 :: l3 :: rest : List UInt8).getD 3 0 = l3 := rfl
        rw [g2, g3] at hbody
        clear g2 g3
        obtain ⟨nn, hnn⟩ : ∃ nn, nn = 256 * l2.toNat + l3.toNat := ⟨_, rfl⟩
        rw [← hnn] at hbody
        have b4 := UInt8.toNat_lt l2
        have b5 := UInt8.toNat_lt l3
        have e1 : 256 * (l2.toNat : Int) + (l3.toNat : Int) = (nn : Int) := by omega
        have hnn2 : nn ≤ 65535 := by omega
        have i4 : (2 : Int) < (n : Int) := by omega
        have i5 : (3 : Int) < (n : Int) := by omega
        have c4 := bs_cell HB.out (k := 2) (x := l2) rfl
        have c5 := bs_cell HB.out (k := 3) (x := l3) rfl
        have HNN := Lib.hid hnn
        clear hnn
        by_cases hw : 1023 < nn ∨ size < nn + 8
        · rw [if_pos hw] at hbody
          rw [hbody]
          clear hbody
          by_cases hw1 : 1023 < nn
          · have j1 : (1023 : Int) < (nn : Int) := by omega
            go_enter Try.func100, Try.ntmps100
            go_wp2_with fail
            go_quiet (fail)
            go_wp2_with fail
            refine bodyPost_ret (v := .tuple #[.agg #[.int .u8 3, .slice none 0 0], .bool false, .bool true]) (by simp [results, Try.results100, go_sem]) rfl ?_
            exact ⟨⟨_, rfl, Bs.nil _, Fresh.nil _ _ _⟩, (by repeat (first | with_reducible exact Below.refl _ _ | with_reducible exact Below.refl _ _ | with_reducible refine below_drew1 ?_ | with_reducible refine below_drewN1 ?_ _ | with_reducible refine below_alloc1 ?_ _ | with_reducible refine below_setb (by first | exact Nat.le_refl _ | omega) ?_))⟩
          · have j1 : ¬ (1023 : Int) < (nn : Int) := by omega
            have j2 : (size : Int) < (nn : Int) + 8 := by omega
            go_enter Try.func100, Try.ntmps100
            go_wp2_with fail
            go_quiet (fail)
            go_wp2_with fail
            refine bodyPost_ret (v := .tuple #[.agg #[.int .u8 3, .slice none 0 0], .bool false, .bool true]) (by simp [results, Try.results100, go_sem]) rfl ?_
            exact ⟨⟨_, rfl, Bs.nil _, Fresh.nil _ _ _⟩, (by repeat (first | with_reducible exact Below.refl _ _ | with_reducible exact Below.refl _ _ | with_reducible refine below_drew1 ?_ | with_reducible refine below_drewN1 ?_ _ | with_reducible refine below_alloc1 ?_ _ | with_reducible refine below_setb (by first | exact Nat.le_refl _ | omega) ?_))⟩
        · rw [if_neg hw] at hbody
          have j1 : ¬ (1023 : Int) < (nn : Int) := by omega
          have j2 : ¬ (size : Int) < (nn : Int) + 8 := by omega
          by_cases hsh : n < 4 + nn
          · rw [if_pos hsh] at hbody
            rw [hbody]
            clear hbody hw
            have j3 : (n : Int) < 4 + (nn : Int) := by omega
            go_enter Try.func100, Try.ntmps100
            go_wp2_with fail
            go_quiet (fail)
            go_wp2_with fail
            refine bodyPost_ret (v := .tuple #[.agg #[.int .u8 3, .slice none 0 0], .bool false, .bool false]) (by simp [results, Try.results100, go_sem]) rfl ?_
            exact ⟨⟨_, rfl, Bs.nil _, Fresh.nil _ _ _⟩, (by repeat (first | with_reducible exact Below.refl _ _ | with_reducible exact Below.refl _ _ | with_reducible refine below_drew1 ?_ | with_reducible refine below_drewN1 ?_ _ | with_reducible refine below_alloc1 ?_ _ | with_reducible refine below_setb (by first | exact Nat.le_refl _ | omega) ?_))⟩
          · rw [if_neg hsh] at hbody
            rw [hbody]
            clear hbody hw
            have j3 : ¬ (n : Int) < 4 + (nn : Int) := by omega
            have htk := HB.out.take (k := 4 + nn) (by omega) (by rw [← HN.out]; omega)
            obtain ⟨A', hA, hcut, -⟩ := htk.cut (k := 4) (by rw [List.length_take, ← HN.out]; omega)
            have hA : (if c = 4 then some (⟨g, off, none⟩ : Addr) else some ⟨g, off + 4, none⟩) = A' := hA
            rw [show 4 + nn - 4 = nn by omega] at hcut
            obtain ⟨body, hbd⟩ : ∃ body, body = ((160 :: 162 :: l2 :: l3 :: rest : List UInt8).take (4 + nn)).drop 4 := ⟨_, rfl⟩
            rw [← hbd] at hcut ⊢
            have hbl : body.length = nn := by rw [hbd, List.length_drop, List.length_take, ← HN.out]; omega
            have w1 : IntKind.i64.wrap (4 + (nn : Int)) = 4 + (nn : Int) := IntWalk.i64_in _ (by omega)
            have w2 : (0 : Int) ≤ 4 + (nn : Int) := by omega
            have w3 : (4 + (nn : Int)).toNat = 4 + nn := by omega
            have w4 : (4 : Int) ≤ 4 + (nn : Int) := by omega
            have w5 : (4 : Int) + (nn : Int) ≤ (c : Int) := by omega
            have w6 : 4 + nn - 4 = nn := by omega
            have HCUT := Lib.hid hcut
            have HBD := Lib.hid (And.intro hbd hbl)
            clear htk hcut hbd hbl
            go_enter Try.func100, Try.ntmps100
            go_wp2_with fail
            go_quiet (fail)
            go_wp2_with (at_builtin; go_must (refine wpList_append_bytes rfl (.tmp 144) (.tmp 148) rfl (w.heap.size + 2) (.slice (some ⟨w.heap.size + 2, 0, none⟩) 0 0) (.slice A' nn (c - 4)) [] body rfl (own_madeg (L := []) rfl (by simp) rfl (by simp) (by simp)) rfl (by repeat (any_goals (first | with_reducible exact HCUT.out | with_reducible exact HCUT.out.bs | with_reducible refine Bs.drew ?_ | with_reducible refine Bss.drew ?_ | with_reducible refine IsRing.drew ?_ | with_reducible refine Bs.drewN ?_ _ | with_reducible refine Bss.drewN ?_ _ | with_reducible refine IsRing.drewN ?_ _ | (with_reducible refine own2_bsi ?_ ?_ ?_; focus (simp; done)) | (with_reducible refine own1_bsi ?_ ?_; focus (simp; done)) | (with_reducible refine own4_bsi ?_ ?_ ?_ ?_ ?_; focus (simp; done)) | with_reducible rfl | with_reducible assumption | (with_reducible refine Bss.made2g 30 ?_ ?_ ?_; focus (simp; done)) | (with_reducible refine Bss.made3g 30 ?_ ?_ ?_ ?_; focus (simp; done)) | with_reducible refine Bs.alloc ?_ _ | with_reducible refine Bss.alloc ?_ _ | with_reducible refine IsRing.alloc ?_ _ | rfl))) (by rw [HBD.out.2]; simp; omega) (by simp) ?_; intro v1 w1 ho1 hg1; obtain ⟨A2, c2, rfl, hz2, hb2⟩ := ho1.bs.form (n := nn) (by rw [List.nil_append, HBD.out.2]); clear hz2; have X1 : w1.heap[w.heap.size]? = some (.cells #[.int .u8 0, .slice none 0 0] 39 (0, 0)) := ((hg1.block _ (by simp; omega) (fun e => by have : w.heap.size = w.heap.size + 2 := (by first | (simp [Value.ownBlock] at e; done) | simpa [Value.ownBlock] using e); omega)).trans (heap_keep (heap_keep (heap_alloc_same w _)))); have X2 : w1.heap[w.heap.size + 1]? = some (.cells #[.int .u8 3, .slice none 0 0] 39 (0, 0)) := ((hg1.block _ (by simp) (fun e => by have : w.heap.size + 1 = w.heap.size + 2 := (by first | (simp [Value.ownBlock] at e; done) | simpa [Value.ownBlock] using e); omega)).trans (heap_keep (heap_alloc2 w _ _))); have hk1 := cell_of X1 0; have hk2 := cell_of X1 1; have hk3 := cell_of X2 0; have hf1 := frozen_of X1 0 none; have hf2 := frozen_of X1 1 none; have hk4 := cell_of X2 1; have hf4 := frozen_of X2 1 none; have s2 := heap_lt X2; have HX1 := Lib.hid X1; have HX2 := Lib.hid X2; have HO1 := Lib.hid ho1; have HG1 := Lib.hid hg1; clear X1 X2 ho1 hg1 hb2))
            obtain ⟨w2, hw2⟩ : ∃ w2, w2 = w1.setCell ⟨w.heap.size + 1, 1, none⟩ (.slice A2 nn c2) := ⟨_, rfl⟩
            rw [← hw2]
            have Y1 : w2.heap[w.heap.size]? = some (.cells #[.int .u8 0, .slice none 0 0] 39 (0, 0)) := by
              rw [hw2, heap_setCell_other (by show ¬ w.heap.size = w.heap.size + 1; omega)]; exact HX1.out
            have BB : Below w.heap.size w w2 := by
              rw [hw2]
              exact (Below.grown (by repeat (first | with_reducible exact Below.refl _ _ | with_reducible exact Below.refl _ _ | with_reducible refine below_drew1 ?_ | with_reducible refine below_drewN1 ?_ _ | with_reducible refine below_alloc1 ?_ _ | with_reducible refine below_setb (by first | exact Nat.le_refl _ | omega) ?_)) HG1.out (by simp; omega) (row_ge (by omega))).setCell (p := ⟨w.heap.size + 1, 1, none⟩) (by show w.heap.size ≤ w.heap.size + 1; omega) _
            have O2 : OwnB w2 (w.heap.size + 2) (.slice A2 nn c2) body := by
              rw [hw2]
              exact ownsRow_setCell_below HO1.out (a := ⟨w.heap.size + 1, 1, none⟩) (by show w.heap.size + 1 < w.heap.size + 2; omega) (.slice A2 nn c2)
            have hq := fin_cells Y1 (.int .u8 3) (.slice A2 nn c2)
            have hq0 := cell_of hq 0
            have hq1 := cell_of hq 1
            have hfr : Fresh (w.heap.size + 1) (.slice A2 nn c2) := O2.fresh (by omega)
            refine bodyPost_ret (v := .tuple #[.agg #[.int .u8 3, .slice A2 nn c2], .bool true, .bool false]) (by simp [results, Try.results100, go_sem, hq0, hq1]) rfl ?_
            exact ⟨⟨_, rfl, O2.bs.set2 hfr _ _, hfr.low (by omega)⟩, below_set2 BB (Nat.le_refl _) _ _⟩
    · rw [if_pos ⟨h1, hs⟩] at hbody
      have hne : ((s.toNat : Int) != 162) = true := by
        have : ((s.toNat : Int) == 162) = false := neq_u8 hs rfl
        simp [bne, this]
      rw [hbody]
      clear hbody hs
      go_enter Try.func100, Try.ntmps100
      go_wp2_with fail
      refine bodyPost_ret (v := .tuple #[.agg #[.int .u8 3, .slice none 0 0], .bool false, .bool true]) (by simp [results, Try.results100, go_sem]) rfl ?_
      exact ⟨⟨_, rfl, Bs.nil _, Fresh.nil _ _ _⟩, (by repeat (first | with_reducible exact Below.refl _ _ | with_reducible exact Below.refl _ _ | with_reducible refine below_drew1 ?_ | with_reducible refine below_drewN1 ?_ _ | with_reducible refine below_alloc1 ?_ _ | with_reducible refine below_setb (by first | exact Nat.le_refl _ | omega) ?_))⟩
  · rw [if_neg (fun h => h1 h.1), if_pos (by omega)] at hbody
    have i1 : ¬ (1 : Int) < (n : Int) := by omega
    have i6 : (n : Int) < 4 := by omega
    rw [hbody]
    clear hbody
    go_enter Try.func100, Try.ntmps100
    go_wp2_with fail
    refine bodyPost_ret (v := .tuple #[.agg #[.int .u8 3, .slice none 0 0], .bool false, .bool false]) (by simp [results, Try.results100, go_sem]) rfl ?_
    exact ⟨⟨_, rfl, Bs.nil _, Fresh.nil _ _ _⟩, (by repeat (first | with_reducible exact Below.refl _ _ | with_reducible exact Below.refl _ _ | with_reducible refine below_drew1 ?_ | with_reducible refine below_drewN1 ?_ _ | with_reducible refine below_alloc1 ?_ _ | with_reducible refine below_setb (by first | exact Nat.le_refl _ | omega) ?_))⟩

theorem ref_body_any (size : Nat) (v : Value) (L : List UInt8) (w : World) (hB : Bs w v L) (hne : L ≠ []) (hl : L.length ≤ 4096) (hsz : size ≤ 100000) :
    Calls Try.prog 100 #[v, .int .i64 size] w fun e w' => Bodied w.heap.size w' e (refBodyM size L) ∧ Below w.heap.size w w' := by
  cases L with
  | nil => exact absurd rfl hne
  | cons c xs =>
    simp only [List.length_cons] at hl
    by_cases c1 : c = 36
    · subst c1; exact ref_body_nmea size v xs w hB (by omega)
    · by_cases c2 : c = 181
      · subst c2; exact ref_body_ubx size v xs w hB (by omega) hsz
      · by_cases c3 : c = 160
        · subst c3; exact ref_body_sirf size v xs w hB (by omega) hsz
        · have : refBodyM size (c :: xs) = (0, [], false, true) := by
            unfold refBodyM
            simp only
            rw [if_neg c1, if_neg c2, if_neg c3]
          rw [this]
          exact ref_body_other size v c xs w hB c1 c2 c3
end Go.Proofs.Ytfgglffjigolhaa
