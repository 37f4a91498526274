/- Frames: UBX and SiRF looked at. -/
import Derived.Test.YtfgglffjigolhaaFrameC
namespace Go.Proofs.Ytfgglffjigolhaa
open Go.RowKit

theorem beginsM_lt (L : List UInt8) (second : UInt8) (pos : Nat) (high : Bool) : (beginsM L second pos high).1 ≤ 65535 := by
  unfold beginsM
  have h1 := UInt8.toNat_lt (L.getD pos 0)
  have h2 := UInt8.toNat_lt (L.getD (pos + 1) 0)
  split
  · show 0 ≤ _; omega
  · split
    · cases high
      · show 256 * _ + _ ≤ 65535; omega
      · show 256 * _ + _ ≤ 65535; omega
    · show 0 ≤ _; omega
def ubxM (size : Nat) (L : List UInt8) : Nat × Nat × List UInt8 :=
  if (beginsM L 98 4 false).2 = 1 then
    (if 520 < (beginsM L 98 4 false).1 + 8 ∨ size < (beginsM L 98 4 false).1 + 8 then (2, 0, [])
     else if L.length < (beginsM L 98 4 false).1 + 6 then (0, 0, [])
     else (endsM L ((beginsM L 98 4 false).1 + 6) [(fletL ((L.take ((beginsM L 98 4 false).1 + 6)).drop 2)).1, (fletL ((L.take ((beginsM L 98 4 false).1 + 6)).drop 2)).2], (beginsM L 98 4 false).1 + 8,
       ((L.take ((beginsM L 98 4 false).1 + 6)).drop 2).take 2 ++ ((L.take ((beginsM L 98 4 false).1 + 6)).drop 2).drop 4))
  else ((beginsM L 98 4 false).2, 0, [])
def sirfM (size : Nat) (L : List UInt8) : Nat × Nat × List UInt8 :=
  if (beginsM L 162 2 true).2 = 1 then
    (if 1031 < (beginsM L 162 2 true).1 + 8 ∨ size < (beginsM L 162 2 true).1 + 8 then (2, 0, [])
     else if L.length < (beginsM L 162 2 true).1 + 4 then (0, 0, [])
     else (endsM L ((beginsM L 162 2 true).1 + 4) [(fiftL ((L.take ((beginsM L 162 2 true).1 + 4)).drop 4) / 256).toUInt8, (fiftL ((L.take ((beginsM L 162 2 true).1 + 4)).drop 4)).toUInt8, 176, 179], (beginsM L 162 2 true).1 + 8, (L.take ((beginsM L 162 2 true).1 + 4)).drop 4))
  else ((beginsM L 162 2 true).2, 0, [])

set_option maxRecDepth 100000 in
set_option maxHeartbeats 1600000 in
theorem ubx_any (g size : Nat) (L : List UInt8) (lost : Int) (w : World) (h : IsRing w g size L lost) :
    Calls Try.prog 97 #[.agg #[.pointer (some ⟨g, 0, none⟩)]] w fun e w' => Looks w.heap.size w' e (ubxM size L) ∧ Below w.heap.size w w' := by
  have hlen := h.len
  have hlt := beginsM_lt L 98 4 false
  have hbeg := begins_false g size L lost 98 4 4 _ rfl (h.alloc (.cells #[.pointer (some ⟨g, 0, none⟩)] 181)) (by omega) (by omega)
  unfold ubxM
  obtain ⟨⟨n, s⟩, hns⟩ : ∃ r, r = beginsM L 98 4 false := ⟨_, rfl⟩
  rw [← hns] at hlt hbeg ⊢
  simp only at hlt hbeg ⊢
  have H := Lib.hid h
  have HBG := Lib.hid hbeg
  have HNS := Lib.hid hns
  clear h hbeg hns
  by_cases hs : s = 1
  · subst hs
    rw [if_pos rfl]
    by_cases h1 : 520 < n + 8 ∨ size < n + 8
    · rw [if_pos h1]
      by_cases h1a : 520 < n + 8
      · have g1 : (520 : Int) < (n : Int) + 8 := by omega
        clear h1 h1a
        go_enter Try.func97, Try.ntmps97
        go_wp2_with (first | (go_at_call 127; refine HBG.out.mono ?_; rintro e w1 ⟨rfl, hb1⟩; have hc1 := below_newCell hb1; have B1 := Lib.hid hb1; clear hb1))
        go_ret3
        exact ⟨looks_nil (s := 2) rfl, below_unalloc B1.out⟩
      · have g1 : ¬ (520 : Int) < (n : Int) + 8 := by omega
        have g2 : (size : Int) < (n : Int) + 8 := by omega
        clear h1 h1a
        go_enter Try.func97, Try.ntmps97
        go_wp2_with (first | (go_at_call 127; refine HBG.out.mono ?_; rintro e w1 ⟨rfl, hb1⟩; have hc1 := below_newCell hb1; have B1 := Lib.hid hb1; clear hb1) | (go_at_call 60; refine (ring_size g size L lost _ (H.out.below (below_unalloc B1.out))).mono ?_; rintro e w' ⟨rfl, rfl⟩))
        go_ret3
        exact ⟨looks_nil (s := 2) rfl, below_unalloc B1.out⟩
    · rw [if_neg h1]
      have g1 : ¬ (520 : Int) < (n : Int) + 8 := by omega
      have g2 : ¬ (size : Int) < (n : Int) + 8 := by omega
      clear h1
      by_cases h2 : L.length < n + 6
      · rw [if_pos h2]
        have g3 : (L.length : Int) < (n : Int) + 8 - 2 := by omega
        go_enter Try.func97, Try.ntmps97
        go_wp2_with (first | (go_at_call 127; refine HBG.out.mono ?_; rintro e w1 ⟨rfl, hb1⟩; have hc1 := below_newCell hb1; have B1 := Lib.hid hb1; clear hb1) | (go_at_call 60; refine (ring_size g size L lost _ (H.out.below (below_unalloc B1.out))).mono ?_; rintro e w' ⟨rfl, rfl⟩) | (go_at_call 31; refine (ring_len g size L lost _ (H.out.below (below_unalloc B1.out))).mono ?_; rintro e w' ⟨rfl, rfl⟩))
        go_ret3
        exact ⟨looks_nil (s := 0) rfl, below_unalloc B1.out⟩
      · rw [if_neg h2]
        have hsome := fun W hR => some_any g size L lost 2 (n + 6) 2 ((n : Int) + 8 - 2) W rfl (by omega) hR (by omega) (by omega)
        obtain ⟨Bd, hBd⟩ : ∃ Bd, Bd = (L.take (n + 6)).drop 2 := ⟨_, rfl⟩
        have hbl : Bd.length = n + 4 := by rw [hBd, List.length_drop, List.length_take]; omega
        obtain ⟨m, hm⟩ : ∃ m, m = n + 4 := ⟨_, rfl⟩
        rw [← hm] at hbl
        have hm4 : (4 : Int) ≤ m := by omega
        have hm5 : m ≤ 70000 := by omega
        have HM4 := Lib.hid hm
        simp only [← hBd] at hsome ⊢
        obtain ⟨⟨p, q⟩, hpq⟩ : ∃ r, r = fletL Bd := ⟨_, rfl⟩
        rw [← hpq]
        simp only
        have HSM := Lib.hid hsome
        have HBD := Lib.hid hBd
        have HBL := Lib.hid hbl
        have HPQ := Lib.hid hpq
        clear hsome hBd hbl hpq hm
        go_enter Try.func97, Try.ntmps97
        go_wp2_with (first | (go_at_call 127; refine HBG.out.mono ?_; rintro e w1 ⟨rfl, hb1⟩; have hc1 := below_newCell hb1; have B1 := Lib.hid hb1; clear hb1) | (go_at_call 60; refine (ring_size g size L lost _ (H.out.below (below_unalloc B1.out))).mono ?_; rintro e w' ⟨rfl, rfl⟩) | (go_at_call 31; refine (ring_len g size L lost _ (H.out.below (below_unalloc B1.out))).mono ?_; rintro e w' ⟨rfl, rfl⟩) | (go_at_call 125; refine (HSM.out _ (H.out.below (below_unalloc B1.out))).mono ?_; rintro e w2 ⟨v, rfl, hbs, hb2, fr⟩; have FR := Lib.hid (Fresh.low fr (below_sz (below_unalloc B1.out))); clear fr; have hB2 := below_more B1.out hb2 (Nat.le_refl _); have hc2 := below_newCell hB2; have B2 := Lib.hid hB2; obtain ⟨A, c, rfl, hnc, hv⟩ := hbs.form HBL.out; have V := Lib.hid hv; clear hb2 hB2 hbs hv) | (go_at_call 72; refine (sums_fletcher _ Bd _ V.out (by rw [HBL.out]; omega)).mono ?_; rintro e w3 ⟨rfl, hb3⟩; rw [← HPQ.out]; have hB3 := below_more B2.out hb3 (Nat.le_refl _); have hc3 := below_newCell hB3; have B3 := Lib.hid hB3; have V3 := Lib.hid (V.out.below hb3); clear hb3 hB3))
        obtain ⟨gb, off, hAA, heq, hcl⟩ := V3.out.at_ (k := 0) (by rw [HBL.out]; omega)
        clear heq hcl
        subst hAA
        have hcut := V3.out.drop (k := 4) (by rw [HBL.out]; omega)
        have htake := V3.out.take (k := 2) (by omega) (by rw [HBL.out]; omega)
        have hw6 : IntKind.i64.wrap ((n : Int) + 8 - 2) = (n : Int) + 8 - 2 := IntWalk.i64_in _ (by omega)
        have e1 : (n : Int) + 8 - 2 = ((n + 6 : Nat) : Int) := by omega
        have e2 : n + 6 ≤ 1000000 := by omega
        have e3 : (2 : Int) ≤ c := by omega
        have hll : lenAll [Bd.take 2, Bd.drop 4] ≤ 140737488355328 := by unfold lenAll; simp only [List.map_cons, List.map_nil, List.sum_cons, List.sum_nil, List.length_take, List.length_drop, HBL.out]; omega
        have E1 := Lib.hid e1
        have E2 := Lib.hid e2
        have TAKE := Lib.hid htake
        have HLL := Lib.hid hll
        have HR3 := Lib.hid (H.out.below (below_unalloc B3.out))
        have hends := fun (i : Int) v W h1 h2 h3 => ends_any g size L [p, q] lost (n + 6) i v W h1 h2 h3 (by show 2 ≤ 4096; decide) E2.out
        obtain ⟨E, hE⟩ : ∃ E, E = endsM L (n + 6) [p, q] := ⟨_, rfl⟩
        simp only [← hE] at hends ⊢
        have HE := Lib.hid hE
        have HENDS := Lib.hid hends
        clear hE hends
        clear e1 e2 htake hll
        by_cases hc4 : c = 4
        · subst hc4
          have hcut' : Bs w3 (.slice (some ⟨gb, off, none⟩) 0 0) (Bd.drop 4) := by rw [if_pos rfl, show m - 4 = 0 by omega] at hcut; exact hcut
          have CUT := Lib.hid hcut'
          clear hcut hcut'
          go_region_held3 (fun w' => w'.cell? ⟨w.heap.size, 0, none⟩ = some (.pointer (some ⟨g, 0, none⟩))) (first | go_keep | exact hc4 | exact hc5)
           (first | (go_at_call 126; refine (HENDS.out _ _ _ E1.out (by repeat (any_goals (first | with_reducible exact HR3.out | with_reducible exact HR3.out.bs | with_reducible refine Bs.drew ?_ | with_reducible refine Bss.drew ?_ | with_reducible refine IsRing.drew ?_ | with_reducible refine Bs.drewN ?_ _ | with_reducible refine Bss.drewN ?_ _ | with_reducible refine IsRing.drewN ?_ _ | (with_reducible refine own2_bsi ?_ ?_ ?_; focus (simp; done)) | (with_reducible refine own1_bsi ?_ ?_; focus (simp; done)) | (with_reducible refine own4_bsi ?_ ?_ ?_ ?_ ?_; focus (simp; done)) | with_reducible rfl | with_reducible assumption | (with_reducible refine Bss.made2g 30 ?_ ?_ ?_; focus (simp; done)) | (with_reducible refine Bss.made3g 30 ?_ ?_ ?_ ?_; focus (simp; done)) | with_reducible refine Bs.alloc ?_ _ | with_reducible refine Bss.alloc ?_ _ | with_reducible refine IsRing.alloc ?_ _ | rfl))) (by repeat (any_goals (first | with_reducible exact V3.out | with_reducible exact V3.out.bs | with_reducible refine Bs.drew ?_ | with_reducible refine Bss.drew ?_ | with_reducible refine IsRing.drew ?_ | with_reducible refine Bs.drewN ?_ _ | with_reducible refine Bss.drewN ?_ _ | with_reducible refine IsRing.drewN ?_ _ | (with_reducible refine own2_bsi ?_ ?_ ?_; focus (simp; done)) | (with_reducible refine own1_bsi ?_ ?_; focus (simp; done)) | (with_reducible refine own4_bsi ?_ ?_ ?_ ?_ ?_; focus (simp; done)) | with_reducible rfl | with_reducible assumption | (with_reducible refine Bss.made2g 30 ?_ ?_ ?_; focus (simp; done)) | (with_reducible refine Bss.made3g 30 ?_ ?_ ?_ ?_; focus (simp; done)) | with_reducible refine Bs.alloc ?_ _ | with_reducible refine Bss.alloc ?_ _ | with_reducible refine IsRing.alloc ?_ _ | rfl)))).mono ?_; rintro e w4 ⟨rfl, hb4⟩; have hc4 := below_keep hb4 (p := ⟨w.heap.size, 0, none⟩) (v := .pointer (some ⟨g, 0, none⟩)) (by assumption); have B4 := Lib.hid hb4; clear hb4) | (go_at_call 70; refine (concat_any _ [Bd.take 2, Bd.drop 4] _ (by repeat (any_goals (first | with_reducible exact TAKE.out | with_reducible exact CUT.out | with_reducible exact TAKE.out.bs | with_reducible exact CUT.out.bs | with_reducible refine Bs.drew ?_ | with_reducible refine Bss.drew ?_ | with_reducible refine IsRing.drew ?_ | with_reducible refine Bs.drewN ?_ _ | with_reducible refine Bss.drewN ?_ _ | with_reducible refine IsRing.drewN ?_ _ | (with_reducible refine own2_bsi ?_ ?_ ?_; focus (simp; done)) | (with_reducible refine own1_bsi ?_ ?_; focus (simp; done)) | (with_reducible refine own4_bsi ?_ ?_ ?_ ?_ ?_; focus (simp; done)) | with_reducible rfl | with_reducible assumption | (with_reducible refine Bss.made2g 30 ?_ ?_ ?_; focus (simp; done)) | (with_reducible refine Bss.made3g 30 ?_ ?_ ?_ ?_; focus (simp; done)) | with_reducible refine Bs.alloc ?_ _ | with_reducible refine Bss.alloc ?_ _ | with_reducible refine IsRing.alloc ?_ _ | with_reducible refine Bs.below ?_ B4.out | with_reducible refine Bss.below ?_ B4.out | with_reducible refine IsRing.below ?_ B4.out | rfl))) HLL.out (by show 2 ≤ _; decide)).mono ?_; rintro e w5 ⟨vr, rfl, ho5, hb5⟩; have F5 := Lib.hid (OwnB.fresh (B := w.heap.size) ho5 (below_sz (by repeat (first | with_reducible exact below_unalloc B3.out | with_reducible exact Below.refl _ _ | with_reducible refine below_drew1 ?_ | with_reducible refine below_drewN1 ?_ _ | with_reducible refine below_alloc1 ?_ _ | with_reducible refine below_setb (by first | exact Nat.le_refl _ | omega) ?_ | with_reducible refine below_step ?_ B4.out)))); have hc5 := below_keep hb5 (p := ⟨w.heap.size, 0, none⟩) (v := .pointer (some ⟨g, 0, none⟩)) (by assumption); have B5 := Lib.hid hb5; have O5 := Lib.hid ho5; clear hb5 ho5))
          all_goals go_wp2_with fail
          all_goals go_ret3
          all_goals exact ⟨looks_mk (n := n + 8) (b := Bd.take 2 ++ Bd.drop 4) (by rw [HE.out]) (by omega) (by simp) O5.out.bs F5.out, (by repeat (first | with_reducible exact below_unalloc B3.out | with_reducible exact Below.refl _ _ | with_reducible refine below_drew1 ?_ | with_reducible refine below_drewN1 ?_ _ | with_reducible refine below_alloc1 ?_ _ | with_reducible refine below_setb (by first | exact Nat.le_refl _ | omega) ?_ | with_reducible refine below_step ?_ B4.out | with_reducible refine below_step ?_ B5.out))⟩
        · have hcut' : Bs w3 (.slice (some ⟨gb, off + 4, none⟩) (m - 4) (c - 4)) (Bd.drop 4) := by rw [if_neg hc4] at hcut; exact hcut
          have CUT := Lib.hid hcut'
          clear hcut hcut'
          go_region_held3 (fun w' => w'.cell? ⟨w.heap.size, 0, none⟩ = some (.pointer (some ⟨g, 0, none⟩))) (first | go_keep | exact hc4 | exact hc5)
           (first | (go_at_call 126; refine (HENDS.out _ _ _ E1.out (by repeat (any_goals (first | with_reducible exact HR3.out | with_reducible exact HR3.out.bs | with_reducible refine Bs.drew ?_ | with_reducible refine Bss.drew ?_ | with_reducible refine IsRing.drew ?_ | with_reducible refine Bs.drewN ?_ _ | with_reducible refine Bss.drewN ?_ _ | with_reducible refine IsRing.drewN ?_ _ | (with_reducible refine own2_bsi ?_ ?_ ?_; focus (simp; done)) | (with_reducible refine own1_bsi ?_ ?_; focus (simp; done)) | (with_reducible refine own4_bsi ?_ ?_ ?_ ?_ ?_; focus (simp; done)) | with_reducible rfl | with_reducible assumption | (with_reducible refine Bss.made2g 30 ?_ ?_ ?_; focus (simp; done)) | (with_reducible refine Bss.made3g 30 ?_ ?_ ?_ ?_; focus (simp; done)) | with_reducible refine Bs.alloc ?_ _ | with_reducible refine Bss.alloc ?_ _ | with_reducible refine IsRing.alloc ?_ _ | rfl))) (by repeat (any_goals (first | with_reducible exact V3.out | with_reducible exact V3.out.bs | with_reducible refine Bs.drew ?_ | with_reducible refine Bss.drew ?_ | with_reducible refine IsRing.drew ?_ | with_reducible refine Bs.drewN ?_ _ | with_reducible refine Bss.drewN ?_ _ | with_reducible refine IsRing.drewN ?_ _ | (with_reducible refine own2_bsi ?_ ?_ ?_; focus (simp; done)) | (with_reducible refine own1_bsi ?_ ?_; focus (simp; done)) | (with_reducible refine own4_bsi ?_ ?_ ?_ ?_ ?_; focus (simp; done)) | with_reducible rfl | with_reducible assumption | (with_reducible refine Bss.made2g 30 ?_ ?_ ?_; focus (simp; done)) | (with_reducible refine Bss.made3g 30 ?_ ?_ ?_ ?_; focus (simp; done)) | with_reducible refine Bs.alloc ?_ _ | with_reducible refine Bss.alloc ?_ _ | with_reducible refine IsRing.alloc ?_ _ | rfl)))).mono ?_; rintro e w4 ⟨rfl, hb4⟩; have hc4 := below_keep hb4 (p := ⟨w.heap.size, 0, none⟩) (v := .pointer (some ⟨g, 0, none⟩)) (by assumption); have B4 := Lib.hid hb4; clear hb4) | (go_at_call 70; refine (concat_any _ [Bd.take 2, Bd.drop 4] _ (by repeat (any_goals (first | with_reducible exact TAKE.out | with_reducible exact CUT.out | with_reducible exact TAKE.out.bs | with_reducible exact CUT.out.bs | with_reducible refine Bs.drew ?_ | with_reducible refine Bss.drew ?_ | with_reducible refine IsRing.drew ?_ | with_reducible refine Bs.drewN ?_ _ | with_reducible refine Bss.drewN ?_ _ | with_reducible refine IsRing.drewN ?_ _ | (with_reducible refine own2_bsi ?_ ?_ ?_; focus (simp; done)) | (with_reducible refine own1_bsi ?_ ?_; focus (simp; done)) | (with_reducible refine own4_bsi ?_ ?_ ?_ ?_ ?_; focus (simp; done)) | with_reducible rfl | with_reducible assumption | (with_reducible refine Bss.made2g 30 ?_ ?_ ?_; focus (simp; done)) | (with_reducible refine Bss.made3g 30 ?_ ?_ ?_ ?_; focus (simp; done)) | with_reducible refine Bs.alloc ?_ _ | with_reducible refine Bss.alloc ?_ _ | with_reducible refine IsRing.alloc ?_ _ | with_reducible refine Bs.below ?_ B4.out | with_reducible refine Bss.below ?_ B4.out | with_reducible refine IsRing.below ?_ B4.out | rfl))) HLL.out (by show 2 ≤ _; decide)).mono ?_; rintro e w5 ⟨vr, rfl, ho5, hb5⟩; have F5 := Lib.hid (OwnB.fresh (B := w.heap.size) ho5 (below_sz (by repeat (first | with_reducible exact below_unalloc B3.out | with_reducible exact Below.refl _ _ | with_reducible refine below_drew1 ?_ | with_reducible refine below_drewN1 ?_ _ | with_reducible refine below_alloc1 ?_ _ | with_reducible refine below_setb (by first | exact Nat.le_refl _ | omega) ?_ | with_reducible refine below_step ?_ B4.out)))); have hc5 := below_keep hb5 (p := ⟨w.heap.size, 0, none⟩) (v := .pointer (some ⟨g, 0, none⟩)) (by assumption); have B5 := Lib.hid hb5; have O5 := Lib.hid ho5; clear hb5 ho5))
          all_goals go_wp2_with fail
          all_goals go_ret3
          all_goals exact ⟨looks_mk (n := n + 8) (b := Bd.take 2 ++ Bd.drop 4) (by rw [HE.out]) (by omega) (by simp) O5.out.bs F5.out, (by repeat (first | with_reducible exact below_unalloc B3.out | with_reducible exact Below.refl _ _ | with_reducible refine below_drew1 ?_ | with_reducible refine below_drewN1 ?_ _ | with_reducible refine below_alloc1 ?_ _ | with_reducible refine below_setb (by first | exact Nat.le_refl _ | omega) ?_ | with_reducible refine below_step ?_ B4.out | with_reducible refine below_step ?_ B5.out))⟩
  · rw [if_neg hs]
    have g3 : ((s : Int) != 1) = true := by simp; omega
    clear hs
    go_enter Try.func97, Try.ntmps97
    go_wp2_with (go_at_call 127; refine HBG.out.mono ?_; rintro e w1 ⟨rfl, hb1⟩; have hc1 := below_newCell hb1; have B1 := Lib.hid hb1; clear hb1)
    go_ret3
    exact ⟨looks_nil (s := s) rfl, below_unalloc B1.out⟩
theorem u16_hi (x : Nat) (h : x < 32768) : (x : Int) / 256 = ((x / 256).toUInt8.toNat : Int) := by
  rw [Nat.toUInt8_eq, UInt8.toNat_ofNat']; omega
theorem u16_lo (x : Nat) : (x : Int) % 256 = (x.toUInt8.toNat : Int) := by
  simp

set_option maxRecDepth 100000 in
set_option maxHeartbeats 1600000 in
theorem sirf_any (g size : Nat) (L : List UInt8) (lost : Int) (w : World) (h : IsRing w g size L lost) :
    Calls Try.prog 98 #[.agg #[.pointer (some ⟨g, 0, none⟩)]] w fun e w' => Looks w.heap.size w' e (sirfM size L) ∧ Below w.heap.size w w' := by
  have hlen := h.len
  have hlt := beginsM_lt L 162 2 true
  have hbeg := begins_true g size L lost 162 2 2 _ rfl (h.alloc (.cells #[.pointer (some ⟨g, 0, none⟩)] 181)) (by omega) (by omega)
  unfold sirfM
  obtain ⟨⟨n, s⟩, hns⟩ : ∃ r, r = beginsM L 162 2 true := ⟨_, rfl⟩
  rw [← hns] at hlt hbeg ⊢
  simp only at hlt hbeg ⊢
  have H := Lib.hid h
  have HBG := Lib.hid hbeg
  have HNS := Lib.hid hns
  clear h hbeg hns
  by_cases hs : s = 1
  · subst hs
    rw [if_pos rfl]
    by_cases h1 : 1031 < n + 8 ∨ size < n + 8
    · rw [if_pos h1]
      by_cases h1a : 1031 < n + 8
      · have g1 : (1031 : Int) < (n : Int) + 8 := by omega
        clear h1 h1a
        go_enter Try.func98, Try.ntmps98
        go_wp2_with (first | (go_at_call 127; refine HBG.out.mono ?_; rintro e w1 ⟨rfl, hb1⟩; have hc1 := below_newCell hb1; have B1 := Lib.hid hb1; clear hb1))
        go_ret3
        exact ⟨looks_nil (s := 2) rfl, below_unalloc B1.out⟩
      · have g1 : ¬ (1031 : Int) < (n : Int) + 8 := by omega
        have g2 : (size : Int) < (n : Int) + 8 := by omega
        clear h1 h1a
        go_enter Try.func98, Try.ntmps98
        go_wp2_with (first | (go_at_call 127; refine HBG.out.mono ?_; rintro e w1 ⟨rfl, hb1⟩; have hc1 := below_newCell hb1; have B1 := Lib.hid hb1; clear hb1) | (go_at_call 60; refine (ring_size g size L lost _ (H.out.below (below_unalloc B1.out))).mono ?_; rintro e w' ⟨rfl, rfl⟩))
        go_ret3
        exact ⟨looks_nil (s := 2) rfl, below_unalloc B1.out⟩
    · rw [if_neg h1]
      have g1 : ¬ (1031 : Int) < (n : Int) + 8 := by omega
      have g2 : ¬ (size : Int) < (n : Int) + 8 := by omega
      clear h1
      by_cases h2 : L.length < n + 4
      · rw [if_pos h2]
        have g3 : (L.length : Int) < (n : Int) + 8 - 4 := by omega
        go_enter Try.func98, Try.ntmps98
        go_wp2_with (first | (go_at_call 127; refine HBG.out.mono ?_; rintro e w1 ⟨rfl, hb1⟩; have hc1 := below_newCell hb1; have B1 := Lib.hid hb1; clear hb1) | (go_at_call 60; refine (ring_size g size L lost _ (H.out.below (below_unalloc B1.out))).mono ?_; rintro e w' ⟨rfl, rfl⟩) | (go_at_call 31; refine (ring_len g size L lost _ (H.out.below (below_unalloc B1.out))).mono ?_; rintro e w' ⟨rfl, rfl⟩))
        go_ret3
        exact ⟨looks_nil (s := 0) rfl, below_unalloc B1.out⟩
      · rw [if_neg h2]
        have hsome := fun W hR => some_any g size L lost 4 (n + 4) 4 ((n : Int) + 8 - 4) W rfl (by omega) hR (by omega) (by omega)
        obtain ⟨Bd, hBd⟩ : ∃ Bd, Bd = (L.take (n + 4)).drop 4 := ⟨_, rfl⟩
        have hbl : Bd.length = n := by rw [hBd, List.length_drop, List.length_take]; omega
        simp only [← hBd] at hsome ⊢
        have hxl := fiftL_lt Bd
        obtain ⟨x, hx⟩ : ∃ x, x = fiftL Bd := ⟨_, rfl⟩
        rw [← hx] at hxl ⊢
        have ehi := u16_hi x hxl
        have elo := u16_lo x
        obtain ⟨hi, hhi⟩ : ∃ hi, hi = (x / 256).toUInt8 := ⟨_, rfl⟩
        obtain ⟨lo, hlo⟩ : ∃ lo, lo = x.toUInt8 := ⟨_, rfl⟩
        rw [← hhi] at ehi ⊢
        rw [← hlo] at elo ⊢
        have hends := fun (i : Int) v W h1 h2 h3 => ends_any g size L [hi, lo, 176, 179] lost (n + 4) i v W h1 h2 h3 (by show 4 ≤ 4096; decide) (by omega)
        obtain ⟨E, hE⟩ : ∃ E, E = endsM L (n + 4) [hi, lo, 176, 179] := ⟨_, rfl⟩
        simp only [← hE] at hends ⊢
        have HENDS := Lib.hid hends
        have HSM := Lib.hid hsome
        have HBD := Lib.hid hBd
        have HBL := Lib.hid hbl
        have HX := Lib.hid hx
        have HE := Lib.hid hE
        have HHI := Lib.hid hhi
        have HLO := Lib.hid hlo
        clear hsome hBd hbl hx hends hE hhi hlo
        go_enter Try.func98, Try.ntmps98
        go_wp2_with (first | (go_at_call 127; refine HBG.out.mono ?_; rintro e w1 ⟨rfl, hb1⟩; have hc1 := below_newCell hb1; have B1 := Lib.hid hb1; clear hb1) | (go_at_call 60; refine (ring_size g size L lost _ (H.out.below (below_unalloc B1.out))).mono ?_; rintro e w' ⟨rfl, rfl⟩) | (go_at_call 31; refine (ring_len g size L lost _ (H.out.below (below_unalloc B1.out))).mono ?_; rintro e w' ⟨rfl, rfl⟩) | (go_at_call 125; refine (HSM.out _ (H.out.below (below_unalloc B1.out))).mono ?_; rintro e w2 ⟨v, rfl, hbs, hb2, fr⟩; have FR := Lib.hid (Fresh.low fr (below_sz (below_unalloc B1.out))); clear fr; have hB2 := below_more B1.out hb2 (Nat.le_refl _); have hc2 := below_newCell hB2; have B2 := Lib.hid hB2; obtain ⟨A, c, rfl, hnc, hv⟩ := hbs.form HBL.out; have V := Lib.hid hv; clear hb2 hB2 hbs hv) | (go_at_call 73; refine (sums_fifteen _ Bd _ V.out (by rw [HBL.out]; omega)).mono ?_; rintro e w3 ⟨rfl, hb3⟩; rw [← HX.out]; have hB3 := below_more B2.out hb3 (Nat.le_refl _); have hc3 := below_newCell hB3; have B3 := Lib.hid hB3; have V3 := Lib.hid (V.out.below hb3); clear hb3 hB3) | (go_at_call 126; refine (HENDS.out _ _ _ (by omega) (by repeat (any_goals (first | with_reducible exact H.out | with_reducible exact H.out.bs | with_reducible refine Bs.drew ?_ | with_reducible refine Bss.drew ?_ | with_reducible refine IsRing.drew ?_ | with_reducible refine Bs.drewN ?_ _ | with_reducible refine Bss.drewN ?_ _ | with_reducible refine IsRing.drewN ?_ _ | (with_reducible refine own2_bsi ?_ ?_ ?_; focus (simp; done)) | (with_reducible refine own1_bsi ?_ ?_; focus (simp; done)) | (with_reducible refine own4_bsi ?_ ?_ ?_ ?_ ?_; focus (simp; done)) | with_reducible rfl | with_reducible assumption | (with_reducible refine Bss.made2g 30 ?_ ?_ ?_; focus (simp; done)) | (with_reducible refine Bss.made3g 30 ?_ ?_ ?_ ?_; focus (simp; done)) | with_reducible refine Bs.alloc ?_ _ | with_reducible refine Bss.alloc ?_ _ | with_reducible refine IsRing.alloc ?_ _ | with_reducible refine Bs.below ?_ (below_unalloc B3.out) | with_reducible refine Bss.below ?_ (below_unalloc B3.out) | with_reducible refine IsRing.below ?_ (below_unalloc B3.out) | rfl))) (by repeat (any_goals (first | with_reducible exact V3.out | with_reducible exact V3.out.bs | with_reducible refine Bs.drew ?_ | with_reducible refine Bss.drew ?_ | with_reducible refine IsRing.drew ?_ | with_reducible refine Bs.drewN ?_ _ | with_reducible refine Bss.drewN ?_ _ | with_reducible refine IsRing.drewN ?_ _ | (with_reducible refine own2_bsi ?_ ?_ ?_; focus (simp; done)) | (with_reducible refine own1_bsi ?_ ?_; focus (simp; done)) | (with_reducible refine own4_bsi ?_ ?_ ?_ ?_ ?_; focus (simp; done)) | with_reducible rfl | with_reducible assumption | (with_reducible refine Bss.made2g 30 ?_ ?_ ?_; focus (simp; done)) | (with_reducible refine Bss.made3g 30 ?_ ?_ ?_ ?_; focus (simp; done)) | with_reducible refine Bs.alloc ?_ _ | with_reducible refine Bss.alloc ?_ _ | with_reducible refine IsRing.alloc ?_ _ | rfl)))).mono ?_; rintro e w4 ⟨rfl, hb4⟩; have B4 := Lib.hid hb4; clear hb4))
        go_ret3
        exact ⟨looks_mk (n := n + 8) (b := Bd) (v := .slice A n c) (by rw [HE.out]) (by omega) rfl (by repeat (any_goals (first | with_reducible exact V3.out | with_reducible exact V3.out.bs | with_reducible refine Bs.drew ?_ | with_reducible refine Bss.drew ?_ | with_reducible refine IsRing.drew ?_ | with_reducible refine Bs.drewN ?_ _ | with_reducible refine Bss.drewN ?_ _ | with_reducible refine IsRing.drewN ?_ _ | (with_reducible refine own2_bsi ?_ ?_ ?_; focus (simp; done)) | (with_reducible refine own1_bsi ?_ ?_; focus (simp; done)) | (with_reducible refine own4_bsi ?_ ?_ ?_ ?_ ?_; focus (simp; done)) | with_reducible rfl | with_reducible assumption | (with_reducible refine Bss.made2g 30 ?_ ?_ ?_; focus (simp; done)) | (with_reducible refine Bss.made3g 30 ?_ ?_ ?_ ?_; focus (simp; done)) | with_reducible refine Bs.alloc ?_ _ | with_reducible refine Bss.alloc ?_ _ | with_reducible refine IsRing.alloc ?_ _ | with_reducible refine Bs.below ?_ B4.out | with_reducible refine Bss.below ?_ B4.out | with_reducible refine IsRing.below ?_ B4.out | rfl))) FR.out, (by repeat (first | with_reducible exact below_unalloc B3.out | with_reducible exact Below.refl _ _ | with_reducible refine below_drew1 ?_ | with_reducible refine below_drewN1 ?_ _ | with_reducible refine below_alloc1 ?_ _ | with_reducible refine below_setb (by first | exact Nat.le_refl _ | omega) ?_ | with_reducible refine below_step ?_ B4.out))⟩
  · rw [if_neg hs]
    have g3 : ((s : Int) != 1) = true := by simp; omega
    clear hs
    go_enter Try.func98, Try.ntmps98
    go_wp2_with (go_at_call 127; refine HBG.out.mono ?_; rintro e w1 ⟨rfl, hb1⟩; have hc1 := below_newCell hb1; have B1 := Lib.hid hb1; clear hb1)
    go_ret3
    exact ⟨looks_nil (s := s) rfl, below_unalloc B1.out⟩
end Go.Proofs.Ytfgglffjigolhaa
