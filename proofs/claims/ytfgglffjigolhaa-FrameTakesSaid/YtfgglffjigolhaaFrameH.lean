/- Frames: Bytes. -/
import Derived.Test.YtfgglffjigolhaaPureF
import Derived.Test.YtfgglffjigolhaaSlicesB
namespace Go.Proofs.Ytfgglffjigolhaa
open Go.RowKit

theorem not_body (x : UInt8) (w : World) : Calls Try.prog 68 #[bv x] w fun e w' => e = .returned (.bool (!isBodyB x)) ∧ w = w' := by
  go_enter Try.func68, Try.ntmps68
  go_wp2_with (go_at_call 69; refine (isBody_any x _).mono ?_; rintro e w' ⟨rfl, rfl⟩)
  go_ret
  exact ⟨rfl, rfl⟩
theorem any_not {b : List UInt8} : (b.any fun x => !isBodyB x) = !(b.all isBodyB) := by
  induction b with
  | nil => rfl
  | cons x xs ih => simp [List.any_cons, List.all_cons, ih, Bool.not_and]

set_option maxRecDepth 100000 in
set_option maxHeartbeats 1600000 in
theorem frame_bytes (k : UInt8) (v : Value) (b : List UInt8) (w : World) (hB : Bs w v b) (hl : b.length ≤ 2000) :
    Calls Try.prog 32 #[.agg #[bv k, v]] w fun e w' => Bytesed w.heap.size w' e (bytesM k.toNat b) ∧ Below w.heap.size w w' := by
  obtain ⟨n, hn⟩ : ∃ n, n = b.length := ⟨_, rfl⟩
  obtain ⟨A, c, rfl, hle, hb⟩ := hB.form hn.symm
  have HB := Lib.hid (hb.alloc (.cells #[bv k, .slice A n c] 39))
  have HN := Lib.hid hn
  have HB0 := Lib.hid hb
  rw [← hn] at hl
  clear hB hb hn
  by_cases k1 : k = 1
  · subst k1
    have hm : bytesM (1 : UInt8).toNat b = (if 76 < b.length then ([], 3) else if b.all isBodyB = false then ([], 5) else (36 :: (b ++ tailM b), 0)) := rfl
    rw [hm, ← HN.out]
    clear hm
    by_cases h76 : 76 < n
    · rw [if_pos h76]
      have g76 : (82 : Int) < (n : Int) + 6 := by omega
      go_enter Try.func32, Try.ntmps32
      go_wp2_with fail
      go_ret2
      exact ⟨⟨_, rfl, Bs.nil _, Fresh.nil _ _ _⟩, (Below.refl _ _).alloc (Nat.le_refl _) _⟩
    · rw [if_neg h76]
      have g76 : ¬ (82 : Int) < (n : Int) + 6 := by omega
      have hco := contains_bytes1 (.slice A n c) b (fun x => !isBodyB x) _ HB.out (by rw [← HN.out]; omega) not_body
      rw [any_not] at hco
      by_cases hall : b.all isBodyB = false
      · rw [if_pos hall]
        rw [hall] at hco
        have HCO := Lib.hid hco
        clear hco hall
        go_enter Try.func32, Try.ntmps32
        go_wp2_with (go_at_call 67; go_must (refine HCO.out.mono ?_; rintro e w' ⟨rfl, rfl⟩))
        go_ret2
        exact ⟨⟨_, rfl, Bs.nil _, Fresh.nil _ _ _⟩, (Below.refl _ _).alloc (Nat.le_refl _) _⟩
      · rw [if_neg hall]
        have hall' : b.all isBodyB = true := by simpa using hall
        rw [hall'] at hco
        have HCO := Lib.hid hco
        have HLL := Lib.hid (show lenAll [[36], b, tailM b] ≤ 140737488355328 by simp only [lenAll, List.map_cons, List.map_nil, List.sum_cons, List.sum_nil, tailM, List.length_cons, List.length_nil]; rw [← HN.out]; omega)
        have HT := Lib.hid (show b.length ≤ 140737488355328 by rw [← HN.out]; omega)
        clear hco hall hall'
        go_enter Try.func32, Try.ntmps32
        go_wp2_with (go_at_call 67; go_must (refine HCO.out.mono ?_; rintro e w' ⟨rfl, rfl⟩))
        go_region_held3 (fun w' => w'.cell? ⟨w.heap.size, 1, none⟩ = some (.slice A n c)) (first | go_keep | exact hc1 | exact hc2)
          (first | (go_at_call 71; refine (tail_any _ b _ (by repeat (any_goals (first | with_reducible exact HB.out | with_reducible exact HB.out.bs | with_reducible refine Bs.drew ?_ | with_reducible refine Bss.drew ?_ | with_reducible refine IsRing.drew ?_ | with_reducible refine Bs.drewN ?_ _ | with_reducible refine Bss.drewN ?_ _ | with_reducible refine IsRing.drewN ?_ _ | (with_reducible refine own2_bsi ?_ ?_ ?_; focus (simp; done)) | (with_reducible refine own1_bsi ?_ ?_; focus (simp; done)) | (with_reducible refine own4_bsi ?_ ?_ ?_ ?_ ?_; focus (simp; done)) | with_reducible rfl | with_reducible assumption | (with_reducible refine Bss.made2g 30 ?_ ?_ ?_; focus (simp; done)) | (with_reducible refine Bss.made3g 30 ?_ ?_ ?_ ?_; focus (simp; done)) | with_reducible refine Bs.alloc ?_ _ | with_reducible refine Bss.alloc ?_ _ | with_reducible refine IsRing.alloc ?_ _ | rfl))) HT.out).mono ?_; rintro e w1 ⟨v1, rfl, ho1, hb1⟩; obtain ⟨A1, c1, rfl, hz1, _⟩ := ho1.bs.form (n := 5) rfl; clear hz1; have hc1 := below_keep hb1 (p := ⟨w.heap.size, 1, none⟩) (v := .slice A n c) (by assumption); have B1 := Lib.hid hb1; have O1 := Lib.hid ho1; clear ho1 hb1) | (go_at_call 70; refine (concat_any _ [[36], b, tailM b] _ (by repeat (any_goals (first | with_reducible exact HB.out | with_reducible exact O1.out | with_reducible exact HB.out.bs | with_reducible exact O1.out.bs | with_reducible refine Bs.drew ?_ | with_reducible refine Bss.drew ?_ | with_reducible refine IsRing.drew ?_ | with_reducible refine Bs.drewN ?_ _ | with_reducible refine Bss.drewN ?_ _ | with_reducible refine IsRing.drewN ?_ _ | (with_reducible refine own2_bsi ?_ ?_ ?_; focus (simp; done)) | (with_reducible refine own1_bsi ?_ ?_; focus (simp; done)) | (with_reducible refine own4_bsi ?_ ?_ ?_ ?_ ?_; focus (simp; done)) | with_reducible rfl | with_reducible assumption | (with_reducible refine Bss.made2g 30 ?_ ?_ ?_; focus (simp; done)) | (with_reducible refine Bss.made3g 30 ?_ ?_ ?_ ?_; focus (simp; done)) | with_reducible refine Bs.alloc ?_ _ | with_reducible refine Bss.alloc ?_ _ | with_reducible refine IsRing.alloc ?_ _ | with_reducible refine Bs.below ?_ B1.out | with_reducible refine Bss.below ?_ B1.out | with_reducible refine IsRing.below ?_ B1.out | rfl))) HLL.out (by show 3 ≤ _; decide)).mono ?_; rintro e w2 ⟨v2, rfl, ho2, hb2⟩; have F2 := Lib.hid (OwnB.fresh (B := w.heap.size) ho2 (below_sz (by repeat (first | with_reducible exact Below.refl _ _ | with_reducible exact Below.refl _ _ | with_reducible refine below_drew1 ?_ | with_reducible refine below_drewN1 ?_ _ | with_reducible refine below_alloc1 ?_ _ | with_reducible refine below_setb (by first | exact Nat.le_refl _ | omega) ?_ | with_reducible refine below_step ?_ B1.out)))); have hc2 := below_keep hb2 (p := ⟨w.heap.size, 1, none⟩) (v := .slice A n c) (by assumption); have B2 := Lib.hid hb2; have O2 := Lib.hid ho2; clear ho2 hb2))
        all_goals go_wp2_with fail
        all_goals go_ret2
        all_goals exact ⟨⟨_, rfl, by simpa using O2.out.bs, F2.out⟩, (by repeat (first | with_reducible exact Below.refl _ _ | with_reducible exact Below.refl _ _ | with_reducible refine below_drew1 ?_ | with_reducible refine below_drewN1 ?_ _ | with_reducible refine below_alloc1 ?_ _ | with_reducible refine below_setb (by first | exact Nat.le_refl _ | omega) ?_ | with_reducible refine below_step ?_ B1.out | with_reducible refine below_step ?_ B2.out))⟩
  · have q1 : ((k.toNat : Int) == 1) = false := neq_u8 k1 rfl
    have n1 : ¬ k.toNat = 1 := fun e => k1 (UInt8.toNat_inj.mp e)
    unfold bytesM
    rw [if_neg n1, ← HN.out]
    clear k1 n1
    by_cases k2 : k = 2
    · subst k2
      clear q1
      rw [if_pos (show UInt8.toNat 2 = 2 from rfl)]
      by_cases h2 : n < 2
      · rw [if_pos h2]
        have g2 : (n : Int) < 2 := by omega
        go_enter Try.func32, Try.ntmps32
        go_wp2_with fail
        go_ret2
        exact ⟨⟨_, rfl, Bs.nil _, Fresh.nil _ _ _⟩, (Below.refl _ _).alloc (Nat.le_refl _) _⟩
      · rw [if_neg h2]
        have g2 : ¬ (n : Int) < 2 := by omega
        by_cases h5 : 514 < n
        · rw [if_pos h5]
          have g5 : (512 : Int) < (n : Int) - 2 := by omega
          go_enter Try.func32, Try.ntmps32
          go_wp2_with fail
          go_ret2
          exact ⟨⟨_, rfl, Bs.nil _, Fresh.nil _ _ _⟩, (Below.refl _ _).alloc (Nat.le_refl _) _⟩
        · rw [if_neg h5]
          have g5 : ¬ (512 : Int) < (n : Int) - 2 := by omega
          obtain ⟨lo, hlo⟩ : ∃ lo, lo = (n - 2).toUInt8 := ⟨_, rfl⟩
          obtain ⟨hi, hhi⟩ : ∃ hi, hi = ((n - 2) / 256).toUInt8 := ⟨_, rfl⟩
          rw [← hlo, ← hhi]
          have e1 : ((n : Int) - 2) % 256 = (lo.toNat : Int) := by rw [hlo, Nat.toUInt8_eq, UInt8.toNat_ofNat']; omega
          have e2 : ((n : Int) - 2) / 256 = (hi.toNat : Int) := by rw [hhi, Nat.toUInt8_eq, UInt8.toNat_ofNat']; omega
          have i0 : (0 : Int) ≤ (n : Int) - 2 := by omega
          have i2 : (2 : Int) ≤ (n : Int) := by omega
          have i3 : (2 : Int) ≤ (c : Int) := by omega
          obtain ⟨A', hA, hcut, -⟩ := HB0.out.cut (k := 2) (by rw [← HN.out]; omega)
          obtain ⟨gb, off, rfl, hz, -⟩ := HB0.out.at_ (k := 0) (by rw [← HN.out]; omega)
          clear hz
          have hA : (if c = 2 then some (⟨gb, off, none⟩ : Addr) else some ⟨gb, off + 2, none⟩) = A' := hA
          have w1 : IntKind.i64.wrap ((n : Int) - 2) = (n : Int) - 2 := IntWalk.i64_in _ (by omega)
          have w2 : IntKind.u8.wrap ((n : Int) - 2) = (lo.toNat : Int) := by rw [IntKind.wrap_u8]; exact e1
          have w3 : IntKind.u8.wrap (hi.toNat : Int) = (hi.toNat : Int) := by rw [IntKind.wrap_u8]; have := UInt8.toNat_lt hi; omega
          have htk := HB0.out.take (k := 2) (by omega) (by rw [← HN.out]; omega)
          have HCUT := Lib.hid (hcut.alloc (.cells #[bv 2, .slice (some ⟨gb, off, none⟩) n c] 39))
          have HTK := Lib.hid (htk.alloc (.cells #[bv 2, .slice (some ⟨gb, off, none⟩) n c] 39))
          have HLL := Lib.hid (show lenAll [b.take 2, [lo, hi], b.drop 2] ≤ 140737488355328 by simp only [lenAll, List.map_cons, List.map_nil, List.sum_cons, List.sum_nil, List.length_cons, List.length_nil, List.length_take, List.length_drop]; rw [← HN.out]; omega)
          obtain ⟨hd, hhd⟩ : ∃ hd, hd = b.take 2 ++ (lo :: hi :: b.drop 2) := ⟨_, rfl⟩
          rw [← hhd]
          have hfl : [b.take 2, [lo, hi], b.drop 2].flatten = hd := by rw [hhd]; simp
          have hdl : hd.length ≤ 2000 := by rw [hhd]; simp only [List.length_append, List.length_cons, List.length_take, List.length_drop]; rw [← HN.out]; omega
          obtain ⟨⟨p, q⟩, hpq⟩ : ∃ r, r = fletL hd := ⟨_, rfl⟩
          rw [← hpq]
          have HPQ := Lib.hid hpq
          clear hpq
          have HFL := Lib.hid hfl
          have HDL := Lib.hid hdl
          obtain ⟨m, hm⟩ : ∃ m, hd.length = m := ⟨_, rfl⟩
          have HM := Lib.hid hm
          clear hm
          have HP := Lib.hid (And.intro hlo (And.intro hhi hhd))
          clear hlo hhi hcut htk hfl hdl hhd h2 h5
          go_enter Try.func32, Try.ntmps32
          go_wp2_with fail
          go_region_held3 (fun w' => w'.cell? ⟨w.heap.size, 1, none⟩ = some (.slice (some ⟨gb, off, none⟩) n c)) (first | go_keep | exact hc2)
            ((go_at_call 70; refine (concat_any _ [b.take 2, [lo, hi], b.drop 2] _ (by repeat (any_goals (first | with_reducible exact HTK.out | with_reducible exact HCUT.out | with_reducible exact HTK.out.bs | with_reducible exact HCUT.out.bs | with_reducible refine Bs.drew ?_ | with_reducible refine Bss.drew ?_ | with_reducible refine IsRing.drew ?_ | with_reducible refine Bs.drewN ?_ _ | with_reducible refine Bss.drewN ?_ _ | with_reducible refine IsRing.drewN ?_ _ | (with_reducible refine own2_bsi ?_ ?_ ?_; focus (simp; done)) | (with_reducible refine own1_bsi ?_ ?_; focus (simp; done)) | (with_reducible refine own4_bsi ?_ ?_ ?_ ?_ ?_; focus (simp; done)) | with_reducible rfl | with_reducible assumption | (with_reducible refine Bss.made2g 30 ?_ ?_ ?_; focus (simp; done)) | (with_reducible refine Bss.made3g 30 ?_ ?_ ?_ ?_; focus (simp; done)) | with_reducible refine Bs.alloc ?_ _ | with_reducible refine Bss.alloc ?_ _ | with_reducible refine IsRing.alloc ?_ _ | rfl))) HLL.out (by show 3 ≤ _; decide)).mono ?_; rintro e w2 ⟨v2, rfl, ho2, hb2⟩; rw [HFL.out] at ho2; obtain ⟨A2, c2, rfl, hz2, _⟩ := ho2.bs.form HM.out; clear hz2; have hc2 := below_keep hb2 (p := ⟨w.heap.size, 1, none⟩) (v := .slice (some ⟨gb, off, none⟩) n c) (by assumption); have B2 := Lib.hid hb2; have O2 := Lib.hid ho2; clear ho2 hb2))
          all_goals
            have B2' := Lib.hid ((by repeat (first | with_reducible exact Below.refl _ _ | with_reducible exact Below.refl _ _ | with_reducible refine below_drew1 ?_ | with_reducible refine below_drewN1 ?_ _ | with_reducible refine below_alloc1 ?_ _ | with_reducible refine below_setb (by first | exact Nat.le_refl _ | omega) ?_ | with_reducible refine below_step ?_ B2.out)) : Below w.heap.size w w2)
            have HLL2 := Lib.hid (show lenAll [[181, 98], hd, [(fletL hd).1, (fletL hd).2]] ≤ 140737488355328 by have := HDL.out; simp only [lenAll, List.map_cons, List.map_nil, List.sum_cons, List.sum_nil, List.length_cons, List.length_nil]; omega)
            have hfle := sums_fletcher (.slice A2 m c2) hd w2 O2.out.bs (by have := HDL.out; omega)
            rw [← HPQ.out] at HLL2 hfle
            have HFLE := Lib.hid hfle
            clear hfle hc2
            go_wp2_with (first | (go_at_call 72; go_must (refine HFLE.out.mono ?_; rintro e w3 ⟨rfl, hb3⟩; have B3 := Lib.hid hb3; clear hb3)) | (go_at_call 70; refine (concat_any _ [[181, 98], hd, [p, q]] _ (by repeat (any_goals (first | with_reducible exact O2.out.bs | with_reducible exact O2.out.bs.bs | with_reducible refine Bs.drew ?_ | with_reducible refine Bss.drew ?_ | with_reducible refine IsRing.drew ?_ | with_reducible refine Bs.drewN ?_ _ | with_reducible refine Bss.drewN ?_ _ | with_reducible refine IsRing.drewN ?_ _ | (with_reducible refine own2_bsi ?_ ?_ ?_; focus (simp; done)) | (with_reducible refine own1_bsi ?_ ?_; focus (simp; done)) | (with_reducible refine own4_bsi ?_ ?_ ?_ ?_ ?_; focus (simp; done)) | with_reducible rfl | with_reducible assumption | (with_reducible refine Bss.made2g 30 ?_ ?_ ?_; focus (simp; done)) | (with_reducible refine Bss.made3g 30 ?_ ?_ ?_ ?_; focus (simp; done)) | with_reducible refine Bs.alloc ?_ _ | with_reducible refine Bss.alloc ?_ _ | with_reducible refine IsRing.alloc ?_ _ | with_reducible refine Bs.below ?_ B3.out | with_reducible refine Bss.below ?_ B3.out | with_reducible refine IsRing.below ?_ B3.out | rfl))) HLL2.out (by show 3 ≤ _; decide)).mono ?_; rintro e w4 ⟨v4, rfl, ho4, hb4⟩; have F4 := Lib.hid (OwnB.fresh (B := w.heap.size) ho4 (below_sz (by repeat (first | with_reducible exact B2'.out | with_reducible exact Below.refl _ _ | with_reducible refine below_drew1 ?_ | with_reducible refine below_drewN1 ?_ _ | with_reducible refine below_alloc1 ?_ _ | with_reducible refine below_setb (by first | exact Nat.le_refl _ | omega) ?_ | with_reducible refine below_step ?_ B3.out)))); have B4 := Lib.hid hb4; have O4 := Lib.hid ho4; clear ho4 hb4))
            go_ret2
            exact ⟨⟨_, rfl, by simpa using O4.out.bs, F4.out⟩, (by repeat (first | with_reducible exact B2'.out | with_reducible exact Below.refl _ _ | with_reducible refine below_drew1 ?_ | with_reducible refine below_drewN1 ?_ _ | with_reducible refine below_alloc1 ?_ _ | with_reducible refine below_setb (by first | exact Nat.le_refl _ | omega) ?_ | with_reducible refine below_step ?_ B3.out | with_reducible refine below_step ?_ B4.out))⟩
    · have q2 : ((k.toNat : Int) == 2) = false := neq_u8 k2 rfl
      have n2 : ¬ k.toNat = 2 := fun e => k2 (UInt8.toNat_inj.mp e)
      rw [if_neg n2]
      clear k2 n2
      by_cases k3 : k = 3
      · subst k3
        clear q1 q2
        rw [if_pos (show UInt8.toNat 3 = 3 from rfl)]
        by_cases h1 : 1023 < n
        · rw [if_pos h1]
          have g1 : (1023 : Int) < n := by omega
          go_enter Try.func32, Try.ntmps32
          go_wp2_with fail
          go_ret2
          exact ⟨⟨_, rfl, Bs.nil _, Fresh.nil _ _ _⟩, (Below.refl _ _).alloc (Nat.le_refl _) _⟩
        · rw [if_neg h1]
          have g1 : ¬ (1023 : Int) < n := by omega
          have hf := sums_fifteen (.slice A n c) b _ HB.out (by rw [← HN.out]; omega)
          have hfl := fiftL_lt b
          obtain ⟨x, hx⟩ : ∃ x, x = fiftL b := ⟨_, rfl⟩
          rw [← hx] at hf hfl ⊢
          obtain ⟨p, hp⟩ : ∃ p, p = (x / 256).toUInt8 := ⟨_, rfl⟩
          obtain ⟨q, hq⟩ : ∃ q, q = x.toUInt8 := ⟨_, rfl⟩
          obtain ⟨r, hr⟩ : ∃ r, r = (n / 256).toUInt8 := ⟨_, rfl⟩
          obtain ⟨t, ht⟩ : ∃ t, t = n.toUInt8 := ⟨_, rfl⟩
          rw [← hp, ← hq, ← hr, ← ht]
          have e1 : (x : Int) / 256 = (p.toNat : Int) := by rw [hp, Nat.toUInt8_eq, UInt8.toNat_ofNat']; omega
          have e2 : (x : Int) % 256 = (q.toNat : Int) := by rw [hq, Nat.toUInt8_eq, UInt8.toNat_ofNat']; omega
          have e3 : (n : Int) / 256 = (r.toNat : Int) := by rw [hr, Nat.toUInt8_eq, UInt8.toNat_ofNat']; omega
          have e4 : (n : Int) % 256 = (t.toNat : Int) := by rw [ht, Nat.toUInt8_eq, UInt8.toNat_ofNat']; omega
          have HF := Lib.hid hf
          have HP := Lib.hid (And.intro hx (And.intro hp (And.intro hq (And.intro hr ht))))
          have HLL := Lib.hid (show lenAll [[160, 162, r, t], b, [p, q, 176, 179]] ≤ 140737488355328 by simp only [lenAll, List.map_cons, List.map_nil, List.sum_cons, List.sum_nil, List.length_cons, List.length_nil]; rw [← HN.out]; omega)
          clear hf hx hp hq hr ht h1
          go_enter Try.func32, Try.ntmps32
          go_wp2_with (go_at_call 73; go_must (refine HF.out.mono ?_; rintro e w1 ⟨rfl, hb1⟩; have hc1 := begun_cell hb1 1 rfl; have hs1 : w.heap.size < w1.heap.size := by { have := hb1.size; simp at this; omega }; have B1 := Lib.hid hb1; clear hb1))
          go_wp2_with (first | (go_at_call 70; refine (concat_any _ [[160, 162, r, t], b, [p, q, 176, 179]] _ (by repeat (any_goals (first | with_reducible exact HB.out | with_reducible exact HB.out.bs | with_reducible refine Bs.drew ?_ | with_reducible refine Bss.drew ?_ | with_reducible refine IsRing.drew ?_ | with_reducible refine Bs.drewN ?_ _ | with_reducible refine Bss.drewN ?_ _ | with_reducible refine IsRing.drewN ?_ _ | (with_reducible refine own2_bsi ?_ ?_ ?_; focus (simp; done)) | (with_reducible refine own1_bsi ?_ ?_; focus (simp; done)) | (with_reducible refine own4_bsi ?_ ?_ ?_ ?_ ?_; focus (simp; done)) | with_reducible rfl | with_reducible assumption | (with_reducible refine Bss.made2g 30 ?_ ?_ ?_; focus (simp; done)) | (with_reducible refine Bss.made3g 30 ?_ ?_ ?_ ?_; focus (simp; done)) | with_reducible refine Bs.alloc ?_ _ | with_reducible refine Bss.alloc ?_ _ | with_reducible refine IsRing.alloc ?_ _ | with_reducible refine Bs.below ?_ B1.out | with_reducible refine Bss.below ?_ B1.out | with_reducible refine IsRing.below ?_ B1.out | rfl))) HLL.out (by show 3 ≤ _; decide)).mono ?_; rintro e w4 ⟨v4, rfl, ho4, hb4⟩; have F4 := Lib.hid (OwnB.fresh (B := w.heap.size) ho4 (below_sz (by repeat (first | with_reducible exact Below.refl _ _ | with_reducible exact Below.refl _ _ | with_reducible refine below_drew1 ?_ | with_reducible refine below_drewN1 ?_ _ | with_reducible refine below_alloc1 ?_ _ | with_reducible refine below_setb (by first | exact Nat.le_refl _ | omega) ?_ | with_reducible refine below_step ?_ B1.out)))); have B4 := Lib.hid hb4; have O4 := Lib.hid ho4; clear ho4 hb4))
          go_ret2
          exact ⟨⟨_, rfl, by simpa using O4.out.bs, F4.out⟩, (by repeat (first | with_reducible exact Below.refl _ _ | with_reducible exact Below.refl _ _ | with_reducible refine below_drew1 ?_ | with_reducible refine below_drewN1 ?_ _ | with_reducible refine below_alloc1 ?_ _ | with_reducible refine below_setb (by first | exact Nat.le_refl _ | omega) ?_ | with_reducible refine below_step ?_ B1.out | with_reducible refine below_step ?_ B4.out))⟩
      · have q3 : ((k.toNat : Int) == 3) = false := neq_u8 k3 rfl
        have n3 : ¬ k.toNat = 3 := fun e => k3 (UInt8.toNat_inj.mp e)
        rw [if_neg n3]
        clear k3 n3
        go_enter Try.func32, Try.ntmps32
        go_wp2_with fail
        go_ret2
        exact ⟨⟨_, rfl, Bs.nil _, Fresh.nil _ _ _⟩, (Below.refl _ _).alloc (Nat.le_refl _) _⟩
end Go.Proofs.Ytfgglffjigolhaa
