/- The frames' laws: FrameTakes. -/
import Derived.Test.YtfgglffjigolhaaRefJ
import Derived.Test.YtfgglffjigolhaaLawFE
namespace Go.Proofs.Ytfgglffjigolhaa
open Go.RowKit

/-- How many bytes there are in the first j pieces, as the program reckons it. -/
def sumW (Ls : List (List UInt8)) : Int := Ls.foldl (fun s b => wrap64 (s + b.length)) 0
theorem sumW_snoc (Ls : List (List UInt8)) (b : List UInt8) : sumW (Ls ++ [b]) = wrap64 (sumW Ls + b.length) := by simp [sumW]
theorem sumW_succ {Ls : List (List UInt8)} {j : Nat} (h : j < Ls.length) : sumW (Ls.take (j + 1)) = wrap64 (sumW (Ls.take j) + Ls[j].length) := by
  rw [List.take_succ_eq_append_getElem h, sumW_snoc]

theorem sum_wrap (Ls : List (List UInt8)) (h : Ls.length ≤ 40) (hl : ∀ b ∈ Ls, b.length ≤ 140737488351232) : sumW Ls = (lenAll Ls : Int) := by
  have key : ∀ j, j ≤ Ls.length → sumW (Ls.take j) = (lenAll (Ls.take j) : Int) ∧ lenAll (Ls.take j) ≤ j * 140737488351232 := by
    intro j
    induction j with
    | zero => intro _; simp [sumW, lenAll]
    | succ j ih =>
      intro hj
      obtain ⟨i1, i2⟩ := ih (by omega)
      have hb := hl Ls[j] (List.getElem_mem _)
      rw [sumW_succ (by omega), lenAll_succ (by omega), i1]
      refine ⟨?_, by omega⟩
      unfold wrap64
      omega
  have := (key Ls.length (Nat.le_refl _)).1
  rwa [List.take_length] at this
theorem len_le_all {Ls : List (List UInt8)} {j : Nat} (h : j < Ls.length) : Ls[j].length ≤ lenAll Ls := by
  have h1 := lenAll_succ h
  have h2 := lenAll_le Ls (j + 1)
  omega
def TakesTo (g g2 size : Nat) (w wr : World) (n : Nat) (i : Value) : Prop :=
  ∃ (j lost : Nat) (L : List UInt8), i = .int .i64 j ∧ j ≤ n ∧ lost ≤ 6000 * j ∧ L.length ≤ size ∧ IsRing wr g size L lost ∧ RefRing wr g2 size L ∧ Below w.heap.size w wr ∧ wr.heap.size ≥ w.heap.size
def TakeTo (g g2 size m : Nat) (lost : Int) (w wr : World) (i : Value) : Prop :=
  ∃ (t : Nat) (L : List UInt8), i = .int .i64 t ∧ t + L.length ≤ size ∧ IsRing wr g size L lost ∧ RefRing wr g2 size L ∧ Below w.heap.size w wr
set_option maxRecDepth 100000 in
set_option maxHeartbeats 3200000 in
theorem frameTakes_any (size : Int) (v : Value) (Ls : List (List UInt8)) (w : World) (hS : -9223372036854775808 ≤ size ∧ size ≤ 9223372036854775807) (hB : Bss w v Ls) (hn : Ls.length ≤ maxLen) (hl : ∀ b ∈ Ls, b.length ≤ 140737488351232) :
    Calls Try.prog 4 #[.int .i64 size, v] w fun e w' => e = .returned (.bool true) ∧ Below w.heap.size w w' := by
  obtain ⟨A, c, rfl, hle, hc⟩ := hB
  obtain ⟨n, hnn⟩ : ∃ n, n = Ls.length := ⟨_, rfl⟩
  have HC := Lib.hid hc
  have HL := Lib.hid hl
  have HN := Lib.hid hnn
  rw [← hnn] at hn hle ⊢
  simp only [maxLen] at hn
  clear hc hl hnn
  go_enter Try.func4, Try.ntmps4
  go_wp2_with fail
  go_loop [5, 22] (fun s i => ∃ j : Nat, j ≤ n ∧ i = .int .i64 j ∧ s = .int .i64 (sumW (Ls.take j))) (fun _ i => n - (intOf i).toNat)
  case atStart => exact ⟨0, Nat.zero_le _, rfl, rfl⟩
  case round =>
    obtain ⟨j, hj, rfl, rfl⟩ := hrel
    by_cases hlt : j < n
    · have hjl : j < Ls.length := by rw [← HN.out]; exact hlt
      obtain ⟨g, off, u, rfl, hcell, hbs⟩ := HC.out j hjl
      obtain ⟨A2, c2, rfl, hnc, hb2⟩ := hbs.form rfl
      have hs := sumW_succ hjl
      have HS := Lib.hid hs
      clear hb2 hbs hs
      go_wp2_with fail
      go_round
      case rel => exact ⟨j + 1, by omega, by go_num, by rw [HS.out]⟩
      case measure => simp [intOf]; omega
    · obtain rfl : j = n := by omega
      have hsum : j ≤ 40 → sumW (Ls.take j) = (lenAll Ls : Int) := fun h => by
        rw [HN.out, List.take_length]
        exact sum_wrap Ls (by rw [← HN.out]; exact h) HL.out
      obtain ⟨s, hs⟩ : ∃ s, s = sumW (Ls.take j) := ⟨_, rfl⟩
      rw [← hs] at hsum ⊢
      have HSUM := Lib.hid hsum
      clear hsum hs
      by_cases hsz : 64 ≤ size ∧ size ≤ 4096
      · obtain ⟨h64, h4096⟩ := hsz
        obtain ⟨size, rfl⟩ : ∃ k : Nat, size = k := ⟨size.toNat, by omega⟩
        by_cases h40 : (40 : Int) < j
        · skip
          go_wp2_with (first | (go_at_call 21; go_must (refine (ring_new_ok size _ (by omega) (by omega)).mono ?_; rintro e w1 ⟨g, rfl, hr1, hg1, hb1⟩; have B1 := Lib.hid hb1; clear hr1 hg1 hb1)) | (go_at_call 22; go_must (refine (known_any _).mono ?_; rintro e w2 ⟨rfl, hb2⟩; have B2 := Lib.hid hb2; clear hb2)))
          go_ret
          exact ⟨rfl, (by repeat (first | with_reducible exact B1.out | with_reducible exact Below.refl _ _ | with_reducible refine below_drew1 ?_ | with_reducible refine below_drewN1 ?_ _ | with_reducible refine below_alloc1 ?_ _ | with_reducible refine below_setb (by first | exact Nat.le_refl _ | omega) ?_ | with_reducible refine below_step ?_ B2.out))⟩
        · by_cases h60 : (6000 : Int) < s
          · skip
            go_wp2_with (first | (go_at_call 21; go_must (refine (ring_new_ok size _ (by omega) (by omega)).mono ?_; rintro e w1 ⟨g, rfl, hr1, hg1, hb1⟩; have B1 := Lib.hid hb1; clear hr1 hg1 hb1)) | (go_at_call 22; go_must (refine (known_any _).mono ?_; rintro e w2 ⟨rfl, hb2⟩; have B2 := Lib.hid hb2; clear hb2)))
            go_ret
            exact ⟨rfl, (by repeat (first | with_reducible exact B1.out | with_reducible exact Below.refl _ _ | with_reducible refine below_drew1 ?_ | with_reducible refine below_drewN1 ?_ _ | with_reducible refine below_alloc1 ?_ _ | with_reducible refine below_setb (by first | exact Nat.le_refl _ | omega) ?_ | with_reducible refine below_step ?_ B2.out))⟩
          · have hall : lenAll Ls ≤ 6000 := by have := HSUM.out (by omega); omega
            have z1 : ¬ (size : Int) < 64 := by omega
            have z2 : ¬ (4096 : Int) < size := by omega
            have HALL := Lib.hid hall
            clear hall
            go_wp2_with (go_at_call 21; go_must (refine (ring_new_ok size _ (by omega) (by omega)).mono ?_; rintro e w1 ⟨g, rfl, hr1, hg1, hb1⟩; have R1 := Lib.hid hr1; have G1 := Lib.hid hg1; have B1 := Lib.hid hb1; have L1 := Lib.hid hr1.lt; clear hr1 hg1 hb1))
            have hg2 : g < w1.heap.size := L1.out
            go_loopw [61] (fun i wr => TakesTo g w1.heap.size size w wr j i) (fun i _ => j - (intOf i).toNat)
            case atStart => exact ⟨0, 0, [], rfl, Nat.zero_le _, Nat.zero_le _, Nat.zero_le _, R1.out.alloc _, ⟨.slice none 0 0, 0, heap_alloc_same w1 _, Bs.nil _, Fresh.nil _ _ _⟩, below_alloc1 B1.out _, (below_alloc1 B1.out _).size⟩
            case round =>
              obtain ⟨k, lost, L, rfl, hk, hlost, hLs, hR, hRR, hBl, _⟩ := hrel
              have HR := Lib.hid hR
              have HRR := Lib.hid hRR
              have HBL := Lib.hid hBl
              clear hR hRR hBl
              by_cases hlt : k < j
              · have hkl : k < Ls.length := by rw [← HN.out]; exact hlt
                obtain ⟨gB, off, u, rfl, hcell, hbs⟩ := HC.out k hkl
                have hcell2 := below_keep HBL.out hcell
                have hml := len_le_all hkl
                have hm6 := HALL.out
                obtain ⟨M, hM⟩ : ∃ M, M = Ls[k] := ⟨_, rfl⟩
                rw [← hM] at hbs hml
                obtain ⟨m, hm⟩ : ∃ m, m = M.length := ⟨_, rfl⟩
                rw [← hm] at hml
                have hm6' : m ≤ 6000 := by omega
                clear hml
                obtain ⟨A2, c2, rfl, hnc, hb2⟩ := hbs.form hm.symm
                have hput := putL_eq (size := size) (L := L) M hLs (by omega)
                have hpl := putL_length (size := size) (L := L) M hLs (by omega)
                obtain ⟨L2, hL2⟩ : ∃ L2, L2 = putL size L M := ⟨_, rfl⟩
                rw [← hL2] at hput hpl
                have hl2 : L2.length ≤ size := by rw [hpl]; split <;> omega
                have HB2 := Lib.hid hb2
                have HM := Lib.hid hm
                have HPUT := Lib.hid hput
                have HL2 := Lib.hid hL2
                clear hcell hbs hb2 hm hput hpl hL2 hM hm6
                go_wp2_with (first | (go_at_call 23; go_must (refine (ring_put g size L M lost (.slice A2 m c2) _ HR.out (HB2.out.below HBL.out) (by rw [← HM.out]; omega) (HB2.out.own_nil (by have := G1.out; omega)) (by omega)).mono ?_; rintro e w2 ⟨rfl, hr2, he2⟩; rw [← HL2.out, ← HM.out] at hr2; have R2 := Lib.hid hr2; have RR2 := Lib.hid (HRR.out.ext he2 hg2); have E2 := Lib.hid he2; have B2 := Lib.hid (((Ext.of_below (S := OneB g) HBL.out).same he2).belowN (fun x hx e => by have h1 := G1.out; have : x = g := e; omega)); clear hr2 he2)) | (go_at_call 24; go_must (refine (ref_put w1.heap.size size L M (.slice A2 m c2) _ RR2.out (HB2.out.below B2.out) (by omega) (by rw [← HM.out]; omega) (by omega)).mono ?_; rintro e w3 ⟨rfl, hrr3, he3⟩; rw [← HPUT.out] at hrr3; have RR3 := Lib.hid hrr3; have R3 := Lib.hid (R2.out.kept he3 (fun e => by have : g = w1.heap.size := e; omega)); have B3 := Lib.hid (((Ext.of_below (S := OneB w1.heap.size) B2.out).same he3).belowN (fun x hx e => by have h1 := G1.out; have : x = w1.heap.size := e; omega)); clear hrr3 he3)))
                obtain ⟨lo, hlo⟩ : ∃ lo : Nat, lo = lost + (L.length + m - size) := ⟨_, rfl⟩
                have hlo2 : lo ≤ 6000 * (k + 1) := by omega
                have R3' := R3.out
                rw [← hlo] at R3'
                clear R2 RR2 E2 B2 R3 HR HRR HPUT HL2 hlo hlost
                have R3 := Lib.hid R3'
                clear R3'
                go_loopw [13] (fun i wr => TakeTo g w1.heap.size size m lo w wr i) (fun i _ => m + size + 1 - (intOf i).toNat)
                case atStart => exact ⟨0, L2, rfl, by omega, R3.out, RR3.out, B3.out⟩
                case round =>
                  obtain ⟨t, K, rfl, ht, hR, hRR, hB⟩ := hrel
                  have hnx := fun (W : World) h => next_any g size K (lo : Int) W h (K.length + 1) (by omega)
                  have hrn := fun (W : World) h => ref_next w1.heap.size size K W h (by omega) (by omega) (K.length + 1) (by omega)
                  have hrest := nextM_rest size (K.length + 1) K (by omega)
                  obtain ⟨⟨d, ok, kk, b, Q⟩, hr⟩ : ∃ r, r = nextM size (K.length + 1) K := ⟨_, rfl⟩
                  rw [← hr] at hnx hrn hrest
                  simp only [Nexted] at hnx hrn
                  simp only at hrest
                  have htm : (t : Int) ≤ (m : Int) + (size : Int) := by omega
                  have hdd : ((d : Int) != (d : Int)) = false := by simp
                  have hg2r : w1.heap.size < _ := hRR.lt
                  have HNX := Lib.hid hnx
                  have HRN := Lib.hid hrn
                  have HR := Lib.hid hR
                  have HRR := Lib.hid hRR
                  have HB := Lib.hid hB
                  clear hnx hrn hR hRR hB hr
                  cases ok with
                  | true =>
                    have hlt2 := hrest.2.1 rfl
                    clear hrest
                    go_wp2_with (first | (go_at_call 25; go_must (refine (HNX.out _ HR.out).mono ?_; rintro e w4 ⟨⟨v4, rfl, hv4, fv4⟩, hr4, he4⟩; obtain ⟨A4, c4, rfl, hz4, hv4⟩ := hv4.form rfl; clear hz4; have s4 := he4.size; have RG4 := Lib.hid hr4; have RR4 := Lib.hid (HRR.out.ext he4 hg2); have V4 := Lib.hid hv4; have F4 := Lib.hid fv4; have E4 := Lib.hid he4; clear hr4 he4 hv4 fv4)) | (go_at_call 26; go_must (refine (HRN.out _ (RR4.out.alloc _)).mono ?_; rintro e w5 ⟨⟨v5, rfl, hv5, fv5⟩, hr5, he5⟩; obtain ⟨A5, c5, rfl, hz5, hv5⟩ := hv5.form rfl; clear hz5; have hne4 : ¬ w4.heap.size = w1.heap.size := (by omega); have X5 := Lib.hid (he5.heap (heap_alloc_same w4 _) hne4); have RG5 := Lib.hid ((RG4.out.alloc _).kept he5 (fun e => by have : g = w1.heap.size := e; omega)); have RR5 := Lib.hid hr5; have V5 := Lib.hid hv5; have U5 := Lib.hid ((V4.out.alloc _).kept he5 (fun x _ hx e => by have h1 := F4.out x hx; have : x = w1.heap.size := e; omega)); have B5 := Lib.hid ((((Ext.of_below (S := fun y => y = g ∨ y = w1.heap.size) HB.out).same ((E4.out).mono (fun _ _ h => .inl h))).alloc _ |>.same (he5.mono (fun _ _ h => .inr h))).belowN (fun x hx e => by have h1 := G1.out; rcases e with e | e <;> omega)); clear hr5 he5 hv5 fv5 hne4; have s5 := heap_lt X5.out; have c50 := cell_of X5.out 0; have c51 := cell_of X5.out 1)) | (go_at_call 27; go_must (refine (ref_same _ _ [(kk, b)] [(kk, b)] _ ((Fss.oneg (g := w5.heap.size + 1) (by simp) (U5.out.alloc _) _).alloc _) (Fss.oneg (g := w5.heap.size + 2) (by simp) ((V5.out.alloc _).alloc _) _) (by simp) (by simp)).mono ?_; rintro e w' ⟨rfl, nq, rfl⟩)))
                    go_roundw
                    case rel => exact ⟨t + 1, Q, by go_num, by omega, (((RG5.out.alloc _).alloc _).alloc _).drewN _, (((RR5.out.alloc _).alloc _).alloc _).drewN _, (by repeat (first | with_reducible exact B5.out | with_reducible exact Below.refl _ _ | with_reducible refine below_drew1 ?_ | with_reducible refine below_drewN1 ?_ _ | with_reducible refine below_alloc1 ?_ _ | with_reducible refine below_setb (by first | exact Nat.le_refl _ | omega) ?_))⟩
                    case measure => simp [intOf]; omega
                  | false =>
                    have hlt2 := hrest.1
                    clear hrest
                    go_wp2_with (first | (go_at_call 25; go_must (refine (HNX.out _ HR.out).mono ?_; rintro e w4 ⟨⟨v4, rfl, hv4, fv4⟩, hr4, he4⟩; obtain ⟨A4, c4, rfl, hz4, hv4⟩ := hv4.form rfl; clear hz4; have s4 := he4.size; have RG4 := Lib.hid hr4; have RR4 := Lib.hid (HRR.out.ext he4 hg2); have V4 := Lib.hid hv4; have F4 := Lib.hid fv4; have E4 := Lib.hid he4; clear hr4 he4 hv4 fv4)) | (go_at_call 26; go_must (refine (HRN.out _ (RR4.out.alloc _)).mono ?_; rintro e w5 ⟨⟨v5, rfl, hv5, fv5⟩, hr5, he5⟩; obtain ⟨A5, c5, rfl, hz5, hv5⟩ := hv5.form rfl; clear hz5; have hne4 : ¬ w4.heap.size = w1.heap.size := (by omega); have X5 := Lib.hid (he5.heap (heap_alloc_same w4 _) hne4); have RG5 := Lib.hid ((RG4.out.alloc _).kept he5 (fun e => by have : g = w1.heap.size := e; omega)); have RR5 := Lib.hid hr5; have V5 := Lib.hid hv5; have U5 := Lib.hid ((V4.out.alloc _).kept he5 (fun x _ hx e => by have h1 := F4.out x hx; have : x = w1.heap.size := e; omega)); have B5 := Lib.hid ((((Ext.of_below (S := fun y => y = g ∨ y = w1.heap.size) HB.out).same ((E4.out).mono (fun _ _ h => .inl h))).alloc _ |>.same (he5.mono (fun _ _ h => .inr h))).belowN (fun x hx e => by have h1 := G1.out; rcases e with e | e <;> omega)); clear hr5 he5 hv5 fv5 hne4; have s5 := heap_lt X5.out; have c50 := cell_of X5.out 0; have c51 := cell_of X5.out 1)) | (go_at_call 27; go_must (refine (ref_same _ _ [(kk, b)] [(kk, b)] _ ((Fss.oneg (g := w5.heap.size + 1) (by simp) (U5.out.alloc _) _).alloc _) (Fss.oneg (g := w5.heap.size + 2) (by simp) ((V5.out.alloc _).alloc _) _) (by simp) (by simp)).mono ?_; rintro e w' ⟨rfl, nq, rfl⟩)))
                    obtain ⟨W0, hW0⟩ : ∃ W0, W0 = (((w5.alloc (.cells #[.int .u8 (kk : Int), .slice A5 b.length c5] 39)).alloc (.cells #[.int .u8 (kk : Int), .slice A4 b.length c4] 39)).alloc (.cells #[.int .u8 (kk : Int), .slice A5 b.length c5] 39)).drewN nq := ⟨_, rfl⟩
                    rw [← hW0]
                    have RGW := Lib.hid (show IsRing W0 g size Q lo by rw [hW0]; exact (((RG5.out.alloc _).alloc _).alloc _).drewN _)
                    have rrw_ : RefRing W0 w1.heap.size size Q := by rw [hW0]; exact (((RR5.out.alloc _).alloc _).alloc _).drewN _
                    have BW := Lib.hid (show Below w.heap.size w W0 by rw [hW0]; exact (by repeat (first | with_reducible exact B5.out | with_reducible exact Below.refl _ _ | with_reducible refine below_drew1 ?_ | with_reducible refine below_drewN1 ?_ _ | with_reducible refine below_alloc1 ?_ _ | with_reducible refine below_setb (by first | exact Nat.le_refl _ | omega) ?_)))
                    have RRW := Lib.hid rrw_
                    obtain ⟨v6, lost6, h61, h62, _⟩ := rrw_
                    obtain ⟨q, hq⟩ : ∃ q, q = Q.length := ⟨_, rfl⟩
                    obtain ⟨A6, c6, rfl, hz6, h62⟩ := h62.form hq.symm
                    have d1 : W0.cell? ⟨w1.heap.size, 1, none⟩ = some (.slice A6 q c6) := (cell_of h61 1).trans rfl
                    have hpk := fun (W : World) h => ring_peek g size Q (lo : Int) (size : Int) q W h (by omega)
                    have htq : Q.take q = Q := by rw [hq]; exact List.take_length
                    rw [htq] at hpk
                    have HPK := Lib.hid hpk
                    have HQ := Lib.hid hq
                    have D1 := Lib.hid d1
                    have B6 := Lib.hid h62
                    clear hW0 h61 h62 hz6 hpk htq hq c50 c51 s5
                    go_wp2_with fail
                    have kcW := conv_bs (w := W0.drew) B6.out
                    go_region_with
                      ((go_at_call 28; refine (HPK.out _ (by repeat (any_goals (first | with_reducible exact RGW.out | with_reducible exact RGW.out.bs | with_reducible refine Bs.drew ?_ | with_reducible refine Bss.drew ?_ | with_reducible refine IsRing.drew ?_ | with_reducible refine Bs.drewN ?_ _ | with_reducible refine Bss.drewN ?_ _ | with_reducible refine IsRing.drewN ?_ _ | (with_reducible refine own2_bsi ?_ ?_ ?_; focus (simp; done)) | (with_reducible refine own1_bsi ?_ ?_; focus (simp; done)) | (with_reducible refine own4_bsi ?_ ?_ ?_ ?_ ?_; focus (simp; done)) | with_reducible rfl | with_reducible assumption | (with_reducible refine Bss.made2g 30 ?_ ?_ ?_; focus (simp; done)) | (with_reducible refine Bss.made3g 30 ?_ ?_ ?_ ?_; focus (simp; done)) | with_reducible refine Bs.alloc ?_ _ | with_reducible refine Bss.alloc ?_ _ | with_reducible refine IsRing.alloc ?_ _ | rfl)))).mono ?_; rintro e w7 ⟨v7, rfl, ho7, hb7⟩; obtain ⟨A7, c7, rfl, hz7, hs7⟩ := ho7.bs.form HQ.out.symm; clear hz7; have K1 : w7.cell? ⟨w1.heap.size, 1, none⟩ = some (.slice A6 q c6) := below_keep (w := W0.drew) hb7 D1.out; have K2 := conv_bs (Bs.below (w := W0.drew) B6.out hb7); have kc7 := conv_bs hs7; have RG7 := Lib.hid (IsRing.below (w := W0.drew) RGW.out hb7); have RR7 := Lib.hid (RefRing.below (w := W0.drew) RRW.out hb7); have B7 := Lib.hid (below_more (b := W0.drew) (below_drew1 BW.out) hb7 (Nat.le_refl _) : Below w.heap.size w w7); clear ho7 hb7 hs7))
                    all_goals go_wp2_with fail
                    all_goals go_roundw
                    all_goals first | exact ⟨k + 1, lo, Q, by go_num, by omega, by omega, by omega, RG7.out, RR7.out, B7.out, B7.out.size⟩ | (simp [intOf]; omega)
              · go_wp2_with (go_at_call 22; go_must (refine (known_any _).mono ?_; rintro e w2 ⟨rfl, hb2⟩; have B2 := Lib.hid hb2; clear hb2))
                go_ret
                exact ⟨rfl, (by repeat (first | with_reducible exact HBL.out | with_reducible exact Below.refl _ _ | with_reducible refine below_drew1 ?_ | with_reducible refine below_drewN1 ?_ _ | with_reducible refine below_alloc1 ?_ _ | with_reducible refine below_setb (by first | exact Nat.le_refl _ | omega) ?_ | with_reducible refine below_step ?_ B2.out))⟩
      · have HNEW := Lib.hid (ring_new_bad size w hsz)
        have hz : size < 64 ∨ 4096 < size := by omega
        clear hsz
        by_cases h40 : (40 : Int) < j
        · skip
          go_wp2_with (first | (go_at_call 21; go_must (refine HNEW.out.mono ?_; rintro e w1 ⟨rfl, rfl⟩)) | (go_at_call 22; go_must (refine (known_any _).mono ?_; rintro e w2 ⟨rfl, hb2⟩; have B2 := Lib.hid hb2; clear hb2)))
          go_ret
          exact ⟨rfl, B2.out⟩
        · by_cases h60 : (6000 : Int) < s
          · skip
            go_wp2_with (first | (go_at_call 21; go_must (refine HNEW.out.mono ?_; rintro e w1 ⟨rfl, rfl⟩)) | (go_at_call 22; go_must (refine (known_any _).mono ?_; rintro e w2 ⟨rfl, hb2⟩; have B2 := Lib.hid hb2; clear hb2)))
            go_ret
            exact ⟨rfl, B2.out⟩
          · skip
            go_wp2_with (first | (go_at_call 21; go_must (refine HNEW.out.mono ?_; rintro e w1 ⟨rfl, rfl⟩)) | (go_at_call 22; go_must (refine (known_any _).mono ?_; rintro e w2 ⟨rfl, hb2⟩; have B2 := Lib.hid hb2; clear hb2)))
            go_ret
            exact ⟨rfl, B2.out⟩
end Go.Proofs.Ytfgglffjigolhaa
