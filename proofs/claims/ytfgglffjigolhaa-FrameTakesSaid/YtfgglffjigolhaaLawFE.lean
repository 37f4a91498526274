/- The frames' laws: FrameSide. -/
import Derived.Test.YtfgglffjigolhaaLawFD
namespace Go.Proofs.Ytfgglffjigolhaa
open Go.RowKit

theorem Bs.grown {w w' : World} {v : Value} {L : List UInt8} {row : Option Nat} (h : Bs w v L) (hg : w.grownBy w' row) (hne : ∀ k, v.ownBlock = some k → row ≠ some k) : Bs w' v L := by
  obtain ⟨A, c, rfl, hle, hc⟩ := h
  refine ⟨A, c, rfl, hle, fun i hi => ?_⟩
  obtain ⟨gb, off, rfl, h1⟩ := hc i hi
  exact ⟨gb, off, rfl, hg.cell h1 (fun e => hne gb rfl e.symm)⟩
def flatF (bt : UInt8) (L : List (Nat × List UInt8)) : List UInt8 := L.flatMap fun x => bt :: (bytesM x.1 x.2).1
theorem flatF_succ {bt : UInt8} {L : List (Nat × List UInt8)} {j : Nat} (h : j < L.length) : flatF bt (L.take (j + 1)) = (flatF bt (L.take j) ++ [bt]) ++ (bytesM L[j].1 L[j].2).1 := by
  unfold flatF
  rw [List.take_succ_eq_append_getElem h, List.flatMap_append]
  simp
theorem bytesM_some {k : Nat} {b out : List UInt8} (h : bytesM k b = (out, 0)) : out ≠ [] := by
  rcases bytesM_zero h with ⟨_, _, _, rfl⟩ | ⟨_, _, _, _, _, rfl⟩ | ⟨_, _, rfl⟩ <;> simp
theorem bytesM_le (k : Nat) (b : List UInt8) : (bytesM k b).1.length ≤ 1031 := by
  by_cases h : (bytesM k b).2 = 0
  · exact (bytesM_len (k := k) (b := b) (out := (bytesM k b).1) (by rw [← h])).2
  · unfold bytesM at h ⊢
    repeat (first | (split at h) | (exact absurd rfl h))
    all_goals first | (simp; done) | (split <;> simp <;> omega) | (exact absurd rfl h) | skip
    all_goals (repeat' split) <;> first | (simp; done) | (exact absurd rfl h) | (simp_all; done)
theorem flatF_le {bt : UInt8} (L : List (Nat × List UInt8)) : (flatF bt L).length ≤ 1032 * L.length := by
  unfold flatF
  induction L with
  | nil => simp
  | cons x L ih =>
    have := bytesM_le x.1 x.2
    simp only [List.flatMap_cons, List.length_append, List.length_cons]
    omega
theorem all_side {bt : UInt8} (h1 : bt ≠ 36) (h2 : bt ≠ 181) (h3 : bt ≠ 160) : ∀ (L : List (Nat × List UInt8)) (f : Nat), (∀ x ∈ L, (bytesM x.1 x.2).2 = 0) → L.length < f → allM 4096 f (flatF bt L) = (L, L.length, [])
  | [], f, _, hf => by
    obtain ⟨f, rfl⟩ : ∃ x, f = x + 1 := ⟨f - 1, by simp at hf; omega⟩
    rfl
  | x :: L, f, h, hf => by
    obtain ⟨f, rfl⟩ : ∃ x, f = x + 1 := ⟨f - 1, by simp at hf; omega⟩
    have hx : bytesM x.1 x.2 = ((bytesM x.1 x.2).1, 0) := by rw [← h x (by simp)]
    have hne := bytesM_some hx
    have hfl : flatF bt (x :: L) = bt :: ((bytesM x.1 x.2).1 ++ flatF bt L) := by simp [flatF]
    have hb : beginM 4096 (bt :: ((bytesM x.1 x.2).1 ++ flatF bt L)) = (2, 0, 0, []) := by
      unfold beginM
      simp only
      rw [if_neg h1, if_neg h2, if_neg h3]
    have hn : nextC 4096 (flatF bt (x :: L)) = (1, true, x.1, x.2, flatF bt L) := by
      unfold nextC
      rw [hfl, nextM_succ, hb]
      simp only [List.drop_succ_cons, List.drop_zero, List.length_cons]
      rw [if_neg (by decide), if_neg (by decide), next_bytes hx (by decide)]
    rw [allM_succ, hn]
    simp only [if_true]
    rw [all_side h1 h2 h3 L f (fun y hy => h y (by simp [hy])) (by simp at hf; omega)]
    simp only [List.length_cons, Nat.add_comm 1]

def SideTo (g : Nat) (bt : UInt8) (L : List (Nat × List UInt8)) (base : Nat) (w wr : World) (u i : Value) : Prop :=
  ∃ j : Nat, i = .int .i64 j ∧ j ≤ L.length ∧ base ≤ wr.heap.size ∧ (∀ x ∈ L.take j, (bytesM x.1 x.2).2 = 0) ∧ OwnB wr base u (flatF bt (L.take j)) ∧ IsRing wr g 4096 [] 0 ∧ Below w.heap.size w wr
set_option maxRecDepth 100000 in
set_option maxHeartbeats 1600000 in
theorem frameSide_known (v : Value) (L : List (Nat × List UInt8)) (bt : UInt8) (w : World) (hF : Fss w v L) (h : 8 < L.length ∨ bt = 36 ∨ bt = 181 ∨ bt = 160) :
    Calls Try.prog 7 #[v, bv bt] w fun e w' => e = .returned (.bool true) ∧ Below w.heap.size w w' := by
  obtain ⟨A, c, rfl, hle, _⟩ := hF
  obtain ⟨n, hn⟩ : ∃ n, n = L.length := ⟨_, rfl⟩
  rw [← hn] at h ⊢
  clear hle hn
  by_cases h8 : 8 < n
  · clear h
    have g8 : (8 : Int) < n := by omega
    go_enter Try.func7, Try.ntmps7
    go_wp2_with (first | (go_at_call 21; go_must (refine (ring_new_ok 4096 _ (by decide) (by decide)).mono ?_; rintro e w1 ⟨g, rfl, hr1, hg1, hb1⟩; have B1 := Lib.hid hb1; clear hr1 hg1 hb1)) | (go_at_call 22; go_must (refine (known_any _).mono ?_; rintro e w2 ⟨rfl, hb2⟩; have B2 := Lib.hid hb2; clear hb2)))
    go_ret
    exact ⟨rfl, (by repeat (first | with_reducible exact B1.out | with_reducible exact Below.refl _ _ | with_reducible refine below_drew1 ?_ | with_reducible refine below_drewN1 ?_ _ | with_reducible refine below_alloc1 ?_ _ | with_reducible refine below_setb (by first | exact Nat.le_refl _ | omega) ?_ | with_reducible refine below_step ?_ B2.out))⟩
  · have g8 : ¬ (8 : Int) < n := by omega
    rcases h with h | h | h | h
    · exact absurd h h8
    · have q1 : ((bt.toNat : Int) == 36) = true := by rw [h]; rfl
      clear h
      go_enter Try.func7, Try.ntmps7
      go_wp2_with (first | (go_at_call 21; go_must (refine (ring_new_ok 4096 _ (by decide) (by decide)).mono ?_; rintro e w1 ⟨g, rfl, hr1, hg1, hb1⟩; have B1 := Lib.hid hb1; clear hr1 hg1 hb1)) | (go_at_call 22; go_must (refine (known_any _).mono ?_; rintro e w2 ⟨rfl, hb2⟩; have B2 := Lib.hid hb2; clear hb2)))
      go_ret
      exact ⟨rfl, (by repeat (first | with_reducible exact B1.out | with_reducible exact Below.refl _ _ | with_reducible refine below_drew1 ?_ | with_reducible refine below_drewN1 ?_ _ | with_reducible refine below_alloc1 ?_ _ | with_reducible refine below_setb (by first | exact Nat.le_refl _ | omega) ?_ | with_reducible refine below_step ?_ B2.out))⟩
    · have q1 : ((bt.toNat : Int) == 36) = false := by rw [h]; rfl
      have q2 : ((bt.toNat : Int) == 181) = true := by rw [h]; rfl
      clear h
      go_enter Try.func7, Try.ntmps7
      go_wp2_with (first | (go_at_call 21; go_must (refine (ring_new_ok 4096 _ (by decide) (by decide)).mono ?_; rintro e w1 ⟨g, rfl, hr1, hg1, hb1⟩; have B1 := Lib.hid hb1; clear hr1 hg1 hb1)) | (go_at_call 22; go_must (refine (known_any _).mono ?_; rintro e w2 ⟨rfl, hb2⟩; have B2 := Lib.hid hb2; clear hb2)))
      go_ret
      exact ⟨rfl, (by repeat (first | with_reducible exact B1.out | with_reducible exact Below.refl _ _ | with_reducible refine below_drew1 ?_ | with_reducible refine below_drewN1 ?_ _ | with_reducible refine below_alloc1 ?_ _ | with_reducible refine below_setb (by first | exact Nat.le_refl _ | omega) ?_ | with_reducible refine below_step ?_ B2.out))⟩
    · have q1 : ((bt.toNat : Int) == 36) = false := by rw [h]; rfl
      have q2 : ((bt.toNat : Int) == 181) = false := by rw [h]; rfl
      have q3 : ((bt.toNat : Int) == 160) = true := by rw [h]; rfl
      clear h
      go_enter Try.func7, Try.ntmps7
      go_wp2_with (first | (go_at_call 21; go_must (refine (ring_new_ok 4096 _ (by decide) (by decide)).mono ?_; rintro e w1 ⟨g, rfl, hr1, hg1, hb1⟩; have B1 := Lib.hid hb1; clear hr1 hg1 hb1)) | (go_at_call 22; go_must (refine (known_any _).mono ?_; rintro e w2 ⟨rfl, hb2⟩; have B2 := Lib.hid hb2; clear hb2)))
      go_ret
      exact ⟨rfl, (by repeat (first | with_reducible exact B1.out | with_reducible exact Below.refl _ _ | with_reducible refine below_drew1 ?_ | with_reducible refine below_drewN1 ?_ _ | with_reducible refine below_alloc1 ?_ _ | with_reducible refine below_setb (by first | exact Nat.le_refl _ | omega) ?_ | with_reducible refine below_step ?_ B2.out))⟩

set_option maxRecDepth 100000 in
set_option maxHeartbeats 1600000 in
theorem frameSide_any (v : Value) (L : List (Nat × List UInt8)) (bt : UInt8) (w : World) (hF : Fss w v L) (hk : ∀ x ∈ L, x.1 < 256) (h8 : L.length ≤ 8) (h1 : bt ≠ 36) (h2 : bt ≠ 181) (h3 : bt ≠ 160) :
    Calls Try.prog 7 #[v, bv bt] w fun e w' => e = .returned (.bool true) ∧ Below w.heap.size w w' := by
  obtain ⟨n, hn⟩ : ∃ n, n = L.length := ⟨_, rfl⟩
  obtain ⟨A, c, rfl, hle⟩ : ∃ A c, v = .slice A n c ∧ n ≤ c := by
    obtain ⟨A, c, rfl, hle, _⟩ := hF
    exact ⟨A, c, by rw [hn], by omega⟩
  have q1 : ((bt.toNat : Int) == 36) = false := neq_u8 h1 rfl
  have q2 : ((bt.toNat : Int) == 181) = false := neq_u8 h2 rfl
  have q3 : ((bt.toNat : Int) == 160) = false := neq_u8 h3 rfl
  have HF := Lib.hid hF
  have HK := Lib.hid hk
  have HN := Lib.hid hn
  have HX := Lib.hid (And.intro h1 (And.intro h2 h3))
  rw [← hn] at h8
  clear hF hk hn h1 h2 h3
  go_enter Try.func7, Try.ntmps7
  go_wp2_with (first | (go_at_call 21; go_must (refine (ring_new_ok 4096 _ (by decide) (by decide)).mono ?_; rintro e w1 ⟨g, rfl, hr1, hg1, hb1⟩; have hgl : g < w1.heap.size := hr1.lt; have R1 := Lib.hid hr1; have G1 := Lib.hid hg1; have B1 := Lib.hid hb1; clear hr1 hg1 hb1)))
  go_loopw [7, 42] (fun u i wr => SideTo g bt L w1.heap.size w wr u i) (fun _ i _ => n - (intOf i).toNat)
  case atStart => exact ⟨0, rfl, Nat.zero_le _, Nat.le_refl _, fun x hx => by simp at hx, World.ownsRow_nil _ _ _ _, R1.out, B1.out⟩
  case round =>
    obtain ⟨j, rfl, hj, hsz, hz, hO, hR, hB⟩ := hrel
    have hflen := flatF_le (bt := bt) (L.take j)
    rw [List.length_take, Nat.min_eq_left hj] at hflen
    rw [← HN.out] at hj
    have hfl2 : (flatF bt (L.take j)).length ≤ 8256 := by omega
    have HO := Lib.hid hO
    have HR := Lib.hid hR
    have HBL := Lib.hid hB
    have HZ := Lib.hid hz
    clear hO hR hB hz hflen
    by_cases hlt : j < n
    · have hjl : j < L.length := by rw [← HN.out]; exact hlt
      obtain ⟨gF, off, u, rfl, c0, c1, hu⟩ := (HF.out.below HBL.out).at_ hjl
      have hsucc := flatF_succ (bt := bt) hjl
      have hkj := HK.out L[j] (List.getElem_mem _)
      have htk : ∀ x ∈ L.take (j + 1), x ∈ L.take j ∨ x = L[j] := fun x hx => by
        rw [List.take_succ_eq_append_getElem hjl, List.mem_append, List.mem_singleton] at hx
        exact hx
      obtain ⟨⟨k, b⟩, hx⟩ : ∃ x, x = L[j] := ⟨_, rfl⟩
      rw [← hx] at c0 hu hsucc hkj htk
      simp only at c0 hu hsucc hkj
      obtain ⟨k8, hk8⟩ : ∃ k8 : UInt8, k8.toNat = k := ⟨UInt8.ofNat k, by rw [UInt8.toNat_ofNat']; omega⟩
      subst hk8
      obtain ⟨m, hm⟩ : ∃ m, m = b.length := ⟨_, rfl⟩
      obtain ⟨Au, cu, rfl, hnu, hu⟩ := hu.form hm.symm
      have i0 : (0 : Int) ≤ (j : Int) := by omega
      have i1 : (j : Int) < (n : Int) := by omega
      have HU := Lib.hid hu
      have HM := Lib.hid hm
      have HS := Lib.hid hsucc
      have HTK := Lib.hid htk
      clear hu hm hsucc htk hkj hx
      by_cases h20 : 2000 < m
      · have g20 : (2000 : Int) < m := by omega
        go_wp2_with (go_at_call 22; go_must (refine (known_any _).mono ?_; rintro e w2 ⟨rfl, hb2⟩; have B2 := Lib.hid hb2; clear hb2))
        go_ret
        exact ⟨rfl, (by repeat (first | with_reducible exact HBL.out | with_reducible exact Below.refl _ _ | with_reducible refine below_drew1 ?_ | with_reducible refine below_drewN1 ?_ _ | with_reducible refine below_alloc1 ?_ _ | with_reducible refine below_setb (by first | exact Nat.le_refl _ | omega) ?_ | with_reducible refine below_step ?_ B2.out))⟩
      · have g20 : ¬ (2000 : Int) < m := by omega
        have hfb := fun (W : World) h => frame_bytes k8 (.slice Au m cu) b W h (by rw [← HM.out]; omega)
        have hol := bytesM_le k8.toNat b
        obtain ⟨⟨out, r⟩, hr⟩ : ∃ r, r = bytesM k8.toNat b := ⟨_, rfl⟩
        have hs := HS.out
        rw [← hr] at hfb hs hol
        simp only at hs hol
        simp only [Bytesed] at hfb
        have HS2 := Lib.hid hs
        have HFB := Lib.hid hfb
        have HRR := Lib.hid hr
        clear hfb hr hs HS
        by_cases hr0 : r = 0
        · have hrz : ((r : Int) != 0) = false := by simp [hr0]
          have HR0 := Lib.hid hr0
          clear hr0
          have tok1 : True := trivial
          go_wp2_with (first | (go_at_call 32; go_must (refine (HFB.out _ (HU.out.alloc _)).mono ?_; rintro e w2 ⟨⟨v2, rfl, hv2, fv2⟩, hb2⟩; have B2 := Lib.hid ((by repeat (first | with_reducible exact HBL.out | with_reducible exact Below.refl _ _ | with_reducible refine below_drew1 ?_ | with_reducible refine below_drewN1 ?_ _ | with_reducible refine below_alloc1 ?_ _ | with_reducible refine below_setb (by first | exact Nat.le_refl _ | omega) ?_ | with_reducible refine below_step ?_ hb2)) : Below w.heap.size w w2); have O2 := Lib.hid ((HO.out.alloc _).below hb2); have R2 := Lib.hid ((HR.out.alloc _).below hb2); have V2 := Lib.hid hv2; have F2 := Lib.hid fv2; have s2 := hb2.size; clear hv2 fv2 hb2 c0 c1)) | (at_builtin; have tk := tok1; clear tk tok1; go_must (refine wpList_append_byte rfl (.tmp 59) (.tmp 61) rfl w1.heap.size u7 (flatF bt (L.take j)) rfl (O2.out.alloc _) w2.heap.size bt rfl (cell_new _ _ _) (by omega) (by simp at s2 ⊢; omega) ?_; intro v3 w3 ho3 hg3; have B3 := Lib.hid (Below.grown (by repeat (first | with_reducible exact B2.out | with_reducible exact Below.refl _ _ | with_reducible refine below_drew1 ?_ | with_reducible refine below_drewN1 ?_ _ | with_reducible refine below_alloc1 ?_ _ | with_reducible refine below_setb (by first | exact Nat.le_refl _ | omega) ?_)) hg3 (by have := B2.out.size; simp; omega) (fun x hx => by have h1 := (O2.out.lt x hx).1; have h2 := B1.out.size; omega) : Below w.heap.size w w3); have O3 := Lib.hid ho3; have R3 := Lib.hid ((R2.out.alloc _).heap_eq (hg3.block g (by have := R2.out.lt; simp; omega) (fun e => by have h1 := (O2.out.lt g e.symm).1; omega))); have V3 := Lib.hid ((V2.out.alloc _).grown hg3 (fun x hx e => by have h1 := F2.out x hx; have h2 := (HO.out.lt x e).2; simp at h1; omega)); have s3 := hg3.size; clear ho3 hg3; have tok2 : True := trivial)) | (at_builtin; have tk := tok2; clear tk tok2; go_must (refine wpList_append_bytes rfl (.tmp 62) (.tmp 63) rfl w1.heap.size v3 v2 (flatF bt (L.take j) ++ [bt]) out rfl O3.out rfl V3.out (by rw [List.length_append, List.length_cons, List.length_nil]; omega) (by simp at s2 s3; omega) ?_; intro v4 w4 ho4 hg4)))
          go_roundw
          case rel =>
            refine ⟨j + 1, by go_num, by rw [← HN.out]; omega, by have := hg4.size; simp at s2 s3; omega, fun x hx => ?_, by rw [HS2.out]; exact ho4, R3.out.heap_eq (hg4.block g (by have := R3.out.lt; omega) (fun e => by have h1 := (O3.out.lt g e.symm).1; omega)), B3.out.grown hg4 (by have := B3.out.size; omega) (fun x hx => by have h1 := (O3.out.lt x hx).1; have h2 := B1.out.size; omega)⟩
            rcases HTK.out x hx with h | rfl
            · exact HZ.out x h
            · show (bytesM k8.toNat b).2 = 0
              rw [← HRR.out]; exact HR0.out
          case measure => simp [intOf]; omega
        · have hrz : ((r : Int) != 0) = true := by simp; omega
          go_wp2_with (first | (go_at_call 32; go_must (refine (HFB.out _ (HU.out.alloc _)).mono ?_; rintro e w2 ⟨⟨v2, rfl, hv2, fv2⟩, hb2⟩; have B2 := Lib.hid hb2; clear hv2 fv2 hb2 c0 c1)) | (go_at_call 22; go_must (refine (known_any _).mono ?_; rintro e w3 ⟨rfl, hb3⟩; have B3 := Lib.hid hb3; clear hb3)))
          go_ret
          exact ⟨rfl, (by repeat (first | with_reducible exact HBL.out | with_reducible exact Below.refl _ _ | with_reducible refine below_drew1 ?_ | with_reducible refine below_drewN1 ?_ _ | with_reducible refine below_alloc1 ?_ _ | with_reducible refine below_setb (by first | exact Nat.le_refl _ | omega) ?_ | with_reducible refine below_step ?_ B2.out | with_reducible refine below_step ?_ B3.out))⟩
    · obtain rfl : j = n := by omega
      have htl : L.take j = L := by rw [HN.out]; exact List.take_length
      have hO := HO.out
      have hz := HZ.out
      rw [htl] at hO hz hfl2
      obtain ⟨u7', cu7, rfl, hcu, hbs⟩ := hO.bs.form rfl
      obtain ⟨m, hm⟩ : ∃ m, m = (flatF bt L).length := ⟨_, rfl⟩
      rw [← hm] at hbs hcu hfl2 hO ⊢
      have HM := Lib.hid hm
      have HBS := Lib.hid hbs
      have HOO := Lib.hid hO
      clear hm hbs hO htl HO HZ
      by_cases h40 : 4000 < m
      · have g40 : (4000 : Int) < m := by omega
        clear hz
        go_wp2_with (go_at_call 22; go_must (refine (known_any _).mono ?_; rintro e w2 ⟨rfl, hb2⟩; have B2 := Lib.hid hb2; clear hb2))
        go_ret
        exact ⟨rfl, (by repeat (first | with_reducible exact HBL.out | with_reducible exact Below.refl _ _ | with_reducible refine below_drew1 ?_ | with_reducible refine below_drewN1 ?_ _ | with_reducible refine below_alloc1 ?_ _ | with_reducible refine below_setb (by first | exact Nat.le_refl _ | omega) ?_ | with_reducible refine below_step ?_ B2.out))⟩
      · have g40 : ¬ (4000 : Int) < m := by omega
        have hpl := putL_nil (size := 4096) (b := flatF bt L) (by rw [← HM.out]; omega) (by decide)
        have hll : L.length ≤ m := by
          rw [HM.out]; unfold flatF
          have : ∀ M : List (Nat × List UInt8), M.length ≤ (M.flatMap fun x => bt :: (bytesM x.1 x.2).1).length := fun M => by
            induction M with
            | nil => simp
            | cons x M ih => simp only [List.flatMap_cons, List.length_append, List.length_cons]; omega
          exact this L
        have hside := all_side HX.out.1 HX.out.2.1 HX.out.2.2 L (m + 1) hz (by omega)
        have hall := fun (W : World) lost h => all_any g 4096 (flatF bt L) lost W h (m + 1) (by rw [← HM.out]; omega)
        rw [hside] at hall
        simp only at hall
        have HPL := Lib.hid hpl
        have HALL := Lib.hid hall
        clear hpl hall hside hz hll
        have hdn : ((L.length : Int) == (j : Int)) = true := by rw [← HN.out]; simp
        go_wp2_with (first | (go_at_call 23; go_must (refine (ring_put g 4096 [] (flatF bt L) 0 (.slice u7' m cu7) _ HR.out HBS.out (by rw [← HM.out]; omega) (fun e => by have h1 := (HOO.out.lt g e).1; omega) (by decide)).mono ?_; rintro e w5 ⟨rfl, hr5, he5⟩; rw [HPL.out] at hr5; obtain ⟨ls, hr5⟩ : ∃ ls : Int, IsRing w5 g 4096 (flatF bt L) ls := ⟨_, hr5⟩; have R5 := Lib.hid hr5; have E5 := Lib.hid he5; clear hr5 he5)) | (go_at_call 29; go_must (refine (HALL.out _ _ R5.out).mono ?_; rintro e w7 ⟨u, F, rfl, hF, hlF, hr7, he7⟩; have E7 := Lib.hid (E5.out.same he7); have F7 := Lib.hid (hlF ▸ hF.fss : Fss w7 u L); obtain ⟨A7, c7, rfl⟩ := hF.form; have R7 := Lib.hid hr7; have B7 := Lib.hid (((Ext.of_below (S := OneB g) HBL.out).same (E5.out.same he7)).belowN (fun x hx e => by have h1 := G1.out; have : x = g := e; omega)); clear hF hlF hr7 he7)) | (go_at_call 27; go_must (refine (ref_same _ _ L L _ F7.out (HF.out.below B7.out) (by rw [← HN.out]; omega) (by rw [← HN.out]; omega)).mono ?_; rintro e w' ⟨rfl, nq, rfl⟩)) | (go_at_call 31; go_must (refine (ring_len g 4096 [] _ _ (R7.out.drewN _)).mono ?_; rintro e w' ⟨rfl, rfl⟩)) | (go_at_call 22; go_must (refine (known_any _).mono ?_; rintro e w9 ⟨rfl, hb9⟩; have B9 := Lib.hid hb9; clear hb9)))
        go_ret
        exact ⟨rfl, (by repeat (first | with_reducible exact B7.out | with_reducible exact Below.refl _ _ | with_reducible refine below_drew1 ?_ | with_reducible refine below_drewN1 ?_ _ | with_reducible refine below_alloc1 ?_ _ | with_reducible refine below_setb (by first | exact Nat.le_refl _ | omega) ?_ | with_reducible refine below_step ?_ B9.out))⟩
end Go.Proofs.Ytfgglffjigolhaa
