/- The document's frames: May, Digit, Bytes. -/
import Derived.Test.YtfgglffjigolhaaRefB
import Derived.Test.YtfgglffjigolhaaFrameE
namespace Go.Proofs.Ytfgglffjigolhaa
open Go.RowKit

theorem ref_may (b : UInt8) (w : World) : Calls Try.prog 74 #[bv b] w fun e w' => e = .returned (.bool (isBodyB b)) ∧ w = w' := by
  go_enter Try.func74, Try.ntmps74
  go_wp2
  all_goals (go_ret; exact ⟨ret_bool (by rw [Bool.eq_iff_iff]; simp [isBodyB]; omega), rfl⟩)
theorem ref_digit (n : Nat) (i : Int) (w : World) (hi : i = n) (hn : n < 16) : Calls Try.prog 76 #[.int .u8 i] w fun e w' => e = .returned (bv (hexD n)) ∧ w = w' := by
  subst hi
  by_cases h : n < 10
  · have e1 : ((hexD n).toNat : Int) = 48 + n := by unfold hexD; rw [if_pos h, Nat.toUInt8_eq, UInt8.toNat_ofNat']; omega
    go_enter Try.func76, Try.ntmps76
    go_wp2
    go_ret
    exact ⟨by simp [bv, e1], rfl⟩
  · have e1 : ((hexD n).toNat : Int) = 55 + n := by unfold hexD; rw [if_neg h, Nat.toUInt8_eq, UInt8.toNat_ofNat']; omega
    go_enter Try.func76, Try.ntmps76
    go_wp2
    go_ret
    exact ⟨by simp [bv, e1]; omega, rfl⟩
/-- A frame's bytes, or why it has none. -/
def bytesM (k : Nat) (b : List UInt8) : List UInt8 × Nat :=
  if k = 1 then (if 76 < b.length then ([], 3) else if b.all isBodyB = false then ([], 5) else (36 :: (b ++ tailM b), 0))
  else if k = 2 then (if b.length < 2 then ([], 4) else if 514 < b.length then ([], 3)
    else (181 :: 98 :: ((b.take 2 ++ ((b.length - 2).toUInt8 :: ((b.length - 2) / 256).toUInt8 :: b.drop 2)) ++
      [(fletL (b.take 2 ++ ((b.length - 2).toUInt8 :: ((b.length - 2) / 256).toUInt8 :: b.drop 2))).1, (fletL (b.take 2 ++ ((b.length - 2).toUInt8 :: ((b.length - 2) / 256).toUInt8 :: b.drop 2))).2]), 0))
  else if k = 3 then (if 1023 < b.length then ([], 3)
    else (160 :: 162 :: (b.length / 256).toUInt8 :: b.length.toUInt8 :: (b ++ [(fiftL b / 256).toUInt8, (fiftL b).toUInt8, 176, 179]), 0))
  else ([], 2)
/-- What Bytes tells. -/
def Bytesed (B : Nat) (w' : World) (e : Ending) (r : List UInt8 × Nat) : Prop := ∃ v, e = .returned (.tuple #[v, .int .i64 (r.2 : Int)]) ∧ Bs w' v r.1 ∧ Fresh B v
theorem own_madeg {w : World} {base : Nat} {cs : Array Value} {n g : Nat} {L : List UInt8} (hcs : cs.toList = L.map bv) (hb : base ≤ w.heap.size) (hn : n = L.length) (hm : n ≤ 140737488355328) (hg : g = w.heap.size) :
    OwnB (w.alloc (.cells cs 5)) base (.slice (some ⟨g, 0, none⟩) n n) L := by subst hg; exact own_made hcs hb hn hm
theorem made5 (w : World) (a b c d e : UInt8) : Bs (w.alloc (.cells #[bv a, bv b, bv c, bv d, bv e] 5)) (.slice (some ⟨w.heap.size, 0, none⟩) 5 5) [a, b, c, d, e] := (own_made (L := [a, b, c, d, e]) rfl (Nat.le_refl _) rfl (by simp)).bs
theorem made4 (w : World) (a b c d : UInt8) : Bs (w.alloc (.cells #[bv a, bv b, bv c, bv d] 5)) (.slice (some ⟨w.heap.size, 0, none⟩) 4 4) [a, b, c, d] := (own_made (L := [a, b, c, d]) rfl (Nat.le_refl _) rfl (by simp)).bs
theorem row_ge {B g l c : Nat} (h : B ≤ g) : ∀ k, (Value.slice (some ⟨g, 0, none⟩) l c).ownBlock = some k → B ≤ k := by
  intro k hk
  have : g = k := by simpa [Value.ownBlock] using hk
  omega
theorem all_take_succ {p : UInt8 → Bool} {b : List UInt8} {j : Nat} (hj : j < b.length) : (b.take (j + 1)).all p = ((b.take j).all p && p b[j]) := by
  rw [List.take_succ_eq_append_getElem hj, List.all_append]; simp

set_option maxRecDepth 100000 in
set_option maxHeartbeats 1600000 in
theorem ref_bytes (k : UInt8) (v : Value) (b : List UInt8) (w : World) (hB : Bs w v b) (hl : b.length ≤ 2000) :
    Calls Try.prog 33 #[.agg #[bv k, v]] w fun e w' => Bytesed w.heap.size w' e (bytesM k.toNat b) ∧ Below w.heap.size w w' := by
  obtain ⟨n, hn⟩ : ∃ n, n = b.length := ⟨_, rfl⟩
  obtain ⟨A, c, rfl, hle, hb⟩ := hB.form hn.symm
  have HB := Lib.hid (hb.alloc (.cells #[bv k, .slice A n c] 39))
  have HN := Lib.hid hn
  have HB0 := Lib.hid hb
  rw [← hn] at hl
  clear hB hb hn
  by_cases k1 : k = 1
  · subst k1
    have hm : bytesM (1 : UInt8).toNat b = (if 76 < b.length then ([], 3) else if b.all isBodyB = false then ([], 5) else (36 :: (b ++ tailM b), 0)) := rfl
    rw [hm, ← HN.out]
    clear hm
    by_cases h76 : 76 < n
    · rw [if_pos h76]
      go_enter Try.func33, Try.ntmps33
      go_wp2_with fail
      go_ret2
      exact ⟨⟨_, rfl, Bs.nil _, Fresh.nil _ _ _⟩, (Below.refl _ _).alloc (Nat.le_refl _) _⟩
    · rw [if_neg h76]
      have g76 : ¬ (76 : Int) < n := by omega
      obtain ⟨R, hR⟩ : ∃ R, R = (if b.all isBodyB = false then ([], 5) else (36 :: (b ++ tailM b), 0) : List UInt8 × Nat) := ⟨_, rfl⟩
      rw [← hR]
      have HR := Lib.hid hR
      clear hR
      go_enter Try.func33, Try.ntmps33
      go_wp2_with fail
      go_loop [6] (fun i => ∃ j : Nat, j ≤ n ∧ i = .int .i64 j ∧ (b.take j).all isBodyB = true) (fun i => n - (intOf i).toNat)
      case atStart => exact ⟨0, Nat.zero_le _, rfl, by simp⟩
      case round =>
        obtain ⟨j, hj, rfl, hall⟩ := hrel
        by_cases hlt : j < n
        · have hlt' : j < b.length := by rw [← HN.out]; exact hlt
          obtain ⟨g, off, rfl, hz, hcell⟩ := Bs.at_ HB.out hlt'
          clear hz
          have hts := all_take_succ (p := isBodyB) hlt'
          rw [hall, Bool.true_and] at hts
          have HTS := Lib.hid hts
          have HALL := Lib.hid hall
          clear hts hall
          by_cases hx : isBodyB b[j] = true
          · have HX := Lib.hid hx
            clear hx
            go_wp2_with (go_at_call 74; refine (ref_may b[j] _).mono ?_; rintro e w' ⟨rfl, rfl⟩; rw [HX.out])
            go_round
            case rel => exact ⟨j + 1, by omega, by go_num, by rw [HTS.out]; exact HX.out⟩
            case measure => simp [intOf]; omega
          · have hx' : isBodyB b[j] = false := by simpa using hx
            have hf : b.all isBodyB = false := by
              rw [List.all_eq_false]; exact ⟨b[j], List.getElem_mem _, by simp [hx']⟩
            have HX := Lib.hid hx'
            have HF := Lib.hid hf
            clear hx hx' hf
            go_wp2_with (go_at_call 74; refine (ref_may b[j] _).mono ?_; rintro e w' ⟨rfl, rfl⟩; rw [HX.out])
            go_ret2
            rw [HR.out, if_pos HF.out]
            exact ⟨⟨_, rfl, Bs.nil _, Fresh.nil _ _ _⟩, (Below.refl _ _).alloc (Nat.le_refl _) _⟩
        · obtain rfl : j = n := by omega
          have ht : b.take j = b := by rw [HN.out]; exact List.take_length
          rw [ht] at hall
          have hr := HR.out
          rw [if_neg (by simp [hall])] at hr
          have HR2 := Lib.hid hr
          clear hr HR
          have hxor := ref_xor (.slice A j c) b _ HB.out (by rw [← HN.out]; omega)
          obtain ⟨x, hxx⟩ : ∃ x, x = xorL b := ⟨_, rfl⟩
          rw [← hxx] at hxor
          have hxl := UInt8.toNat_lt x
          obtain ⟨y1, hy1⟩ : ∃ y1, y1 = x.toNat / 16 := ⟨_, rfl⟩
          obtain ⟨y2, hy2⟩ : ∃ y2, y2 = x.toNat % 16 := ⟨_, rfl⟩
          have e1 : (x.toNat : Int) / 16 = (y1 : Int) := by omega
          have e2 : (x.toNat : Int) % 16 = (y2 : Int) := by omega
          have d1 := fun W => ref_digit y1 (y1 : Int) W rfl (by omega)
          have d2 := fun W => ref_digit y2 (y2 : Int) W rfl (by omega)
          have htl : tailM b = [42, hexD y1, hexD y2, 13, 10] := by rw [hy1, hy2, hxx]; rfl
          obtain ⟨p, hp⟩ : ∃ p, p = hexD y1 := ⟨_, rfl⟩
          obtain ⟨q, hq⟩ : ∃ q, q = hexD y2 := ⟨_, rfl⟩
          rw [← hp, ← hq] at htl
          rw [← hp] at d1
          rw [← hq] at d2
          have HXO := Lib.hid hxor
          have D1 := Lib.hid d1
          have D2 := Lib.hid d2
          have HT := Lib.hid htl
          have HX := Lib.hid (And.intro hxx (And.intro hp (And.intro hq (And.intro hy1 hy2))))
          have HZ := Lib.hid (show ([36] : List UInt8).length + b.length ≤ 140737488355328 by rw [← HN.out]; simp; omega)
          have HZ2 := Lib.hid (show ([36] ++ b : List UInt8).length + ([42, p, q, 13, 10] : List UInt8).length ≤ 140737488355328 by rw [List.length_append, ← HN.out]; simp; omega)
          clear hxor d1 d2 htl hxx hp hq ht hall hy1 hy2
          have tok1 : True := trivial
          have tokd1 : True := trivial
          go_wp2_with (first | (at_builtin; have tk := tok1; clear tk tok1; go_must (refine wpList_append_bytes rfl (.tmp 36) (.tmp 38) rfl w.heap.size (.slice (some ⟨w.heap.size + 1, 0, none⟩) 1 1) (.slice A j c) [36] b rfl (own_madeg (L := [36]) rfl (by simp <;> omega) rfl (by simp) (by simp)) rfl (HB.out.alloc _) HZ.out (by simp <;> omega) ?_; intro v1 w1 ho1 hg1; have B1 := Lib.hid ((((Below.refl _ _).alloc (Nat.le_refl _) _).alloc (by simp) _).grown hg1 (by simp <;> omega) (by simp [Value.ownBlock] <;> omega) : Below w.heap.size w w1); have O1 := Lib.hid ho1; clear ho1 hg1; have M5 := Lib.hid (made5 w1 42 p q 13 10); have tok2 : True := trivial)) | (at_builtin; have tk := tok2; clear tk tok2; go_must (refine wpList_append_bytes rfl (.tmp 40) (.tmp 47) rfl w.heap.size v1 (.slice (some ⟨w1.heap.size, 0, none⟩) 5 5) ([36] ++ b) [42, p, q, 13, 10] rfl (O1.out.alloc _) rfl M5.out HZ2.out (by have := B1.out.size; simp <;> omega) ?_; intro v3 w3 ho3 hg3; have B3 := Lib.hid ((B1.out.alloc B1.out.size _).grown hg3 (by have := B1.out.size; simp <;> omega) (fun b hb => (O1.out.lt b hb).1) : Below w.heap.size w w3); have O3 := Lib.hid ho3; clear ho3 hg3)) | (go_at_call 75; go_must (refine HXO.out.mono ?_; rintro e w' ⟨rfl, rfl⟩)) | (go_at_call 76; have tk := tokd1; clear tk tokd1; go_must (refine (D1.out _).mono ?_; rintro e w' ⟨rfl, rfl⟩)) | (go_at_call 76; go_must (refine (D2.out _).mono ?_; rintro e w' ⟨rfl, rfl⟩)))
          go_ret2
          rw [HR2.out, HT.out]
          exact ⟨⟨_, rfl, O3.out.bs, O3.out.fresh (Nat.le_refl _)⟩, B3.out⟩
  · have q1 : ((k.toNat : Int) == 1) = false := neq_u8 k1 rfl
    have n1 : ¬ k.toNat = 1 := fun e => k1 (UInt8.toNat_inj.mp e)
    unfold bytesM
    rw [if_neg n1, ← HN.out]
    clear k1 n1
    by_cases k2 : k = 2
    · subst k2
      clear q1
      rw [if_pos (show UInt8.toNat 2 = 2 from rfl)]
      by_cases h2 : n < 2
      · rw [if_pos h2]
        have g2 : (n : Int) < 2 := by omega
        go_enter Try.func33, Try.ntmps33
        go_wp2_with fail
        go_ret2
        exact ⟨⟨_, rfl, Bs.nil _, Fresh.nil _ _ _⟩, (Below.refl _ _).alloc (Nat.le_refl _) _⟩
      · rw [if_neg h2]
        have g2 : ¬ (n : Int) < 2 := by omega
        by_cases h5 : 514 < n
        · rw [if_pos h5]
          have g5 : (512 : Int) < (n : Int) - 2 := by omega
          go_enter Try.func33, Try.ntmps33
          go_wp2_with fail
          go_ret2
          exact ⟨⟨_, rfl, Bs.nil _, Fresh.nil _ _ _⟩, (Below.refl _ _).alloc (Nat.le_refl _) _⟩
        · rw [if_neg h5]
          have g5 : ¬ (512 : Int) < (n : Int) - 2 := by omega
          obtain ⟨x0, x1, b', hbb⟩ : ∃ x0 x1 b', b = x0 :: x1 :: b' := by
            have := HN.out
            match b with
            | x0 :: x1 :: b' => exact ⟨x0, x1, b', rfl⟩
            | [_] => simp at this; omega
            | [] => simp at this; omega
          have hc0 := HB.out.at_ (k := 0) (by rw [← HN.out]; omega)
          have hc1 := HB.out.at_ (k := 1) (by rw [← HN.out]; omega)
          have hdr := HB0.out.drop (k := 2) (by rw [← HN.out]; omega)
          have hbl := HN.out
          subst hbb
          simp only [List.drop_succ_cons, List.drop_zero, List.take_succ_cons, List.take_zero, List.cons_append, List.nil_append, List.getElem_cons_zero, List.getElem_cons_succ] at hc0 hc1 hdr ⊢
          obtain ⟨lo, hlo⟩ : ∃ lo, lo = (n - 2).toUInt8 := ⟨_, rfl⟩
          obtain ⟨hi, hhi⟩ : ∃ hi, hi = ((n - 2) / 256).toUInt8 := ⟨_, rfl⟩
          rw [← hlo, ← hhi]
          have e1 : ((n : Int) - 2) % 256 = (lo.toNat : Int) := by rw [hlo, Nat.toUInt8_eq, UInt8.toNat_ofNat']; omega
          have e2 : ((n : Int) - 2) / 256 = (hi.toNat : Int) := by rw [hhi, Nat.toUInt8_eq, UInt8.toNat_ofNat']; omega
          have w1 : IntKind.i64.wrap ((n : Int) - 2) = (n : Int) - 2 := IntWalk.i64_in _ (by omega)
          have w2 : ((n : Int) - 2).tmod 256 = (lo.toNat : Int) := by rw [Int.tmod_eq_emod_of_nonneg (by omega)]; exact e1
          have w3 : ((n : Int) - 2).tdiv 256 = (hi.toNat : Int) := by rw [Int.tdiv_eq_ediv_of_nonneg (by omega)]; exact e2
          have w4 : IntKind.u8.wrap (lo.toNat : Int) = (lo.toNat : Int) := IntWalk.u8_in _ (by have := UInt8.toNat_lt lo; omega)
          have w5 : IntKind.i64.wrap (hi.toNat : Int) = (hi.toNat : Int) := IntWalk.i64_in _ (by have := UInt8.toNat_lt hi; omega)
          have w6 : IntKind.u8.wrap (hi.toNat : Int) = (hi.toNat : Int) := IntWalk.u8_in _ (by have := UInt8.toNat_lt hi; omega)
          obtain ⟨gb, off, hA, hz, hc0⟩ := hc0
          clear hz
          subst hA
          obtain ⟨gb', off', hA, hz, hc1⟩ := hc1
          clear hz
          obtain ⟨rfl, rfl⟩ : gb = gb' ∧ off = off' := by simpa using hA
          clear hA
          rw [Nat.add_zero] at hc0
          have HC0 := Lib.hid hc0
          have HC1 := Lib.hid hc1
          have hfl := fun (W : World) v h => ref_fletcher v (x0 :: x1 :: lo :: hi :: b') W h (by simp only [List.length_cons] at hbl ⊢; omega)
          obtain ⟨⟨p, q⟩, hpq⟩ : ∃ r, r = fletL (x0 :: x1 :: lo :: hi :: b') := ⟨_, rfl⟩
          rw [← hpq] at hfl ⊢
          have HFL := Lib.hid hfl
          have HP := Lib.hid (And.intro hlo (And.intro hhi hpq))
          have HBL := Lib.hid hbl
          clear hfl hlo hhi hpq hbl h2 h5
          by_cases hc2 : c = 2
          · subst hc2
            have hdr2 : Bs w (.slice (some ⟨gb, off, none⟩) (n - 2) 0) b' := by rw [if_pos rfl] at hdr; exact hdr
            have DR := Lib.hid hdr2
            clear hdr hdr2
            have i1 : (1 : Int) < (n : Int) := by omega
            have i0 : (0 : Int) < (n : Int) := by omega
            have i00 : 0 < n := by omega
            have i2 : (2 : Int) ≤ (n : Int) := by omega
            have HZ := Lib.hid (show ([x0, x1, lo, hi] : List UInt8).length + b'.length ≤ 140737488355328 by have := HBL.out; simp only [List.length_cons] at this; simp only [List.length_cons, List.length_nil]; omega)
            have HZ2 := Lib.hid (show ([181, 98] : List UInt8).length + ([x0, x1, lo, hi] ++ b').length ≤ 140737488355328 by have := HBL.out; simp only [List.length_cons] at this; simp only [List.length_append, List.length_cons, List.length_nil]; omega)
            have HZ3 := Lib.hid (show ([181, 98] ++ ([x0, x1, lo, hi] ++ b')).length + ([p, q] : List UInt8).length ≤ 140737488355328 by have := HBL.out; simp only [List.length_cons] at this; simp only [List.length_append, List.length_cons, List.length_nil]; omega)
            go_enter Try.func33, Try.ntmps33
            go_wp2_with fail
            go_region_held3 (fun w' => w'.cell? ⟨w.heap.size, 1, none⟩ = some (.slice (some ⟨gb, off, none⟩) n 2) ∧ w'.cell? ⟨gb, off, none⟩ = some (bv x0) ∧ w'.cell? ⟨gb, off + 1, none⟩ = some (bv x1)) (first | go_keep | exact ⟨begun_cell B1.out 1 rfl, below_keep B1.out HC0.out, below_keep B1.out HC1.out⟩)
              (first | (refine step_append_bytes rfl (.tmp 72) (.tmp 75) rfl w.heap.size _ (.slice (some ⟨gb, off, none⟩) (n - 2) 0) [x0, x1, lo, hi] b' rfl (own_madeg (L := [x0, x1, lo, hi]) rfl (by simp <;> omega) rfl (by simp) (by simp)) rfl (by repeat (any_goals (first | with_reducible exact DR.out | with_reducible exact DR.out.bs | with_reducible refine Bs.drew ?_ | with_reducible refine Bss.drew ?_ | with_reducible refine IsRing.drew ?_ | with_reducible refine Bs.drewN ?_ _ | with_reducible refine Bss.drewN ?_ _ | with_reducible refine IsRing.drewN ?_ _ | (with_reducible refine own2_bsi ?_ ?_ ?_; focus (simp; done)) | (with_reducible refine own1_bsi ?_ ?_; focus (simp; done)) | (with_reducible refine own4_bsi ?_ ?_ ?_ ?_ ?_; focus (simp; done)) | with_reducible rfl | with_reducible assumption | (with_reducible refine Bss.made2g 30 ?_ ?_ ?_; focus (simp; done)) | (with_reducible refine Bss.made3g 30 ?_ ?_ ?_ ?_; focus (simp; done)) | with_reducible refine Bs.alloc ?_ _ | with_reducible refine Bss.alloc ?_ _ | with_reducible refine IsRing.alloc ?_ _ | rfl))) HZ.out (by simp <;> omega) ?_; intro v1 w1 ho1 hg1; have B1 := Lib.hid (Below.grown (by repeat (first | with_reducible exact Below.refl _ _ | with_reducible exact Below.refl _ _ | with_reducible refine below_drew1 ?_ | with_reducible refine below_drewN1 ?_ _ | with_reducible refine below_alloc1 ?_ _ | with_reducible refine below_setb (by first | exact Nat.le_refl _ | omega) ?_)) hg1 (by simp <;> omega) (row_ge (by simp <;> omega)) : Below (w.alloc (.cells #[bv 2, .slice (some ⟨gb, off, none⟩) n 2] 39)).heap.size (w.alloc (.cells #[bv 2, .slice (some ⟨gb, off, none⟩) n 2] 39)) w1); have O1 := Lib.hid ho1; clear ho1 hg1))
            obtain rfl : b' = [] := by
              have := HN.out
              simp only [List.length_cons] at this
              exact List.eq_nil_of_length_eq_zero (by omega)
            obtain ⟨v1, hv1⟩ : ∃ v1, v1 = Value.slice (some ⟨w.heap.size + 1, 0, none⟩) 4 4 := ⟨_, rfl⟩
            obtain ⟨w1, hw1⟩ : ∃ w1, w1 = ((w.alloc (.cells #[bv 2, .slice (some ⟨gb, off, none⟩) n 2] 39)).alloc (.cells #[bv x0, bv x1, bv lo, bv hi] 5)).drew := ⟨_, rfl⟩
            have B1 : Hid (Below (w.alloc (.cells #[bv 2, .slice (some ⟨gb, off, none⟩) n 2] 39)).heap.size (w.alloc (.cells #[bv 2, .slice (some ⟨gb, off, none⟩) n 2] 39)) w1) := Lib.hid (by rw [hw1]; exact ((Below.refl _ _).alloc (Nat.le_refl _) _).drew)
            have O1 : Hid (OwnB w1 w.heap.size v1 ([x0, x1, lo, hi] ++ [])) := Lib.hid (by rw [hw1, hv1]; exact (own_madeg (L := [x0, x1, lo, hi]) rfl (by simp <;> omega) rfl (by simp) (by simp)).drew)
            rw [← hv1]
            change Exit.then _ _ _ _ (((w.alloc (.cells #[bv 2, .slice (some ⟨gb, off, none⟩) n 2] 39)).alloc (.cells #[bv x0, bv x1, bv lo, bv hi] 5)).drew)
            rw [← hw1]
            have HVW := Lib.hid (And.intro hv1 hw1)
            clear hv1 hw1
            all_goals (have B2 := Lib.hid (below_unalloc B1.out); have M2 := Lib.hid (own_made (w := w1) (base := w.heap.size) (n := 2) (L := [181, 98]) (cs := #[bv 181, bv 98]) rfl B2.out.size rfl (by simp)); have tok1 : True := trivial; clear HC0 HC1 hc0 hc1)
            all_goals go_wp2_with (first | (go_at_call 77; go_must (refine (HFL.out _ _ O1.out.bs).mono ?_; rintro e w' ⟨rfl, rfl⟩)) | (at_builtin; have tk := tok1; clear tk tok1; go_must (refine wpList_append_bytes rfl (.tmp 82) (.tmp 83) rfl w.heap.size (.slice (some ⟨w1.heap.size, 0, none⟩) 2 2) v1 [181, 98] ([x0, x1, lo, hi] ++ ([] : List UInt8)) rfl M2.out rfl (O1.out.bs.alloc _) HZ2.out (by have := B2.out.size; simp <;> omega) ?_; intro v5 w5 ho5 hg5; have B5 := Lib.hid ((B2.out.alloc B2.out.size _).grown hg5 (by have := B2.out.size; simp <;> omega) (row_ge B2.out.size) : Below w.heap.size w w5); have O5 := Lib.hid ho5; clear ho5 hg5; have M5 := Lib.hid (own2_bs w5 p q); have tok2 : True := trivial)) | (at_builtin; have tk := tok2; clear tk tok2; go_must (refine wpList_append_bytes rfl (.tmp 85) (.tmp 88) rfl w.heap.size v5 (.slice (some ⟨w5.heap.size, 0, none⟩) 2 2) ([181, 98] ++ ([x0, x1, lo, hi] ++ ([] : List UInt8))) [p, q] rfl (O5.out.alloc _) rfl M5.out HZ3.out (by have := B5.out.size; simp <;> omega) ?_; intro v6 w6 ho6 hg6; have B6 := Lib.hid ((B5.out.alloc B5.out.size _).grown hg6 (by have := B5.out.size; simp <;> omega) (fun b hb => (O5.out.lt b hb).1) : Below w.heap.size w w6); have O6 := Lib.hid ho6; clear ho6 hg6)))
            all_goals go_ret2
            all_goals exact ⟨⟨_, rfl, O6.out.bs, O6.out.fresh (Nat.le_refl _)⟩, B6.out⟩
          · rw [if_neg hc2] at hdr
            have hdr2 : Bs w (.slice (some ⟨gb, off + 2, none⟩) (n - 2) (c - 2)) b' := hdr
            have DR := Lib.hid hdr2
            clear hdr hdr2
            have i1 : (1 : Int) < (n : Int) := by omega
            have i0 : (0 : Int) < (n : Int) := by omega
            have i00 : 0 < n := by omega
            have i2 : (2 : Int) ≤ (n : Int) := by omega
            have HZ := Lib.hid (show ([x0, x1, lo, hi] : List UInt8).length + b'.length ≤ 140737488355328 by have := HBL.out; simp only [List.length_cons] at this; simp only [List.length_cons, List.length_nil]; omega)
            have HZ2 := Lib.hid (show ([181, 98] : List UInt8).length + ([x0, x1, lo, hi] ++ b').length ≤ 140737488355328 by have := HBL.out; simp only [List.length_cons] at this; simp only [List.length_append, List.length_cons, List.length_nil]; omega)
            have HZ3 := Lib.hid (show ([181, 98] ++ ([x0, x1, lo, hi] ++ b')).length + ([p, q] : List UInt8).length ≤ 140737488355328 by have := HBL.out; simp only [List.length_cons] at this; simp only [List.length_append, List.length_cons, List.length_nil]; omega)
            go_enter Try.func33, Try.ntmps33
            go_wp2_with fail
            go_region_held3 (fun w' => w'.cell? ⟨w.heap.size, 1, none⟩ = some (.slice (some ⟨gb, off, none⟩) n c) ∧ w'.cell? ⟨gb, off, none⟩ = some (bv x0) ∧ w'.cell? ⟨gb, off + 1, none⟩ = some (bv x1)) (first | go_keep | exact ⟨begun_cell B1.out 1 rfl, below_keep B1.out HC0.out, below_keep B1.out HC1.out⟩)
              (first | (refine step_append_bytes rfl (.tmp 72) (.tmp 75) rfl w.heap.size _ (.slice (some ⟨gb, off + 2, none⟩) (n - 2) (c - 2)) [x0, x1, lo, hi] b' rfl (own_madeg (L := [x0, x1, lo, hi]) rfl (by simp <;> omega) rfl (by simp) (by simp)) rfl (by repeat (any_goals (first | with_reducible exact DR.out | with_reducible exact DR.out.bs | with_reducible refine Bs.drew ?_ | with_reducible refine Bss.drew ?_ | with_reducible refine IsRing.drew ?_ | with_reducible refine Bs.drewN ?_ _ | with_reducible refine Bss.drewN ?_ _ | with_reducible refine IsRing.drewN ?_ _ | (with_reducible refine own2_bsi ?_ ?_ ?_; focus (simp; done)) | (with_reducible refine own1_bsi ?_ ?_; focus (simp; done)) | (with_reducible refine own4_bsi ?_ ?_ ?_ ?_ ?_; focus (simp; done)) | with_reducible rfl | with_reducible assumption | (with_reducible refine Bss.made2g 30 ?_ ?_ ?_; focus (simp; done)) | (with_reducible refine Bss.made3g 30 ?_ ?_ ?_ ?_; focus (simp; done)) | with_reducible refine Bs.alloc ?_ _ | with_reducible refine Bss.alloc ?_ _ | with_reducible refine IsRing.alloc ?_ _ | rfl))) HZ.out (by simp <;> omega) ?_; intro v1 w1 ho1 hg1; have B1 := Lib.hid (Below.grown (by repeat (first | with_reducible exact Below.refl _ _ | with_reducible exact Below.refl _ _ | with_reducible refine below_drew1 ?_ | with_reducible refine below_drewN1 ?_ _ | with_reducible refine below_alloc1 ?_ _ | with_reducible refine below_setb (by first | exact Nat.le_refl _ | omega) ?_)) hg1 (by simp <;> omega) (row_ge (by simp <;> omega)) : Below (w.alloc (.cells #[bv 2, .slice (some ⟨gb, off, none⟩) n c] 39)).heap.size (w.alloc (.cells #[bv 2, .slice (some ⟨gb, off, none⟩) n c] 39)) w1); have O1 := Lib.hid ho1; clear ho1 hg1))
            all_goals (have B2 := Lib.hid (below_unalloc B1.out); have M2 := Lib.hid (own_made (w := w1) (base := w.heap.size) (n := 2) (L := [181, 98]) (cs := #[bv 181, bv 98]) rfl B2.out.size rfl (by simp)); have tok1 : True := trivial; clear HC0 HC1 hc0 hc1)
            all_goals go_wp2_with (first | (go_at_call 77; go_must (refine (HFL.out _ _ O1.out.bs).mono ?_; rintro e w' ⟨rfl, rfl⟩)) | (at_builtin; have tk := tok1; clear tk tok1; go_must (refine wpList_append_bytes rfl (.tmp 82) (.tmp 83) rfl w.heap.size (.slice (some ⟨w1.heap.size, 0, none⟩) 2 2) v1 [181, 98] ([x0, x1, lo, hi] ++ b') rfl M2.out rfl (O1.out.bs.alloc _) HZ2.out (by have := B2.out.size; simp <;> omega) ?_; intro v5 w5 ho5 hg5; have B5 := Lib.hid ((B2.out.alloc B2.out.size _).grown hg5 (by have := B2.out.size; simp <;> omega) (row_ge B2.out.size) : Below w.heap.size w w5); have O5 := Lib.hid ho5; clear ho5 hg5; have M5 := Lib.hid (own2_bs w5 p q); have tok2 : True := trivial)) | (at_builtin; have tk := tok2; clear tk tok2; go_must (refine wpList_append_bytes rfl (.tmp 85) (.tmp 88) rfl w.heap.size v5 (.slice (some ⟨w5.heap.size, 0, none⟩) 2 2) ([181, 98] ++ ([x0, x1, lo, hi] ++ b')) [p, q] rfl (O5.out.alloc _) rfl M5.out HZ3.out (by have := B5.out.size; simp <;> omega) ?_; intro v6 w6 ho6 hg6; have B6 := Lib.hid ((B5.out.alloc B5.out.size _).grown hg6 (by have := B5.out.size; simp <;> omega) (fun b hb => (O5.out.lt b hb).1) : Below w.heap.size w w6); have O6 := Lib.hid ho6; clear ho6 hg6)))
            all_goals go_ret2
            all_goals exact ⟨⟨_, rfl, O6.out.bs, O6.out.fresh (Nat.le_refl _)⟩, B6.out⟩
    · have q2 : ((k.toNat : Int) == 2) = false := neq_u8 k2 rfl
      have n2 : ¬ k.toNat = 2 := fun e => k2 (UInt8.toNat_inj.mp e)
      rw [if_neg n2]
      clear k2 n2
      by_cases k3 : k = 3
      · subst k3
        clear q1 q2
        rw [if_pos (show UInt8.toNat 3 = 3 from rfl)]
        by_cases h1 : 1023 < n
        · rw [if_pos h1]
          have g1 : (1023 : Int) < n := by omega
          go_enter Try.func33, Try.ntmps33
          go_wp2_with fail
          go_ret2
          exact ⟨⟨_, rfl, Bs.nil _, Fresh.nil _ _ _⟩, (Below.refl _ _).alloc (Nat.le_refl _) _⟩
        · rw [if_neg h1]
          have g1 : ¬ (1023 : Int) < n := by omega
          have hf := ref_fifteen (.slice A n c) b _ HB.out (by rw [← HN.out]; omega)
          have hfl := fiftL_lt b
          obtain ⟨x, hx⟩ : ∃ x, x = fiftL b := ⟨_, rfl⟩
          rw [← hx] at hf hfl ⊢
          obtain ⟨p, hp⟩ : ∃ p, p = (x / 256).toUInt8 := ⟨_, rfl⟩
          obtain ⟨q, hq⟩ : ∃ q, q = x.toUInt8 := ⟨_, rfl⟩
          obtain ⟨r, hr⟩ : ∃ r, r = (n / 256).toUInt8 := ⟨_, rfl⟩
          obtain ⟨t, ht⟩ : ∃ t, t = n.toUInt8 := ⟨_, rfl⟩
          rw [← hp, ← hq, ← hr, ← ht]
          have e1 : (x : Int) / 256 = (p.toNat : Int) := by rw [hp, Nat.toUInt8_eq, UInt8.toNat_ofNat']; omega
          have e2 : (x : Int) % 256 = (q.toNat : Int) := by rw [hq, Nat.toUInt8_eq, UInt8.toNat_ofNat']; omega
          have e3 : (n : Int) / 256 = (r.toNat : Int) := by rw [hr, Nat.toUInt8_eq, UInt8.toNat_ofNat']; omega
          have e4 : (n : Int) % 256 = (t.toNat : Int) := by rw [ht, Nat.toUInt8_eq, UInt8.toNat_ofNat']; omega
          have HF := Lib.hid hf
          have HP := Lib.hid (And.intro hx (And.intro hp (And.intro hq (And.intro hr ht))))
          clear hf hx hp hq hr ht h1
          go_enter Try.func33, Try.ntmps33
          have HZ := Lib.hid (show ([160, 162, r, t] : List UInt8).length + b.length ≤ 140737488355328 by rw [← HN.out]; simp; omega)
          have HZ2 := Lib.hid (show ([160, 162, r, t] ++ b : List UInt8).length + ([p, q, 176, 179] : List UInt8).length ≤ 140737488355328 by rw [List.length_append, ← HN.out]; simp; omega)
          have M4 := Lib.hid (own_madeg (w := w.alloc (.cells #[bv 3, .slice A n c] 39)) (base := w.heap.size) (g := w.heap.size + 1) (n := 4) (L := [160, 162, r, t]) (cs := #[bv 160, bv 162, bv r, bv t]) rfl (by simp <;> omega) rfl (by simp) (by simp))
          have tok1 : True := trivial
          go_wp2_with (first | (at_builtin; have tk := tok1; clear tk tok1; go_must (refine wpList_append_bytes rfl (.tmp 103) (.tmp 105) rfl w.heap.size (.slice (some ⟨w.heap.size + 1, 0, none⟩) 4 4) (.slice A n c) [160, 162, r, t] b rfl M4.out rfl (HB.out.alloc _) HZ.out (by simp <;> omega) ?_; intro v1 w1 ho1 hg1; have B1 := Lib.hid ((((Below.refl _ _).alloc (Nat.le_refl _) _).alloc (by simp) _).grown hg1 (by simp <;> omega) (by simp [Value.ownBlock] <;> omega) : Below w.heap.size w w1); have O1 := Lib.hid ho1; clear ho1 hg1; have M5 := Lib.hid (made4 w1 p q 176 179); have tok2 : True := trivial)) | (at_builtin; have tk := tok2; clear tk tok2; go_must (refine wpList_append_bytes rfl (.tmp 107) (.tmp 114) rfl w.heap.size v1 (.slice (some ⟨w1.heap.size, 0, none⟩) 4 4) ([160, 162, r, t] ++ b) [p, q, 176, 179] rfl (O1.out.alloc _) rfl M5.out HZ2.out (by have := B1.out.size; simp <;> omega) ?_; intro v3 w3 ho3 hg3; have B3 := Lib.hid ((B1.out.alloc B1.out.size _).grown hg3 (by have := B1.out.size; simp <;> omega) (fun b hb => (O1.out.lt b hb).1) : Below w.heap.size w w3); have O3 := Lib.hid ho3; clear ho3 hg3)) | (go_at_call 78; go_must (refine HF.out.mono ?_; rintro e w' ⟨rfl, rfl⟩)))
          go_ret2
          exact ⟨⟨_, rfl, O3.out.bs, O3.out.fresh (Nat.le_refl _)⟩, B3.out⟩
      · have q3 : ((k.toNat : Int) == 3) = false := neq_u8 k3 rfl
        have n3 : ¬ k.toNat = 3 := fun e => k3 (UInt8.toNat_inj.mp e)
        rw [if_neg n3]
        clear k3 n3
        go_enter Try.func33, Try.ntmps33
        go_wp2_with fail
        go_ret2
        exact ⟨⟨_, rfl, Bs.nil _, Fresh.nil _ _ _⟩, (Below.refl _ _).alloc (Nat.le_refl _) _⟩
end Go.Proofs.Ytfgglffjigolhaa
