/- Frames, plainly: what the document says that bytes begin, is what the program says. -/
import Derived.Test.YtfgglffjigolhaaPureF
import Derived.Test.YtfgglffjigolhaaFrameI
namespace Go.Proofs.Ytfgglffjigolhaa

/-- What stands behind $: the body as far as it goes; is it there; can't it be. -/
def rscan : List UInt8 → List UInt8 → List UInt8 × Bool × Bool
  | [], acc => (acc, false, false)
  | x :: xs, acc => if isBodyB x = false then (acc, true, false) else if 76 < acc.length + 1 then (acc ++ [x], false, true) else rscan xs (acc ++ [x])
def refBodyM (size : Nat) (L : List UInt8) : Nat × List UInt8 × Bool × Bool :=
  match L with
  | [] => (0, [], false, true)
  | c :: xs =>
    if c = 36 then (1, rscan xs [])
    else if c = 181 then
      (if 1 < L.length ∧ L.getD 1 0 ≠ 98 then (2, [], false, true) else if L.length < 6 then (2, [], false, false)
       else if 512 < (L.getD 4 0).toNat + 256 * (L.getD 5 0).toNat ∨ size < (L.getD 4 0).toNat + 256 * (L.getD 5 0).toNat + 8 then (2, [], false, true)
       else if L.length < 6 + ((L.getD 4 0).toNat + 256 * (L.getD 5 0).toNat) then (2, [], false, false)
       else (2, L.getD 2 0 :: L.getD 3 0 :: (L.take (6 + ((L.getD 4 0).toNat + 256 * (L.getD 5 0).toNat))).drop 6, true, false))
    else if c = 160 then
      (if 1 < L.length ∧ L.getD 1 0 ≠ 162 then (3, [], false, true) else if L.length < 4 then (3, [], false, false)
       else if 1023 < 256 * (L.getD 2 0).toNat + (L.getD 3 0).toNat ∨ size < 256 * (L.getD 2 0).toNat + (L.getD 3 0).toNat + 8 then (3, [], false, true)
       else if L.length < 4 + (256 * (L.getD 2 0).toNat + (L.getD 3 0).toNat) then (3, [], false, false)
       else (3, (L.take (4 + (256 * (L.getD 2 0).toNat + (L.getD 3 0).toNat))).drop 4, true, false))
    else (0, [], false, true)
theorem rscan_nil (acc : List UInt8) : rscan [] acc = (acc, false, false) := rfl
theorem rscan_cons (x : UInt8) (xs acc : List UInt8) : rscan (x :: xs) acc = if isBodyB x = false then (acc, true, false) else if 76 < acc.length + 1 then (acc ++ [x], false, true) else rscan xs (acc ++ [x]) := rfl


/-- How far two lists go together. -/
def cpl : List UInt8 → List UInt8 → Nat
  | x :: xs, y :: ys => if x = y then cpl xs ys + 1 else 0
  | _, _ => 0
theorem cpl_nil (Y : List UInt8) : cpl [] Y = 0 := by unfold cpl; rfl
theorem cpl_nil' (x : UInt8) (X : List UInt8) : cpl (x :: X) [] = 0 := by unfold cpl; rfl
theorem cpl_cons (x y : UInt8) (X Y : List UInt8) : cpl (x :: X) (y :: Y) = if x = y then cpl X Y + 1 else 0 := by rw [cpl]
theorem cpl_le (X : List UInt8) : ∀ Y, cpl X Y ≤ X.length ∧ cpl X Y ≤ Y.length := by
  induction X with
  | nil => intro Y; rw [cpl_nil]; simp
  | cons x X ih =>
    intro Y
    cases Y with
    | nil => rw [cpl_nil']; simp
    | cons y Y =>
      rw [cpl_cons]
      have := ih Y
      simp only [List.length_cons]
      split <;> omega
theorem cpl_app (A X Y : List UInt8) : cpl (A ++ X) (A ++ Y) = A.length + cpl X Y := by
  induction A with
  | nil => simp
  | cons a A ih => simp only [List.cons_append, cpl_cons, if_true, ih, List.length_cons]; omega
theorem ends_cpl (xs : List UInt8) : ∀ (A Y : List UInt8), endsM (A ++ Y) A.length xs = if cpl xs Y = xs.length then 1 else if cpl xs Y < Y.length then 2 else 0 := by
  induction xs with
  | nil => intro A Y; rw [cpl_nil]; rfl
  | cons x xs ih =>
    intro A Y
    rw [endsM_cons]
    cases Y with
    | nil => rw [if_neg (by simp), cpl_nil', if_neg (by simp), if_neg (by simp)]
    | cons y Y =>
      rw [if_pos (by simp), show (A ++ y :: Y).getD A.length 0 = y by simp [List.getD], cpl_cons]
      by_cases h : y = x
      · subst h
        rw [if_pos rfl, if_pos rfl]
        have := ih (A ++ [y]) Y
        rw [List.append_assoc, List.length_append] at this
        simp only [List.cons_append, List.nil_append, List.length_cons, List.length_nil, Nat.zero_add] at this
        rw [this]
        simp only [List.length_cons, Nat.add_right_cancel_iff, Nat.add_lt_add_iff_right]
      · have h' : ¬ x = y := fun e => h e.symm
        rw [if_neg h, if_neg h', if_neg (by simp), if_pos (by simp)]

def refBeginM (size : Nat) (L : List UInt8) : Nat × Nat × Nat × List UInt8 :=
  if L = [] then (0, 0, 0, [])
  else if (refBodyM size L).2.2.2 = true then (2, 0, (refBodyM size L).1, (refBodyM size L).2.1)
  else if (refBodyM size L).2.2.1 = true ∧ cpl (bytesM (refBodyM size L).1 (refBodyM size L).2.1).1 L = (bytesM (refBodyM size L).1 (refBodyM size L).2.1).1.length then
    (1, (bytesM (refBodyM size L).1 (refBodyM size L).2.1).1.length, (refBodyM size L).1, (refBodyM size L).2.1)
  else if (refBodyM size L).2.2.1 = true ∧ cpl (bytesM (refBodyM size L).1 (refBodyM size L).2.1).1 L < L.length then (2, 0, (refBodyM size L).1, (refBodyM size L).2.1)
  else if L.length = size then (2, 0, (refBodyM size L).1, (refBodyM size L).2.1) else (0, 0, (refBodyM size L).1, (refBodyM size L).2.1)

/-- The two agree: on the state, and on the frame where it is whole. -/
def Agree (r s : Nat × Nat × Nat × List UInt8) : Prop := r.1 = s.1 ∧ (s.1 = 1 → r = s)

theorem scan_rscan (xs : List UInt8) : ∀ (ys acc : List UInt8), xs = acc ++ ys → acc.all isBodyB = true → acc.length ≤ 76 →
    ((rscan ys acc).2.1 = true → (rscan ys acc).2.2 = false ∧ scan (36 :: xs) (78 - acc.length) (1 + acc.length) = (1, (rscan ys acc).1.length + 1) ∧ (rscan ys acc).1.all isBodyB = true ∧ (rscan ys acc).1.length ≤ 76 ∧ ∃ R, xs = (rscan ys acc).1 ++ R) ∧
    ((rscan ys acc).2.2 = true → (scan (36 :: xs) (78 - acc.length) (1 + acc.length)).1 = 2) ∧
    ((rscan ys acc).2.1 = false → (rscan ys acc).2.2 = false → (scan (36 :: xs) (78 - acc.length) (1 + acc.length)).1 = 0) := by
  intro ys
  induction ys with
  | nil =>
    intro acc hx ha hl
    obtain ⟨f, hf⟩ : ∃ f, 78 - acc.length = f + 1 := ⟨77 - acc.length, by omega⟩
    rw [rscan_nil, hf, scan_succ, if_neg (by rw [hx]; simp; omega)]
    simp
  | cons y ys ih =>
    intro acc hx ha hl
    obtain ⟨f, hf⟩ : ∃ f, 78 - acc.length = f + 1 := ⟨77 - acc.length, by omega⟩
    have hg : (36 :: xs : List UInt8).getD (1 + acc.length) 0 = y := by rw [hx]; simp [List.getD, Nat.add_comm 1]
    rw [rscan_cons, hf, scan_succ, if_pos (show 1 + acc.length < (36 :: xs : List UInt8).length by rw [hx]; simp; omega), hg]
    by_cases hy : isBodyB y = false
    · rw [if_pos hy, if_neg (by rw [hy]; simp)]
      exact ⟨fun _ => ⟨rfl, (by simp; omega), ha, hl, y :: ys, hx⟩, fun h => (by cases h), fun h => (by cases h)⟩
    · have hy' : isBodyB y = true := by simpa using hy
      rw [if_neg hy, if_pos hy']
      by_cases h76 : 76 < acc.length + 1
      · rw [if_pos h76, if_pos (by omega)]
        exact ⟨fun h => (by cases h), fun _ => rfl, fun _ h => (by cases h)⟩
      · rw [if_neg h76, if_neg (by omega)]
        have := ih (acc ++ [y]) (by simp [hx]) (by rw [List.all_append, ha]; simp [hy']) (by simp; omega)
        rw [List.length_append, List.length_cons, List.length_nil, show 78 - (acc.length + (0 + 1)) = f by omega, show 1 + (acc.length + (0 + 1)) = 1 + acc.length + 1 by omega] at this
        exact this

theorem agree_of {size : Nat} {L A X Y b : List UInt8} {k : Nat} (hL : L = A ++ Y) (hne : L ≠ []) (hlen : L.length ≤ size) (hbody : refBodyM size L = (k, b, true, false)) (hby : bytesM k b = (A ++ X, 0))
    (hbeg : beginM size L = judge size L k (endsM L A.length X, A.length + X.length, b)) (hX : X ≠ []) : Agree (refBeginM size L) (beginM size L) := by
  have hc : cpl (A ++ X) L = A.length + cpl X Y := by rw [hL, cpl_app]
  have he : endsM L A.length X = if cpl X Y = X.length then 1 else if cpl X Y < Y.length then 2 else 0 := by rw [hL]; exact ends_cpl X A Y
  rw [hbeg, he]
  unfold refBeginM
  rw [if_neg hne, hbody]
  simp only [Bool.false_eq_true, if_false, true_and]
  rw [hby]
  simp only
  rw [hc, List.length_append]
  have hyl : L.length = A.length + Y.length := by rw [hL, List.length_append]
  unfold judge
  by_cases h1 : cpl X Y = X.length
  · rw [if_pos (by omega), if_pos h1]
    simp only
    rw [if_neg (fun h => by cases h.1)]
    exact ⟨rfl, fun _ => rfl⟩
  · rw [if_neg (by omega), if_neg h1]
    by_cases h2 : cpl X Y < Y.length
    · rw [if_pos (by omega), if_pos h2]
      simp only
      rw [if_neg (fun h => by cases h.1)]
      exact ⟨rfl, fun h => by cases h⟩
    · rw [if_neg (by omega), if_neg h2]
      simp only
      by_cases h3 : L.length = size
      · simp [Agree, h3]
      · simp [Agree, h3]
theorem agree_wrong {size : Nat} {L b : List UInt8} {k : Nat} {r : Nat × Nat × Nat × List UInt8} {there : Bool} (hne : L ≠ []) (hbody : refBodyM size L = (k, b, there, true)) (hbeg : r.1 = 2) : Agree (refBeginM size L) r := by
  unfold refBeginM
  rw [if_neg hne, hbody]
  simp only [if_true]
  exact ⟨hbeg.symm, fun h => by rw [hbeg] at h; cases h⟩
theorem agree_short {size : Nat} {L b b' : List UInt8} {k n : Nat} (hne : L ≠ []) (hbody : refBodyM size L = (k, b, false, false)) : Agree (refBeginM size L) (judge size L k (0, n, b')) := by
  unfold refBeginM judge
  rw [if_neg hne, hbody]
  unfold Agree
  by_cases h : L.length = size <;> simp [h]

theorem agree_nmea (size : Nat) (xs : List UInt8) (hlen : (36 :: xs).length ≤ size) : Agree (refBeginM size (36 :: xs)) (beginM size (36 :: xs)) := by
  have hbody : refBodyM size (36 :: xs) = (1, rscan xs []) := rfl
  have hbeg : beginM size (36 :: xs) = judge size (36 :: xs) 1 (nmeaM (36 :: xs)) := rfl
  obtain ⟨i1, i2, i3⟩ := scan_rscan xs xs [] rfl rfl (by simp)
  simp only [List.length_nil, Nat.sub_zero, Nat.add_zero] at i1 i2 i3
  obtain ⟨⟨b, there, wrong⟩, hr⟩ : ∃ r, r = rscan xs [] := ⟨_, rfl⟩
  rw [← hr] at i1 i2 i3 hbody
  simp only at i1 i2 i3
  cases there with
  | true =>
    obtain ⟨rfl, hs, hb, hl, R, hR⟩ := i1 rfl
    have hby : bytesM 1 b = ((36 :: b) ++ tailM b, 0) := by
      unfold bytesM
      rw [if_pos rfl, if_neg (by omega), if_neg (by simp [hb])]
      rfl
    refine agree_of (A := 36 :: b) (X := tailM b) (Y := R) (by rw [hR]; rfl) (by simp) hlen hbody hby ?_ (by simp [tailM])
    rw [hbeg]
    congr 1
    unfold nmeaM
    rw [hs]
    simp only [if_true]
    have ht : ((36 :: xs : List UInt8).take (b.length + 1)).drop 1 = b := by
      rw [hR, show (36 :: (b ++ R) : List UInt8) = (36 :: b) ++ R from rfl, take_pre (by simp)]; rfl
    rw [ht]
    simp [tailM]
  | false =>
    cases wrong with
    | true =>
      have h2 := i2 rfl
      refine agree_wrong (by simp) hbody ?_
      rw [hbeg]
      unfold judge nmeaM
      rw [if_neg (show ¬ (scan (36 :: xs) 78 1).1 = 1 by rw [h2]; decide)]
      simp only
      rw [if_neg (fun h => by rw [h2] at h; cases h.1)]
      exact h2
    | false =>
      have h0 := i3 rfl rfl
      rw [hbeg]
      have : nmeaM (36 :: xs) = (0, 0, []) := by
        unfold nmeaM
        rw [if_neg (by rw [h0]; decide), h0]
      rw [this]
      exact agree_short (by simp) hbody

theorem lo_eq (a b : UInt8) : (a.toNat + 256 * b.toNat).toUInt8 = a := by
  apply UInt8.toNat_inj.1
  rw [Nat.toUInt8_eq, UInt8.toNat_ofNat']
  have := UInt8.toNat_lt a
  omega
theorem hi_eq (a b : UInt8) : ((a.toNat + 256 * b.toNat) / 256).toUInt8 = b := by
  apply UInt8.toNat_inj.1
  rw [Nat.toUInt8_eq, UInt8.toNat_ofNat']
  have := UInt8.toNat_lt a
  have := UInt8.toNat_lt b
  omega
theorem six_of {xs : List UInt8} (h : 5 ≤ xs.length) : ∃ a b c d e r, xs = a :: b :: c :: d :: e :: r := by
  match xs, h with
  | a :: b :: c :: d :: e :: r, _ => exact ⟨a, b, c, d, e, r, rfl⟩
theorem agree_ubx (size : Nat) (xs : List UInt8) (hlen : (181 :: xs).length ≤ size) : Agree (refBeginM size (181 :: xs)) (beginM size (181 :: xs)) := by
  have hbeg : beginM size (181 :: xs) = judge size (181 :: xs) 2 (ubxM size (181 :: xs)) := rfl
  have hbody := show refBodyM size (181 :: xs) = _ from by
    unfold refBodyM
    simp only
    rw [if_neg (by decide), if_pos trivial]
  by_cases h1 : 1 < (181 :: xs).length ∧ (181 :: xs).getD 1 0 ≠ 98
  · rw [if_pos h1] at hbody
    refine agree_wrong (by simp) hbody ?_
    rw [hbeg]
    have : beginsM (181 :: xs) 98 4 false = (0, 2) := by unfold beginsM; rw [if_pos h1]
    unfold judge ubxM
    rw [this]
    rfl
  · rw [if_neg h1] at hbody
    by_cases h6 : (181 :: xs).length < 6
    · rw [if_pos h6] at hbody
      rw [hbeg]
      have : beginsM (181 :: xs) 98 4 false = (0, 0) := by unfold beginsM; rw [if_neg h1, if_neg (by omega)]
      have hu : ubxM size (181 :: xs) = (0, 0, []) := by unfold ubxM; rw [this]; rfl
      rw [hu]
      exact agree_short (by simp) hbody
    · rw [if_neg h6] at hbody
      obtain ⟨s, l2, l3, l4, l5, rest, rfl⟩ := six_of (xs := xs) (by simp at h6; omega)
      have hs : s = 98 := by
        have := h1
        simp at this
        exact this
      subst hs
      have g2 : (181 :: 98 :: l2 :: l3 :: l4 :: l5 :: rest : List UInt8).getD 2 0 = l2 := rfl
      have g3 : (181 :: 98 :: l2 :: l3 :: l4 :: l5 :: rest : List UInt8).getD 3 0 = l3 := rfl
      have g4 : (181 :: 98 :: l2 :: l3 :: l4 :: l5 :: rest : List UInt8).getD 4 0 = l4 := rfl
      have g5 : (181 :: 98 :: l2 :: l3 :: l4 :: l5 :: rest : List UInt8).getD 5 0 = l5 := rfl
      rw [g2, g3, g4, g5] at hbody
      obtain ⟨n, hn⟩ : ∃ n, n = l4.toNat + 256 * l5.toNat := ⟨_, rfl⟩
      have hlo := lo_eq l4 l5
      have hhi := hi_eq l4 l5
      rw [← hn] at hbody hlo hhi
      have hbs : beginsM (181 :: 98 :: l2 :: l3 :: l4 :: l5 :: rest) 98 4 false = (n, 1) := by
        unfold beginsM
        rw [if_neg h1, if_pos (by simp), g4, show (181 :: 98 :: l2 :: l3 :: l4 :: l5 :: rest : List UInt8).getD (4 + 1) 0 = l5 from rfl]
        simp
        omega
      by_cases hw : 512 < n ∨ size < n + 8
      · rw [if_pos hw] at hbody
        refine agree_wrong (by simp) hbody ?_
        rw [hbeg]
        have hu : ubxM size (181 :: 98 :: l2 :: l3 :: l4 :: l5 :: rest) = (2, 0, []) := by
          unfold ubxM
          rw [hbs]
          simp only [if_true]
          rw [if_pos (by omega)]
        rw [hu]
        rfl
      · rw [if_neg hw] at hbody
        by_cases hsh : (181 :: 98 :: l2 :: l3 :: l4 :: l5 :: rest).length < 6 + n
        · rw [if_pos hsh] at hbody
          rw [hbeg]
          have hu : ubxM size (181 :: 98 :: l2 :: l3 :: l4 :: l5 :: rest) = (0, 0, []) := by
            unfold ubxM
            rw [hbs]
            simp only [if_true]
            rw [if_neg (by omega), if_pos (by omega)]
          rw [hu]
          exact agree_short (by simp) hbody
        · rw [if_neg hsh] at hbody
          have hrl : n ≤ rest.length := by simp at hsh; omega
          have htk : ((181 :: 98 :: l2 :: l3 :: l4 :: l5 :: rest : List UInt8).take (6 + n)).drop 6 = rest.take n := by
            rw [show 6 + n = n + 1 + 1 + 1 + 1 + 1 + 1 by omega]; rfl
          rw [htk] at hbody
          obtain ⟨hd, hhd⟩ : ∃ hd, hd = l2 :: l3 :: l4 :: l5 :: rest.take n := ⟨_, rfl⟩
          have htn : (rest.take n).length = n := by rw [List.length_take]; omega
          have hby : bytesM 2 (l2 :: l3 :: rest.take n) = ((181 :: 98 :: hd) ++ [(fletL hd).1, (fletL hd).2], 0) := by
            unfold bytesM
            rw [if_neg (by decide), if_pos rfl, if_neg (by simp), if_neg (by simp only [List.length_cons, htn]; omega)]
            have e : (l2 :: l3 :: rest.take n : List UInt8).length - 2 = n := by simp only [List.length_cons, htn]; omega
            rw [e, hlo, hhi, hhd]
            rfl
          refine agree_of (A := 181 :: 98 :: hd) (X := [(fletL hd).1, (fletL hd).2]) (Y := rest.drop n) (by rw [hhd]; simp) (by simp) hlen hbody hby ?_ (by simp)
          rw [hbeg]
          congr 1
          have hAl : (181 :: 98 :: hd : List UInt8).length = n + 6 := by rw [hhd]; simp only [List.length_cons, htn]
          have ht2 : ((181 :: 98 :: l2 :: l3 :: l4 :: l5 :: rest : List UInt8).take (n + 6)).drop 2 = hd := by
            rw [hhd, show n + 6 = n + 1 + 1 + 1 + 1 + 1 + 1 by omega]; rfl
          unfold ubxM
          rw [hbs]
          simp only [if_true]
          rw [if_neg (by omega), if_neg (by omega), ht2, hAl, hhd]
          rfl
theorem four_of {xs : List UInt8} (h : 3 ≤ xs.length) : ∃ a b c r, xs = a :: b :: c :: r := by
  match xs, h with
  | a :: b :: c :: r, _ => exact ⟨a, b, c, r, rfl⟩
theorem agree_sirf (size : Nat) (xs : List UInt8) (hlen : (160 :: xs).length ≤ size) : Agree (refBeginM size (160 :: xs)) (beginM size (160 :: xs)) := by
  have hbeg : beginM size (160 :: xs) = judge size (160 :: xs) 3 (sirfM size (160 :: xs)) := rfl
  have hbody := show refBodyM size (160 :: xs) = _ from by
    unfold refBodyM
    simp only
    rw [if_neg (by decide), if_neg (by decide), if_pos trivial]
  by_cases h1 : 1 < (160 :: xs).length ∧ (160 :: xs).getD 1 0 ≠ 162
  · rw [if_pos h1] at hbody
    refine agree_wrong (by simp) hbody ?_
    rw [hbeg]
    have : beginsM (160 :: xs) 162 2 true = (0, 2) := by unfold beginsM; rw [if_pos h1]
    unfold judge sirfM
    rw [this]
    rfl
  · rw [if_neg h1] at hbody
    by_cases h6 : (160 :: xs).length < 4
    · rw [if_pos h6] at hbody
      rw [hbeg]
      have : beginsM (160 :: xs) 162 2 true = (0, 0) := by unfold beginsM; rw [if_neg h1, if_neg (by omega)]
      have hu : sirfM size (160 :: xs) = (0, 0, []) := by unfold sirfM; rw [this]; rfl
      rw [hu]
      exact agree_short (by simp) hbody
    · rw [if_neg h6] at hbody
      obtain ⟨s, l2, l3, rest, rfl⟩ := four_of (xs := xs) (by simp at h6; omega)
      have hs : s = 162 := by
        have := h1
        simp at this
        exact this
      subst hs
      have g2 : (160 :: 162 :: l2 :: l3 :: rest : List UInt8).getD 2 0 = l2 := rfl
      have g3 : (160 :: 162 :: l2 :: l3 :: rest : List UInt8).getD 3 0 = l3 := rfl
      rw [g2, g3] at hbody
      obtain ⟨n, hn⟩ : ∃ n, n = 256 * l2.toNat + l3.toNat := ⟨_, rfl⟩
      have hlo := lo_eq l3 l2
      have hhi := hi_eq l3 l2
      rw [Nat.add_comm, ← hn] at hlo hhi
      rw [← hn] at hbody
      have hbs : beginsM (160 :: 162 :: l2 :: l3 :: rest) 162 2 true = (n, 1) := by
        unfold beginsM
        rw [if_neg h1, if_pos (by simp), g2, show (160 :: 162 :: l2 :: l3 :: rest : List UInt8).getD (2 + 1) 0 = l3 from rfl]
        simp
        omega
      by_cases hw : 1023 < n ∨ size < n + 8
      · rw [if_pos hw] at hbody
        refine agree_wrong (by simp) hbody ?_
        rw [hbeg]
        have hu : sirfM size (160 :: 162 :: l2 :: l3 :: rest) = (2, 0, []) := by
          unfold sirfM
          rw [hbs]
          simp only [if_true]
          rw [if_pos (by omega)]
        rw [hu]
        rfl
      · rw [if_neg hw] at hbody
        by_cases hsh : (160 :: 162 :: l2 :: l3 :: rest).length < 4 + n
        · rw [if_pos hsh] at hbody
          rw [hbeg]
          have hu : sirfM size (160 :: 162 :: l2 :: l3 :: rest) = (0, 0, []) := by
            unfold sirfM
            rw [hbs]
            simp only [if_true]
            rw [if_neg (by omega), if_pos (by omega)]
          rw [hu]
          exact agree_short (by simp) hbody
        · rw [if_neg hsh] at hbody
          have hrl : n ≤ rest.length := by simp at hsh; omega
          have htk : ((160 :: 162 :: l2 :: l3 :: rest : List UInt8).take (4 + n)).drop 4 = rest.take n := by
            rw [show 4 + n = n + 1 + 1 + 1 + 1 by omega]; rfl
          rw [htk] at hbody
          have htn : (rest.take n).length = n := by rw [List.length_take]; omega
          have hby : bytesM 3 (rest.take n) = ((160 :: 162 :: l2 :: l3 :: rest.take n) ++ [(fiftL (rest.take n) / 256).toUInt8, (fiftL (rest.take n)).toUInt8, 176, 179], 0) := by
            unfold bytesM
            rw [if_neg (by decide), if_neg (by decide), if_pos rfl, if_neg (by omega), htn, hlo, hhi]
            rfl
          refine agree_of (A := 160 :: 162 :: l2 :: l3 :: rest.take n) (X := [(fiftL (rest.take n) / 256).toUInt8, (fiftL (rest.take n)).toUInt8, 176, 179]) (Y := rest.drop n) (by simp) (by simp) hlen hbody hby ?_ (by simp)
          rw [hbeg]
          congr 1
          have hAl : (160 :: 162 :: l2 :: l3 :: rest.take n : List UInt8).length = n + 4 := by simp only [List.length_cons, htn]
          have ht2 : ((160 :: 162 :: l2 :: l3 :: rest : List UInt8).take (n + 4)).drop 4 = rest.take n := by
            rw [show n + 4 = n + 1 + 1 + 1 + 1 by omega]; rfl
          unfold sirfM
          rw [hbs]
          simp only [if_true]
          rw [if_neg (by omega), if_neg (by omega), ht2, hAl]
          rfl
theorem ref_agree (size : Nat) (L : List UInt8) (hlen : L.length ≤ size) : Agree (refBeginM size L) (beginM size L) := by
  cases L with
  | nil => exact ⟨rfl, fun _ => rfl⟩
  | cons c xs =>
    by_cases c1 : c = 36
    · subst c1; exact agree_nmea size xs hlen
    · by_cases c2 : c = 181
      · subst c2; exact agree_ubx size xs hlen
      · by_cases c3 : c = 160
        · subst c3; exact agree_sirf size xs hlen
        · refine agree_wrong (k := 0) (b := []) (there := false) (by simp) ?_ ?_
          · unfold refBodyM
            simp only
            rw [if_neg c1, if_neg c2, if_neg c3]
          · unfold beginM
            simp only
            rw [if_neg c1, if_neg c2, if_neg c3]
end Go.Proofs.Ytfgglffjigolhaa
