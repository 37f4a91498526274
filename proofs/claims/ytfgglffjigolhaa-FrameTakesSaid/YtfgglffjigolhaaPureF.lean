/- Frames, plainly: a frame's bytes begin that frame. -/
import Derived.Test.YtfgglffjigolhaaRefC
import Derived.Test.YtfgglffjigolhaaFrameF
namespace Go.Proofs.Ytfgglffjigolhaa

theorem endsM_prefix (L : List UInt8) : ∀ (xs : List UInt8) (frm : Nat), (∀ i, i < xs.length → L[frm + i]? = xs[i]?) → endsM L frm xs = 1
  | [], _, _ => rfl
  | x :: xs, frm, h => by
    have h0 := h 0 (by simp)
    rw [Nat.add_zero, List.getElem?_cons_zero] at h0
    have hl := (List.getElem?_eq_some_iff.1 h0).1
    rw [endsM_cons, if_pos hl, if_pos (by simp [List.getD, h0])]
    exact endsM_prefix L xs (frm + 1) fun i hi => by
      have := h (i + 1) (by simp; omega)
      rw [List.getElem?_cons_succ] at this
      rw [← this]; congr 1; omega
theorem endsM_mid {A xs R : List UInt8} {frm : Nat} (h : frm = A.length) : endsM (A ++ (xs ++ R)) frm xs = 1 := by
  subst h
  refine endsM_prefix _ _ _ fun i hi => ?_
  rw [List.getElem?_append_right (by omega), Nat.add_sub_cancel_left, List.getElem?_append_left hi]

theorem scan_body (b R : List UInt8) (hb : b.all isBodyB = true) (hl : b.length ≤ 76) : ∀ d j, j + d = b.length → scan (36 :: (b ++ (42 :: R))) (78 - j) (1 + j) = (1, b.length + 1) := by
  intro d
  induction d with
  | zero =>
    intro j hj
    obtain rfl : j = b.length := by omega
    obtain ⟨f, hf⟩ : ∃ f, 78 - b.length = f + 1 := ⟨77 - b.length, by omega⟩
    rw [hf, scan_succ, if_pos (by simp; omega), if_neg]
    · simp; omega
    · rw [show (36 :: (b ++ (42 :: R)) : List UInt8).getD (1 + b.length) 0 = 42 by simp [List.getD, Nat.add_comm 1]]
      decide
  | succ d ih =>
    intro j hj
    obtain ⟨f, hf⟩ : ∃ f, 78 - j = f + 1 := ⟨77 - j, by omega⟩
    have hlt : j < b.length := by omega
    have hg : (36 :: (b ++ (42 :: R)) : List UInt8).getD (1 + j) 0 = b[j] := by
      simp [List.getD, Nat.add_comm 1, List.getElem?_append_left hlt, hlt]
    rw [hf, scan_succ, if_pos (by simp; omega), hg, if_pos (by rw [List.all_eq_true] at hb; exact hb _ (List.getElem_mem _)), if_neg (by omega)]
    have := ih (j + 1) (by omega)
    rw [show 78 - (j + 1) = f by omega] at this
    rw [show 1 + j + 1 = 1 + (j + 1) by omega]
    exact this

theorem take_pre {A B : List UInt8} {n : Nat} (h : n = A.length) : (A ++ B).take n = A := by subst h; simp

theorem begin_nmea (size : Nat) (b R : List UInt8) (hb : b.all isBodyB = true) (hl : b.length ≤ 76) :
    beginM size (36 :: (b ++ tailM b) ++ R) = (1, b.length + 6, 1, b) := by
  have e : (36 :: (b ++ tailM b) ++ R : List UInt8) = (36 :: b) ++ (tailM b ++ R) := by simp
  have hs : scan (36 :: (b ++ tailM b) ++ R) 78 1 = (1, b.length + 1) := by
    have := scan_body b ([hexD ((xorL b).toNat / 16), hexD ((xorL b).toNat % 16), 13, 10] ++ R) hb hl b.length 0 (by omega)
    simpa [tailM] using this
  have ht : ((36 :: (b ++ tailM b) ++ R : List UInt8).take (b.length + 1)).drop 1 = b := by
    rw [e, take_pre (by simp)]; rfl
  have hn : nmeaM (36 :: (b ++ tailM b) ++ R) = (1, b.length + 6, b) := by
    unfold nmeaM
    rw [hs]
    simp only [if_true]
    rw [ht, e, endsM_mid (by simp)]
  unfold beginM
  simp only [List.cons_append]
  rw [if_pos trivial]
  simp only [List.cons_append] at hn
  rw [hn]
  rfl

theorem begin_ubx (size : Nat) (b R : List UInt8) (h2 : 2 ≤ b.length) (hl : b.length ≤ 514) (hs : b.length + 6 ≤ size) (hd : List UInt8)
    (hhd : hd = b.take 2 ++ ((b.length - 2).toUInt8 :: ((b.length - 2) / 256).toUInt8 :: b.drop 2)) :
    beginM size (181 :: 98 :: (hd ++ [(fletL hd).1, (fletL hd).2]) ++ R) = (1, b.length + 6, 2, b) := by
  obtain ⟨x, y, r, rfl⟩ : ∃ x y r, b = x :: y :: r := by
    rcases b with _ | ⟨x, _ | ⟨y, r⟩⟩
    · simp at h2
    · simp at h2
    · exact ⟨x, y, r, rfl⟩
  simp only [List.length_cons, Nat.add_sub_cancel, List.take_succ_cons, List.take_zero, List.drop_succ_cons, List.drop_zero, List.cons_append, List.nil_append] at *
  have hlen : hd.length = r.length + 4 := by rw [hhd]; simp
  have hbg : beginsM (181 :: 98 :: (hd ++ [(fletL hd).1, (fletL hd).2] ++ R)) 98 4 false = (r.length, 1) := by
    unfold beginsM
    have e4 : (181 :: 98 :: (hd ++ [(fletL hd).1, (fletL hd).2] ++ R) : List UInt8).getD 4 0 = r.length.toUInt8 := by rw [hhd]; rfl
    have e5 : (181 :: 98 :: (hd ++ [(fletL hd).1, (fletL hd).2] ++ R) : List UInt8).getD (4 + 1) 0 = (r.length / 256).toUInt8 := by rw [hhd]; rfl
    rw [if_neg (by simp), if_pos (by simp; omega), e4, e5]
    simp
    omega
  have ht : ((181 :: 98 :: (hd ++ [(fletL hd).1, (fletL hd).2] ++ R) : List UInt8).take (r.length + 6)).drop 2 = hd := by
    rw [show r.length + 6 = r.length + 4 + 1 + 1 from rfl, List.take_succ_cons, List.take_succ_cons]
    simp only [List.drop_succ_cons, List.drop_zero]
    rw [List.append_assoc, take_pre hlen.symm]
  have hu : ubxM size (181 :: 98 :: (hd ++ [(fletL hd).1, (fletL hd).2] ++ R)) = (1, r.length + 8, x :: y :: r) := by
    unfold ubxM
    rw [hbg]
    simp only [if_true]
    rw [if_neg (by omega), if_neg (by simp; omega), ht]
    rw [show (181 :: 98 :: (hd ++ [(fletL hd).1, (fletL hd).2] ++ R) : List UInt8) = (181 :: 98 :: hd) ++ ([(fletL hd).1, (fletL hd).2] ++ R) by simp, endsM_mid (by simp; omega)]
    rw [hhd]
    rfl
  unfold beginM
  simp only
  rw [if_neg (by decide), if_pos trivial, hu]
  rfl

theorem begin_sirf (size : Nat) (b R : List UInt8) (hl : b.length ≤ 1023) (hs : b.length + 8 ≤ size) :
    beginM size (160 :: 162 :: (b.length / 256).toUInt8 :: b.length.toUInt8 :: (b ++ [(fiftL b / 256).toUInt8, (fiftL b).toUInt8, 176, 179]) ++ R) = (1, b.length + 8, 3, b) := by
  simp only [List.cons_append]
  have hbg : beginsM (160 :: 162 :: (b.length / 256).toUInt8 :: b.length.toUInt8 :: (b ++ [(fiftL b / 256).toUInt8, (fiftL b).toUInt8, 176, 179] ++ R)) 162 2 true = (b.length, 1) := by
    unfold beginsM
    rw [if_neg (by simp), if_pos (by simp)]
    simp [List.getD]
    omega
  have ht : ((160 :: 162 :: (b.length / 256).toUInt8 :: b.length.toUInt8 :: (b ++ [(fiftL b / 256).toUInt8, (fiftL b).toUInt8, 176, 179] ++ R) : List UInt8).take (b.length + 4)).drop 4 = b := by
    rw [show b.length + 4 = b.length + 1 + 1 + 1 + 1 from rfl, List.take_succ_cons, List.take_succ_cons, List.take_succ_cons, List.take_succ_cons]
    simp only [List.drop_succ_cons, List.drop_zero]
    rw [List.append_assoc, take_pre rfl]
  have hu : sirfM size (160 :: 162 :: (b.length / 256).toUInt8 :: b.length.toUInt8 :: (b ++ [(fiftL b / 256).toUInt8, (fiftL b).toUInt8, 176, 179] ++ R)) = (1, b.length + 8, b) := by
    unfold sirfM
    rw [hbg]
    simp only [if_true]
    rw [if_neg (by omega), if_neg (by simp), ht]
    rw [show (160 :: 162 :: (b.length / 256).toUInt8 :: b.length.toUInt8 :: (b ++ [(fiftL b / 256).toUInt8, (fiftL b).toUInt8, 176, 179] ++ R) : List UInt8) = (160 :: 162 :: (b.length / 256).toUInt8 :: b.length.toUInt8 :: b) ++ ([(fiftL b / 256).toUInt8, (fiftL b).toUInt8, 176, 179] ++ R) by simp, endsM_mid (by simp)]
  unfold beginM
  simp only
  rw [if_neg (by decide), if_neg (by decide), if_pos trivial, hu]
  rfl

theorem bytesM_zero {k : Nat} {b out : List UInt8} (h : bytesM k b = (out, 0)) : (k = 1 ∧ b.length ≤ 76 ∧ b.all isBodyB = true ∧ out = 36 :: (b ++ tailM b)) ∨
    (k = 2 ∧ 2 ≤ b.length ∧ b.length ≤ 514 ∧ ∃ hd, hd = b.take 2 ++ ((b.length - 2).toUInt8 :: ((b.length - 2) / 256).toUInt8 :: b.drop 2) ∧ out = 181 :: 98 :: (hd ++ [(fletL hd).1, (fletL hd).2])) ∨
    (k = 3 ∧ b.length ≤ 1023 ∧ out = 160 :: 162 :: (b.length / 256).toUInt8 :: b.length.toUInt8 :: (b ++ [(fiftL b / 256).toUInt8, (fiftL b).toUInt8, 176, 179])) := by
  unfold bytesM at h
  by_cases h1 : k = 1
  · rw [if_pos h1] at h
    by_cases h2 : 76 < b.length
    · rw [if_pos h2] at h; simp at h
    · rw [if_neg h2] at h
      by_cases h3 : b.all isBodyB = false
      · rw [if_pos h3] at h; simp at h
      · rw [if_neg h3] at h
        injection h with h _
        exact .inl ⟨h1, by omega, by simpa using h3, h.symm⟩
  · rw [if_neg h1] at h
    by_cases h2 : k = 2
    · rw [if_pos h2] at h
      by_cases h3 : b.length < 2
      · rw [if_pos h3] at h; simp at h
      · rw [if_neg h3] at h
        by_cases h4 : 514 < b.length
        · rw [if_pos h4] at h; simp at h
        · rw [if_neg h4] at h
          injection h with h _
          exact .inr (.inl ⟨h2, by omega, by omega, _, rfl, h.symm⟩)
    · rw [if_neg h2] at h
      by_cases h3 : k = 3
      · rw [if_pos h3] at h
        by_cases h4 : 1023 < b.length
        · rw [if_pos h4] at h; simp at h
        · rw [if_neg h4] at h
          injection h with h _
          exact .inr (.inr ⟨h3, by omega, h.symm⟩)
      · rw [if_neg h3] at h; simp at h
theorem bytesM_len {k : Nat} {b out : List UInt8} (h : bytesM k b = (out, 0)) : out.length ≤ b.length + 8 ∧ out.length ≤ 1031 := by
  rcases bytesM_zero h with ⟨_, h1, _, rfl⟩ | ⟨_, h1, h2, hd, hhd, rfl⟩ | ⟨_, h1, rfl⟩
  · simp [tailM]; omega
  · have : hd.length = b.length + 2 := by rw [hhd]; simp; omega
    simp [this]; omega
  · simp; omega

/-- A frame's bytes begin just that frame, whatever stands behind. -/
theorem begin_bytes {k size : Nat} {b out : List UInt8} (h : bytesM k b = (out, 0)) (hs : 1031 ≤ size) (R : List UInt8) : beginM size (out ++ R) = (1, out.length, k, b) := by
  rcases bytesM_zero h with ⟨rfl, h1, h2, rfl⟩ | ⟨rfl, h1, h2, hd, hhd, rfl⟩ | ⟨rfl, h1, rfl⟩
  · rw [begin_nmea size b R h2 h1]; simp [tailM]
  · rw [begin_ubx size b R h1 h2 (by omega) hd hhd]
    have : hd.length = b.length + 2 := by rw [hhd]; simp; omega
    simp [this]
  · rw [begin_sirf size b R h1 (by omega)]; simp
theorem next_bytes {k size : Nat} {b out : List UInt8} (h : bytesM k b = (out, 0)) (hs : 1031 ≤ size) (R : List UInt8) (f : Nat) : nextM size (f + 1) (out ++ R) = (0, true, k, b, R) := by
  rw [nextM_succ, begin_bytes h hs R]
  simp
end Go.Proofs.Ytfgglffjigolhaa
