/- The document's sums. -/
import Derived.Test.YtfgglffjigolhaaRefA
import Derived.Test.YtfgglffjigolhaaSums
namespace Go.Proofs.Ytfgglffjigolhaa
open Go.RowKit

def sumL (L : List UInt8) : Nat := L.foldl (fun s x => s + x.toNat) 0
theorem sumL_le (L : List UInt8) : sumL L ≤ 255 * L.length := by
  unfold sumL
  refine snoc_ind (P := fun L => List.foldl (fun s (x : UInt8) => s + x.toNat) 0 L ≤ 255 * L.length) (by simp) (fun xs x ih => ?_) L
  rw [List.foldl_append, List.length_append]
  have := UInt8.toNat_lt x
  simp only [List.foldl_cons, List.foldl_nil, List.length_cons, List.length_nil]
  omega
theorem fiftL_sum (L : List UInt8) : fiftL L = sumL L % 32768 := by
  unfold fiftL sumL
  refine snoc_ind (P := fun L => List.foldl (fun s (x : UInt8) => (s + x.toNat) % 32768) 0 L = (List.foldl (fun s (x : UInt8) => s + x.toNat) 0 L) % 32768) (by simp) (fun xs x ih => ?_) L
  simp only [List.foldl_append, List.foldl_cons, List.foldl_nil, ih]
  omega

set_option maxHeartbeats 800000 in
theorem ref_fifteen (v : Value) (L : List UInt8) (w : World) (hB : Bs w v L) (hl : L.length ≤ 100000) :
    Calls Try.prog 78 #[v] w fun e w' => e = .returned (.int .u16 (fiftL L : Int)) ∧ w = w' := by
  obtain ⟨A, c, rfl, hle, hb⟩ := hB.form rfl
  have HB := Lib.hid hb
  clear hB hb
  go_enter Try.func78, Try.ntmps78
  go_wp2_with fail
  go_loop [3, 4] (fun n i => ∃ j : Nat, j ≤ L.length ∧ i = .int .i64 j ∧ n = .int .i64 (sumL (L.take j) : Int)) (fun _ i => L.length - (intOf i).toNat)
  case atStart => exact ⟨0, Nat.zero_le _, rfl, rfl⟩
  case round =>
    obtain ⟨j, hj, rfl, rfl⟩ := hrel
    have hs := sumL_le (L.take j)
    have hs2 : (L.take j).length = j := by rw [List.length_take]; omega
    rw [hs2] at hs
    obtain ⟨s, hsd⟩ : ∃ s, s = sumL (L.take j) := ⟨_, rfl⟩
    rw [← hsd] at hs ⊢
    by_cases hlt : j < L.length
    · obtain ⟨g, off, rfl, _, hcell⟩ := Bs.at_ HB.out hlt
      have hx := UInt8.toNat_lt L[j]
      have hn : sumL (L.take (j + 1)) = s + L[j].toNat := by rw [hsd]; unfold sumL; rw [foldl_take_succ _ _ _ hlt]
      have HN := Lib.hid hn
      have HS := Lib.hid hsd
      clear hn hsd hs2
      go_wp2_with fail
      go_round
      case rel => exact ⟨j + 1, by omega, by go_num, by rw [HN.out]; go_num⟩
      case measure => simp [intOf]; omega
    · obtain rfl : j = L.length := by omega
      rw [List.take_length] at hsd
      have hf := fiftL_sum L
      rw [← hsd] at hf
      have HF := Lib.hid hf
      clear hf hsd hs2
      go_wp2_with fail
      go_ret
      exact ⟨by rw [HF.out]; simp, rfl⟩

theorem mod_step (a x d : Nat) : (a + x * d) % 256 = (a % 256 + x * (d % 256)) % 256 := by
  have h : x * (d % 256) % 256 = x * d % 256 := Nat.mul_mod_mod x d 256
  generalize x * (d % 256) = Q at h ⊢
  generalize x * d = P at h ⊢
  omega
def wsum : Nat → List UInt8 → Nat
  | _, [] => 0
  | n, x :: xs => x.toNat * n + wsum (n - 1) xs
theorem wsum_snoc (n : Nat) (L : List UInt8) (x : UInt8) : wsum n (L ++ [x]) = wsum n L + x.toNat * (n - L.length) := by
  induction L generalizing n with
  | nil => simp [wsum]
  | cons y ys ih => simp only [List.cons_append, wsum, ih, List.length_cons]; rw [Nat.sub_sub, Nat.add_comm 1]; omega
theorem sum_go (L : List UInt8) (s : Nat) : L.foldl (fun s x => s + x.toNat) s = s + sumL L := by
  unfold sumL
  induction L generalizing s with
  | nil => rfl
  | cons x xs ih => simp only [List.foldl_cons]; rw [ih, ih (0 + x.toNat)]; omega
theorem flet_go (L : List UInt8) (a b : UInt8) (A B : Nat) (ha : a.toNat = A % 256) (hb : b.toNat = B % 256) :
    (L.foldl (fun pq x => (pq.1 + x, pq.2 + (pq.1 + x))) (a, b)).1.toNat = (A + sumL L) % 256 ∧
    (L.foldl (fun pq x => (pq.1 + x, pq.2 + (pq.1 + x))) (a, b)).2.toNat = (B + L.length * A + wsum L.length L) % 256 := by
  induction L generalizing a b A B with
  | nil => simp [sumL, wsum, ha, hb]
  | cons x xs ih =>
    have h1 : (a + x).toNat = (A + x.toNat) % 256 := by rw [UInt8.toNat_add, ha]; omega
    have h2 : (b + (a + x)).toNat = (B + (A + x.toNat)) % 256 := by rw [UInt8.toNat_add, h1, hb]; omega
    obtain ⟨i1, i2⟩ := ih (a + x) (b + (a + x)) (A + x.toNat) (B + (A + x.toNat)) h1 h2
    simp only [List.foldl_cons]
    refine ⟨by rw [i1]; unfold sumL; rw [List.foldl_cons, sum_go xs (0 + x.toNat)]; unfold sumL; congr 1; omega, ?_⟩
    rw [i2]
    simp only [List.length_cons, wsum, Nat.add_sub_cancel]
    congr 1
    rw [Nat.mul_add, Nat.add_mul, Nat.mul_add, Nat.mul_comm xs.length x.toNat]
    omega
theorem flet_sum (L : List UInt8) : (fletL L).1.toNat = sumL L % 256 ∧ (fletL L).2.toNat = wsum L.length L % 256 := by
  have h := flet_go L 0 0 0 0 rfl rfl
  simpa [fletL] using h

set_option maxHeartbeats 1600000 in
theorem ref_fletcher (v : Value) (L : List UInt8) (w : World) (hB : Bs w v L) (hl : L.length ≤ 100000) :
    Calls Try.prog 77 #[v] w fun e w' => e = .returned (.tuple #[bv (fletL L).1, bv (fletL L).2]) ∧ w = w' := by
  obtain ⟨N, hN⟩ : ∃ N, N = L.length := ⟨_, rfl⟩
  obtain ⟨A, c, rfl, hle, hb⟩ := hB.form hN.symm
  have HB := Lib.hid hb
  have HNN := Lib.hid hN
  have hN1 : N ≤ 100000 := by omega
  clear hB hb hN
  go_enter Try.func77, Try.ntmps77
  go_wp2_with fail
  go_loop [4, 5, 6] (fun p q i => ∃ j : Nat, j ≤ N ∧ i = .int .i64 j ∧ p = .int .i64 ((sumL (L.take j) % 256 : Nat) : Int) ∧ q = .int .i64 ((wsum N (L.take j) % 256 : Nat) : Int)) (fun _ _ i => N - (intOf i).toNat)
  case atStart => exact ⟨0, Nat.zero_le _, rfl, rfl, by simp [wsum]⟩
  case round =>
    obtain ⟨j, hj, rfl, rfl, rfl⟩ := hrel
    by_cases hlt : j < N
    · have hlt' : j < L.length := by rw [← HNN.out]; exact hlt
      obtain ⟨g, off, rfl, hz, hcell⟩ := Bs.at_ HB.out hlt'
      clear hz
      have hx := UInt8.toNat_lt L[j]
      have hn : sumL (L.take (j + 1)) % 256 = (sumL (L.take j) % 256 + L[j].toNat) % 256 := by unfold sumL; rw [foldl_take_succ _ _ _ hlt']; omega
      have hw : wsum N (L.take (j + 1)) % 256 = (wsum N (L.take j) % 256 + L[j].toNat * ((N - j) % 256)) % 256 := by
        rw [List.take_succ_eq_append_getElem hlt', wsum_snoc, show (L.take j).length = j by rw [List.length_take]; omega]
        exact mod_step _ _ _
      obtain ⟨p, hp⟩ : ∃ p, p = sumL (L.take j) % 256 := ⟨_, rfl⟩
      obtain ⟨q, hq⟩ : ∃ q, q = wsum N (L.take j) % 256 := ⟨_, rfl⟩
      obtain ⟨r, hr⟩ : ∃ r, r = (N - j) % 256 := ⟨_, rfl⟩
      obtain ⟨m, hm⟩ : ∃ m, m = L[j].toNat * r := ⟨_, rfl⟩
      have hri : ((N : Int) - (j : Int)) % 256 = (r : Int) := by omega
      have hmi : (L[j].toNat : Int) * (r : Int) = (m : Int) := by rw [hm]; push_cast; rfl
      have hm2 : m ≤ 65280 := by rw [hm]; exact Nat.mul_le_mul (show L[j].toNat ≤ 255 by omega) (show r ≤ 256 by omega)
      have hp2 : p < 256 := by omega
      have hq2 : q < 256 := by omega
      rw [← hr, ← hm, ← hq] at hw
      rw [← hp] at hn
      rw [← hp, ← hq]
      have HN := Lib.hid hn
      have HW := Lib.hid hw
      have H4 := Lib.hid (And.intro hp (And.intro hq (And.intro hr hm)))
      clear hn hw hp hq hr hm
      go_wp2_with fail
      go_round
      case rel => exact ⟨j + 1, by omega, by go_num, by rw [HN.out]; go_num, by rw [HW.out]; go_num⟩
      case measure => simp [intOf]; omega
    · obtain rfl : j = N := by omega
      obtain ⟨f1, f2⟩ := flet_sum L
      have ht : L.take j = L := by rw [HNN.out]; exact List.take_length
      rw [ht]
      rw [← HNN.out] at f2
      obtain ⟨p, hp⟩ : ∃ p, p = sumL L % 256 := ⟨_, rfl⟩
      obtain ⟨q, hq⟩ : ∃ q, q = wsum j L % 256 := ⟨_, rfl⟩
      have hp2 : p < 256 := by omega
      have hq2 : q < 256 := by omega
      rw [← hp] at f1 ⊢
      rw [← hq] at f2 ⊢
      have F := Lib.hid (And.intro f1 f2)
      clear f1 f2 hp hq ht
      go_wp2_with fail
      go_ret2
      exact ⟨by simp [bv, F.out.1, F.out.2], rfl⟩

def cntL (B : Nat) (L : List UInt8) : Nat := L.foldl (fun s x => s + x.toNat / B % 2) 0
theorem cntL_le (B : Nat) (L : List UInt8) : cntL B L ≤ L.length := by
  unfold cntL
  refine snoc_ind (P := fun L => List.foldl (fun s (x : UInt8) => s + x.toNat / B % 2) 0 L ≤ L.length) (by simp) (fun xs x ih => ?_) L
  simp only [List.foldl_append, List.foldl_cons, List.foldl_nil, List.length_append, List.length_cons, List.length_nil]
  omega
theorem xor_bit (a b : Nat) (k : Nat) : (a ^^^ b) / 2 ^ k % 2 = (a / 2 ^ k % 2 + b / 2 ^ k % 2) % 2 := by
  have h := Nat.testBit_xor a b k
  simp only [Nat.testBit_eq_decide_div_mod_eq] at h
  have h1 := Nat.mod_two_eq_zero_or_one (a / 2 ^ k)
  have h2 := Nat.mod_two_eq_zero_or_one (b / 2 ^ k)
  have h3 := Nat.mod_two_eq_zero_or_one ((a ^^^ b) / 2 ^ k)
  rcases h1 with h1 | h1 <;> rcases h2 with h2 | h2 <;> rcases h3 with h3 | h3 <;> simp [h1, h2, h3] at h ⊢
theorem xorL_bit (L : List UInt8) (k : Nat) : (xorL L).toNat / 2 ^ k % 2 = cntL (2 ^ k) L % 2 := by
  unfold xorL cntL
  refine snoc_ind (P := fun L => (List.foldl (· ^^^ ·) (0 : UInt8) L).toNat / 2 ^ k % 2 = (List.foldl (fun s (x : UInt8) => s + x.toNat / 2 ^ k % 2) 0 L) % 2) (by simp) (fun xs x ih => ?_) L
  simp only [List.foldl_append, List.foldl_cons, List.foldl_nil, UInt8.toNat_xor, xor_bit, ih]
  omega
theorem mod_pow_succ (a k : Nat) : a % 2 ^ (k + 1) = a % 2 ^ k + 2 ^ k * (a / 2 ^ k % 2) := by
  rw [Nat.pow_succ, Nat.mod_mul]

set_option maxRecDepth 100000 in
set_option maxHeartbeats 1600000 in
theorem ref_xor (v : Value) (L : List UInt8) (w : World) (hB : Bs w v L) (hl : L.length ≤ 100000) :
    Calls Try.prog 75 #[v] w fun e w' => e = .returned (bv (xorL L)) ∧ w = w' := by
  obtain ⟨N, hN⟩ : ∃ N, N = L.length := ⟨_, rfl⟩
  obtain ⟨A, c, rfl, hle, hb⟩ := hB.form hN.symm
  have HB := Lib.hid hb
  have HNN := Lib.hid hN
  have hN1 : N ≤ 100000 := by omega
  clear hB hb hN
  go_enter Try.func75, Try.ntmps75
  go_wp2_with fail
  go_loop [3, 4] (fun o b => ∃ k : Nat, k ≤ 8 ∧ b = .int .i64 ((2 ^ k : Nat) : Int) ∧ o = .int .i64 (((xorL L).toNat % 2 ^ k : Nat) : Int)) (fun _ b => 512 - (intOf b).toNat)
  case atStart => exact ⟨0, Nat.zero_le _, rfl, by simp [Nat.mod_one]⟩
  case round =>
    obtain ⟨k, hk, rfl, rfl⟩ := hrel
    have hxb := xorL_bit L k
    have hstep := mod_pow_succ (xorL L).toNat k
    have hpw : 2 ^ (k + 1) = 2 ^ k * 2 := Nat.pow_succ 2 k
    have hcl := cntL_le (2 ^ k) L
    have hlow : (xorL L).toNat % 2 ^ k < 2 ^ k := Nat.mod_lt _ (Nat.two_pow_pos k)
    have hpos := Nat.two_pow_pos k
    have hB8 : k < 8 → 2 ^ k ≤ 128 := fun h => (Nat.pow_le_pow_right (by decide) (show k ≤ 7 by omega) : 2 ^ k ≤ 2 ^ 7)
    have hB9 : k = 8 → 2 ^ k = 256 := fun h => by rw [h]
    rw [hxb] at hstep
    obtain ⟨o, ho⟩ : ∃ o, o = (xorL L).toNat % 2 ^ k := ⟨_, rfl⟩
    rw [← ho] at hstep hlow ⊢
    by_cases hk8 : k < 8
    · have hb8 := hB8 hk8
      obtain ⟨o', ho'⟩ : ∃ o', o' = (xorL L).toNat % 2 ^ (k + 1) := ⟨_, rfl⟩
      rw [← ho'] at hstep
      obtain ⟨B', hBB'⟩ : ∃ B', B' = 2 ^ (k + 1) := ⟨_, rfl⟩
      rw [← hBB'] at hpw
      obtain ⟨B, hBB⟩ : ∃ B, B = 2 ^ k := ⟨_, rfl⟩
      rw [← hBB] at hxb hstep hpw hcl hlow hpos hb8 ⊢
      have H1 := Lib.hid hstep
      have H2 := Lib.hid ho'
      have H3 := Lib.hid hBB'
      have H4 := Lib.hid hpw
      clear hxb hstep hpw hB8 hB9 ho ho' hBB' hBB
      go_wp2_with fail
      go_loop [5, 6] (fun n i => ∃ j : Nat, j ≤ N ∧ i = .int .i64 j ∧ n = .int .i64 ((cntL B (L.take j) : Nat) : Int)) (fun _ i => N - (intOf i).toNat)
      case atStart => exact ⟨0, Nat.zero_le _, rfl, rfl⟩
      case round =>
        obtain ⟨j, hj, rfl, rfl⟩ := hrel
        by_cases hlt : j < N
        · have hlt' : j < L.length := by rw [← HNN.out]; exact hlt
          obtain ⟨g, off, rfl, hz, hcell⟩ := Bs.at_ HB.out hlt'
          clear hz
          have hx := UInt8.toNat_lt L[j]
          have hc2 := cntL_le B (L.take j)
          rw [show (L.take j).length = j by rw [List.length_take]; omega] at hc2
          have hn : cntL B (L.take (j + 1)) = cntL B (L.take j) + L[j].toNat / B % 2 := by unfold cntL; rw [foldl_take_succ _ _ _ hlt']
          obtain ⟨m, hm⟩ : ∃ m, m = cntL B (L.take j) := ⟨_, rfl⟩
          obtain ⟨y, hy⟩ : ∃ y, y = L[j].toNat / B := ⟨_, rfl⟩
          have hyi : (L[j].toNat : Int) / (B : Int) = (y : Int) := by rw [hy]; rfl
          have hyt : (L[j].toNat : Int).tdiv (B : Int) = (y : Int) := by rw [Int.tdiv_eq_ediv_of_nonneg (by omega)]; exact hyi
          have hy2 : y ≤ 255 := by rw [hy]; exact Nat.le_trans (Nat.div_le_self _ _) (by omega)
          rw [← hm] at hc2 ⊢
          rw [← hm, ← hy] at hn
          have HN := Lib.hid hn
          have H5 := Lib.hid (And.intro hm hy)
          clear hn hm hy
          by_cases hy1 : y % 2 = 1
          · have hd : ((y : Int) % 2 == 1) = true := by simp; omega
            go_wp2_with fail
            go_round
            case rel => exact ⟨j + 1, by omega, by go_num, by rw [HN.out]; go_num⟩
            case measure => simp [intOf]; omega
          · have hd : ((y : Int) % 2 == 1) = false := by simp; omega
            go_wp2_with fail
            go_round
            case rel => exact ⟨j + 1, by omega, by go_num, by rw [HN.out]; go_num⟩
            case measure => simp [intOf]; omega
        · obtain rfl : j = N := by omega
          have ht : L.take j = L := by rw [HNN.out]; exact List.take_length
          rw [ht]
          have h1 := H1.out
          have h4 := H4.out
          obtain ⟨M, hM⟩ : ∃ M, M = cntL B L := ⟨_, rfl⟩
          rw [← hM] at hcl h1 ⊢
          have hMj : M ≤ 100000 := by omega
          have H6 := Lib.hid (And.intro hM ht)
          clear hM ht
          by_cases hM1 : M % 2 = 1
          · have hd : ((M : Int) % 2 == 1) = true := by simp; omega
            rw [hM1, Nat.mul_one] at h1
            have H7 := Lib.hid h1
            have H8 := Lib.hid h4
            clear h1 h4
            go_wp2_with fail
            go_round
            case rel => exact ⟨k + 1, by omega, by rw [← H3.out, H8.out]; go_num, by rw [← H2.out, H7.out]; go_num⟩
            case measure => simp [intOf]; omega
          · have hd : ((M : Int) % 2 == 1) = false := by simp; omega
            rw [show M % 2 = 0 by omega, Nat.mul_zero, Nat.add_zero] at h1
            have H7 := Lib.hid h1
            have H8 := Lib.hid h4
            clear h1 h4
            go_wp2_with fail
            go_round
            case rel => exact ⟨k + 1, by omega, by rw [← H3.out, H8.out]; go_num, by rw [← H2.out, H7.out]⟩
            case measure => simp [intOf]; omega
    · obtain rfl : k = 8 := by omega
      have hx := UInt8.toNat_lt (xorL L)
      have ho2 : o = (xorL L).toNat := by rw [ho]; exact Nat.mod_eq_of_lt hx
      have HO := Lib.hid ho2
      clear hxb hstep hpw hcl hlow hpos hB8 hB9 ho ho2 hk8
      go_wp2_with fail
      go_ret
      exact ⟨by rw [HO.out]; simp [bv]; omega, rfl⟩
end Go.Proofs.Ytfgglffjigolhaa
