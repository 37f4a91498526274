/- The ring: Put, Peek, Drop, At by what it holds. -/
import Derived.Test.YtfgglffjigolhaaRing
import Derived.Test.YtfgglffjigolhaaBytes
namespace Go.Proofs.Ytfgglffjigolhaa
open Go.RowKit

/-- The cells of a ring. -/
structure RingCells (w : World) (g : Nat) (b : List UInt8) (size first n : Nat) (lost : Int) : Prop where
  heap : w.heap[g]? = some (.cells (ringArr b size first n lost) 124 (0, 0))
  len : b.length = 4096
theorem RingCells.byte {w : World} {g : Nat} {b : List UInt8} {size first n : Nat} {lost : Int} (h : RingCells w g b size first n lost) {i : Nat} (hi : i < 4096) : w.cell? ⟨g, i, none⟩ = some (bv (b.getD i 0)) :=
  (cell_of h.heap i).trans (ringArr_byte h.len _ _ _ _ hi)
theorem RingCells.size {w : World} {g : Nat} {b : List UInt8} {size first n : Nat} {lost : Int} (h : RingCells w g b size first n lost) : w.cell? ⟨g, 4096, none⟩ = some (.int .i64 size) :=
  (cell_of h.heap _).trans (ringArr_4096 h.len _ _ _ _)
theorem RingCells.first {w : World} {g : Nat} {b : List UInt8} {size first n : Nat} {lost : Int} (h : RingCells w g b size first n lost) : w.cell? ⟨g, 4097, none⟩ = some (.int .i64 first) :=
  (cell_of h.heap _).trans (ringArr_4097 h.len _ _ _ _)
theorem RingCells.n {w : World} {g : Nat} {b : List UInt8} {size first n : Nat} {lost : Int} (h : RingCells w g b size first n lost) : w.cell? ⟨g, 4098, none⟩ = some (.int .i64 n) :=
  (cell_of h.heap _).trans (ringArr_4098 h.len _ _ _ _)
theorem RingCells.lost {w : World} {g : Nat} {b : List UInt8} {size first n : Nat} {lost : Int} (h : RingCells w g b size first n lost) : w.cell? ⟨g, 4099, none⟩ = some (.int .i64 lost) :=
  (cell_of h.heap _).trans (ringArr_4099 h.len _ _ _ _)
theorem RingCells.frozen {w : World} {g : Nat} {b : List UInt8} {size first n : Nat} {lost : Int} (h : RingCells w g b size first n lost) (i : Nat) : w.frozen? ⟨g, i, none⟩ = false := frozen_of h.heap i none

/-- Behind Drop. -/
theorem RingCells.drop {w w' : World} {g : Nat} {b : List UInt8} {size first n k : Nat} {lost : Int} (h : RingCells w g b size first n lost) (hk : k ≤ n) (hf : first < size) (hd : DropTo g first size n k w w') :
    ∃ first', RingCells w' g b size first' (n - k) lost ∧ first' < size ∧ (∀ i, (first' + i) % size = (first + (k + i)) % size) ∧ Ext (OneB g) w w' := by
  rcases hd with ⟨rfl, d, rfl⟩ | ⟨hk0, d, rfl⟩
  · exact ⟨first, ⟨h.heap, h.len⟩, hf, fun i => by rw [Nat.zero_add], (Ext.refl _ _).drewN d⟩
  · refine ⟨(first + k) % size, ⟨?_, h.len⟩, Nat.mod_lt _ (by omega), fun i => by rw [Nat.mod_add_mod, Nat.add_assoc], ((Ext.setCell (Ext.setCell (Ext.refl (OneB g) w) (p := ⟨g, _, none⟩) (.inr rfl) _) (p := ⟨g, _, none⟩) (.inr rfl) _)).drewN d⟩
    show ((w.setCell _ _).setCell _ _).heap[g]? = _
    rw [heap_setCell_same (heap_setCell_same h.heap _ _), ringArr_set_first h.len, ringArr_set_n h.len]
    congr 3
    omega

theorem IsRing.open_ {w : World} {g size : Nat} {L : List UInt8} {lost : Int} (h : IsRing w g size L lost) : ∃ (b : List UInt8) (first : Nat), RingCells w g b size first L.length lost ∧ 64 ≤ size ∧ size ≤ 4096 ∧ first < size ∧ L.length ≤ size ∧
    ∀ i, i < L.length → b.getD ((first + i) % size) 0 = L.getD i 0 := by
  obtain ⟨b, first, hb, hl, r⟩ := h
  exact ⟨b, first, ⟨hb, hl⟩, r⟩
theorem IsRing.shut {w : World} {g size : Nat} {L : List UInt8} {lost : Int} {b : List UInt8} {first n : Nat} (h : RingCells w g b size first n lost) (hn : n = L.length) (h1 : 64 ≤ size) (h2 : size ≤ 4096) (h3 : first < size) (h4 : L.length ≤ size)
    (h5 : ∀ i, i < L.length → b.getD ((first + i) % size) 0 = L.getD i 0) : IsRing w g size L lost := by
  subst hn; exact ⟨b, first, h.heap, h.len, h1, h2, h3, h4, h5⟩

theorem getD_drop' (L : List UInt8) (k i : Nat) : (L.drop k).getD i 0 = L.getD (k + i) 0 := by
  simp [List.getD, List.getElem?_drop]

/-- Drop, by what is held. -/
theorem ring_drop (g size : Nat) (L : List UInt8) (lost i : Int) (k : Nat) (w : World) (h : IsRing w g size L lost) (hk : (k : Int) = max 0 (min i L.length)) :
    Calls Try.prog 62 #[.pointer (some ⟨g, 0, none⟩), .int .i64 i] w fun e w' => e = .returned (.int .i64 k) ∧ IsRing w' g size (L.drop k) lost ∧ Ext (OneB g) w w' := by
  obtain ⟨b, first, hc, h1, h2, h3, h4, h5⟩ := h.open_
  by_cases hi : i ≤ 0
  · obtain rfl : k = 0 := by omega
    exact (ring_drop_none g L.length i w hc.n hi).mono fun e w' ⟨he, hw⟩ => ⟨he, hw ▸ h, hw ▸ Ext.refl _ _⟩
  · by_cases hl : L.length = 0
    · obtain rfl : k = 0 := by omega
      exact (ring_drop_empty g i w (by rw [hc.n, hl]; rfl)).mono fun e w' ⟨he, hw⟩ => ⟨he, hw ▸ h, hw ▸ Ext.refl _ _⟩
    · refine (ring_drop_some g k size first L.length i w hc.size hc.first hc.n (hc.frozen _) (hc.frozen _) h4 h3 h1 h2 (by omega) (by omega)).mono fun e w' ⟨he, hd⟩ => ?_
      obtain ⟨first', hc', hf', hm, hE⟩ := hc.drop (by omega) h3 hd
      refine ⟨he, IsRing.shut hc' (by simp) h1 h2 hf' (by simp; omega) (fun j hj => ?_), hE⟩
      simp at hj
      rw [hm, h5 _ (by omega), getD_drop']

theorem ring_len (g size : Nat) (L : List UInt8) (lost : Int) (w : World) (h : IsRing w g size L lost) :
    Calls Try.prog 31 #[.pointer (some ⟨g, 0, none⟩)] w fun e w' => e = .returned (.int .i64 L.length) ∧ w = w' := by
  obtain ⟨b, first, hc, _⟩ := h.open_
  exact ring_len_cell g _ w hc.n
theorem ring_size (g size : Nat) (L : List UInt8) (lost : Int) (w : World) (h : IsRing w g size L lost) :
    Calls Try.prog 60 #[.pointer (some ⟨g, 0, none⟩)] w fun e w' => e = .returned (.int .i64 size) ∧ w = w' := by
  obtain ⟨b, first, hc, _⟩ := h.open_
  exact ring_size_cell g _ w hc.size

/-- What At tells. -/
def atOf (L : List UInt8) (i : Int) : Value := if 0 ≤ i ∧ i < L.length then .tuple #[bv (L.getD i.toNat 0), .bool true] else .tuple #[.int .u8 0, .bool false]
theorem ring_at (g size : Nat) (L : List UInt8) (lost i : Int) (w : World) (h : IsRing w g size L lost) :
    Calls Try.prog 99 #[.pointer (some ⟨g, 0, none⟩), .int .i64 i] w fun e w' => e = .returned (atOf L i) ∧ ∃ m, w' = w.drewN m := by
  obtain ⟨b, first, hc, h1, h2, h3, h4, h5⟩ := h.open_
  unfold atOf
  by_cases hi : i < 0
  · rw [if_neg (by omega)]
    exact (ring_at_low g i w hi).mono fun e w' ⟨he, hw⟩ => ⟨he, 0, hw.symm⟩
  · by_cases hl : i < L.length
    · rw [if_pos (by omega)]
      obtain ⟨j, rfl⟩ : ∃ j : Nat, i = j := ⟨i.toNat, by omega⟩
      have := ring_at_cell g j size first L.length b w hc.size hc.first hc.n (hc.byte (Nat.lt_of_lt_of_le (Nat.mod_lt _ (by omega)) h2)) (by omega) h4 h3 h1 h2
      rw [h5 j (by omega)] at this
      exact this
    · rw [if_neg (by omega)]
      exact (ring_at_high g _ i w hc.n (by omega) (by omega)).mono fun e w' ⟨he, hw⟩ => ⟨he, 0, hw.symm⟩

/-- Put of one byte. -/
def put1 (size : Nat) (L : List UInt8) (x : UInt8) : List UInt8 := (if L.length = size then L.drop 1 else L) ++ [x]

set_option maxRecDepth 100000 in
set_option maxHeartbeats 800000 in
theorem put1_room (g c1 c2 : Nat) (b : List UInt8) (size first n : Nat) (lost : Int) (x : UInt8) (w : World) (hc : RingCells w g b size first n lost)
    (hc1 : w.heap[c1]? = some (.cells #[.pointer (some ⟨g, 0, none⟩)] 42 (0, 0))) 
    (h1 : 64 ≤ size) (h2 : size ≤ 4096) (h3 : first < size) (h4 : n < size) :
    Calls Try.prog 61 #[bv x, .pointer (some ⟨c1, 0, none⟩), .pointer (some ⟨c2, 0, none⟩)] w fun e w' => e = .returned (.tuple #[]) ∧
      ∃ d, w' = ((w.setCell ⟨g, (first + n) % size, none⟩ (bv x)).setCell ⟨g, 4098, none⟩ (.int .i64 ((n : Int) + 1))).drewN d := by
  have hq : (first + n) % size < size := Nat.mod_lt _ (by omega)
  have hplace := fun W a b => ring_place_cell g n size first W a b (by omega) h3 h1 h2
  obtain ⟨q, hqq⟩ : ∃ q, q = (first + n) % size := ⟨_, rfl⟩
  rw [← hqq] at hq ⊢
  simp only [← hqq] at hplace
  have hcell := hc.byte (show q < 4096 by omega)
  have hfr := hc.frozen q
  have hfr2 := hc.frozen 4098
  have hn := hc.n
  have hs := hc.size
  have hf := hc.first
  have hcc : w.cell? ⟨c1, 0, none⟩ = some (.pointer (some ⟨g, 0, none⟩)) := (cell_of hc1 0).trans rfl
  have hne : ¬ g = c1 := by
    rintro rfl
    have := hc.heap.symm.trans hc1
    injection this with this
    injection this with _ h _
    exact absurd h (by decide)
  have hneq : ((n : Int) == size) = false := by simp; omega
  have q1 : (q : Int) < 4096 := by omega
  have hq98 : ¬ q = 4098 := by omega
  have H := Lib.hid hqq
  have HP := Lib.hid hplace
  clear hqq hplace hc hc1
  go_enter Try.func61, Try.ntmps61
  go_wp2_with fail
  go_quiet ((go_at_call 31; (first | exact quietS (ring_len_cell _ _ _ hn) | exact quiet_add_left (ring_len_cell _ _ _ hn))))
  go_wp2_with fail
  (refine wp_region_quiet_tail 9 (by kernel_rfl) (by kernel_rfl) ?_; (simp only [List.take_succ_cons, List.take_zero, List.drop_succ_cons, List.drop_zero]); (repeat go_big_quiet_step ((first | (go_at_call 31; (first | exact quietS (ring_len_cell _ _ _ hn) | exact quiet_add_left (ring_len_cell _ _ _ hn))) | (go_at_call 63; (first | exact Calls.quiet_of (HP.out _ hs hf) | exact quiet_add (HP.out _ hs hf)))))); refine wpQuiet_nil ?_; intro _ hw'; obtain ⟨nq, hw''⟩ := hw'; subst hw'')
  go_wp2_with fail
  go_end0
  exact ⟨rfl, _, rfl⟩

theorem blk_ne {w : World} {g g' : Nat} {cs cs' : Array Value} {t t' : TypeId} {fr fr' : Nat × Nat} (h : w.heap[g]? = some (.cells cs t fr)) (h' : w.heap[g']? = some (.cells cs' t' fr')) (hne : t ≠ t') : ¬ g = g' := by
  rintro rfl
  rw [h] at h'
  injection h' with h'
  injection h' with _ ht _
  exact hne ht

/-- Behind a byte laid at the end. -/
theorem RingCells.put {w : World} {g : Nat} {b : List UInt8} {size first n : Nat} {lost : Int} (h : RingCells w g b size first n lost) (x : UInt8) {q : Nat} (hq : q < 4096) (m : Nat) (hm : m = n + 1) :
    RingCells ((w.setCell ⟨g, q, none⟩ (bv x)).setCell ⟨g, 4098, none⟩ (.int .i64 m)) g (b.set q x) size first m lost := by
  subst hm
  refine ⟨?_, by simp [h.len]⟩
  rw [heap_setCell_same (heap_setCell_same h.heap _ _), ringArr_set_byte h.len _ _ _ _ hq, ringArr_set_n (by simp [h.len])]

theorem mod_ne {a b s : Nat} (h1 : a < b) (h2 : b < a + s) : a % s ≠ b % s := by
  intro h
  have h3 := Nat.sub_mod_eq_zero_of_mod_eq h.symm
  rw [Nat.mod_eq_of_lt (by omega)] at h3
  omega

theorem put_holds {b L : List UInt8} {size first : Nat} (x : UInt8) (hb : b.length = 4096) (h2 : size ≤ 4096) (h3 : first < size) (h4 : L.length < size) (h5 : ∀ i, i < L.length → b.getD ((first + i) % size) 0 = L.getD i 0) :
    ∀ i, i < (L ++ [x]).length → (b.set ((first + L.length) % size) x).getD ((first + i) % size) 0 = (L ++ [x]).getD i 0 := by
  intro i hi
  simp at hi
  have hq : (first + L.length) % size < size := Nat.mod_lt _ (by omega)
  by_cases he : i = L.length
  · subst he
    simp [List.getD, show (first + L.length) % size < b.length by omega]
  · have hne := mod_ne (show first + i < first + L.length by omega) (show first + L.length < first + i + size by omega)
    have := h5 i (by omega)
    simp only [List.getD] at this ⊢
    rw [List.getElem?_set_ne (fun h => hne h.symm), this, List.getElem?_append_left (by omega)]

set_option maxRecDepth 100000 in
set_option maxHeartbeats 800000 in
theorem put1_full (g c1 c2 : Nat) (b : List UInt8) (size first : Nat) (lost : Int) (t : Nat) (x : UInt8) (w : World) (hc : RingCells w g b size first size lost)
    (hc1 : w.heap[c1]? = some (.cells #[.pointer (some ⟨g, 0, none⟩)] 42 (0, 0))) (hc2 : w.heap[c2]? = some (.cells #[.int .i64 t] 3 (0, 0)))
    (h1 : 64 ≤ size) (h2 : size ≤ 4096) (h3 : first < size) (ht : t ≤ 4611686018427387904) :
    Calls Try.prog 61 #[bv x, .pointer (some ⟨c1, 0, none⟩), .pointer (some ⟨c2, 0, none⟩)] w fun e w' => e = .returned (.tuple #[]) ∧
      ∃ w1 f1 d, RingCells w1 g b size f1 (size - 1) lost ∧ f1 < size ∧ (∀ i, (f1 + i) % size = (first + (1 + i)) % size) ∧ Ext (OneB g) w w1 ∧
        w' = (((w1.setCell ⟨c2, 0, none⟩ (.int .i64 ((t : Int) + 1))).setCell ⟨g, (f1 + (size - 1)) % size, none⟩ (bv x)).setCell ⟨g, 4098, none⟩ (.int .i64 size)).drewN d := by
  have hdrop := fun W a b c d e => ring_drop_some g 1 size first size 1 W a b c d e (Nat.le_refl _) h3 h1 h2 (by omega) (by omega)
  have hfr1 := hc.frozen 4097
  have hfr2 := hc.frozen 4098
  have hn := hc.n
  have hs := hc.size
  have hf := hc.first
  have hcc : w.cell? ⟨c1, 0, none⟩ = some (.pointer (some ⟨g, 0, none⟩)) := (cell_of hc1 0).trans rfl
  have hne := blk_ne hc.heap hc1 (by decide)
  have hne2 := blk_ne hc.heap hc2 (by decide)
  have hne3 := blk_ne hc2 hc1 (by decide)
  have hne' : ¬ c1 = g := fun h => hne h.symm
  have hne2' : ¬ c2 = g := fun h => hne2 h.symm
  have hneq : ((size : Int) == size) = true := by simp
  have HD := Lib.hid hdrop
  have HC := Lib.hid hc
  have HC1 := Lib.hid hc1
  have HC2 := Lib.hid hc2
  clear hdrop hc hc1 hc2
  go_enter Try.func61, Try.ntmps61
  go_wp2_with fail
  go_quiet ((go_at_call 31; (first | exact quietS (ring_len_cell _ _ _ hn) | exact quiet_add_left (ring_len_cell _ _ _ hn))))
  go_wp2_with (go_at_call 62; go_must (refine (HD.out (w.drewN nq) hs hf hn hfr1 hfr2).mono ?_); rintro e w1 ⟨rfl, hd⟩
               obtain ⟨f1, hr, hf1, hm, hE⟩ := RingCells.drop (w := w.drewN nq) ⟨HC.out.heap, HC.out.len⟩ (show 1 ≤ size by omega) h3 hd
               have hn1 := hr.n
               have hs1 := hr.size
               have hq : (f1 + (size - 1)) % size < size := Nat.mod_lt _ (by omega)
               have hplace := fun W a b => ring_place_cell g (size - 1) size f1 W a b (by omega) hf1 h1 h2
               obtain ⟨q, hqq⟩ : ∃ q, q = (f1 + (size - 1)) % size := ⟨_, rfl⟩
               rw [← hqq] at hq
               simp only [← hqq] at hplace
               have hcell := hr.byte (show q < 4096 by omega)
               have hfr' := hr.frozen q
               have hfr2' := hr.frozen 4098
               have hf1' := hr.first
               have hcc' : w1.cell? ⟨c1, 0, none⟩ = some (.pointer (some ⟨g, 0, none⟩)) := hE.cellv (p := ⟨c1, 0, none⟩) hcc hne'
               have hcc2' : w1.cell? ⟨c2, 0, none⟩ = some (.int .i64 t) := hE.cellv (p := ⟨c2, 0, none⟩) ((cell_of HC2.out 0).trans rfl) hne2'
               have hfc2' : w1.frozen? ⟨c2, 0, none⟩ = false := (hE.frozen (p := ⟨c2, 0, none⟩) (heap_lt HC2.out) hne2').trans (frozen_of HC2.out 0 none)
               have hcast : ((size - 1 : Nat) : Int) = (size : Int) - 1 := by omega
               have HR := Lib.hid hr
               have HE := Lib.hid hE
               have HQ := Lib.hid hqq
               have HP := Lib.hid hplace
               have HM := Lib.hid hm
               rw [hcast] at hn1
               have HX := Lib.hid hcast
               have q1 : (q : Int) < 4096 := by omega
               have hq98 : ¬ q = 4098 := by omega
               have hq98' : ¬ 4098 = q := by omega
               clear hr hE hqq hplace hm hd hcast hn hs hf hfr1 hfr2 hcc)
  (refine wp_region_quiet_tail 9 (by kernel_rfl) (by kernel_rfl) ?_; (simp only [List.take_succ_cons, List.take_zero, List.drop_succ_cons, List.drop_zero]); (repeat go_big_quiet_step ((first | (go_at_call 31; (first | exact quietS (ring_len_cell _ ((size : Int) - 1) _ (by go_simp)) | exact quiet_add_left (ring_len_cell _ ((size : Int) - 1) _ (by go_simp)))) | (go_at_call 63; (first | exact Calls.quiet_of (HX.out ▸ HP.out _ (by go_simp) (by go_simp)) | exact quiet_add (HX.out ▸ HP.out _ (by go_simp) (by go_simp))))))); refine wpQuiet_nil ?_; intro _ hw'; obtain ⟨nq, hw''⟩ := hw'; subst hw'')
  go_wp2_with fail
  go_end0
  refine ⟨rfl, w1, f1, nq, HR.out, hf1, HM.out, HE.out.ofDrewN, ?_⟩
  rw [← HQ.out]
  rfl

theorem put1_any (g c1 c2 : Nat) (size : Nat) (L : List UInt8) (lost : Int) (t : Nat) (x : UInt8) (w : World) (h : IsRing w g size L lost)
    (hc1 : w.heap[c1]? = some (.cells #[.pointer (some ⟨g, 0, none⟩)] 42 (0, 0))) (hc2 : w.heap[c2]? = some (.cells #[.int .i64 t] 3 (0, 0))) (ht : t ≤ 4611686018427387904) :
    Calls Try.prog 61 #[bv x, .pointer (some ⟨c1, 0, none⟩), .pointer (some ⟨c2, 0, none⟩)] w fun e w' => e = .returned (.tuple #[]) ∧
      IsRing w' g size (put1 size L x) lost ∧ w'.heap[c2]? = some (.cells #[.int .i64 ((t + if L.length = size then 1 else 0 : Nat) : Int)] 3 (0, 0)) ∧ Ext (fun k => k = g ∨ k = c2) w w' := by
  obtain ⟨b, first, hc, h1, h2, h3, h4, h5⟩ := h.open_
  have hne2 := blk_ne hc2 hc.heap (by decide)
  unfold put1
  by_cases hl : L.length = size
  · rw [if_pos hl, if_pos hl]
    rw [hl] at hc
    refine (put1_full g c1 c2 b size first lost t x w hc hc1 hc2 h1 h2 h3 ht).mono fun e w' ⟨he, w1, f1, d, hr, hf, hm, hE, hw⟩ => ?_
    have hc2' := hE.heap hc2 hne2
    have hr2 : RingCells (w1.setCell ⟨c2, 0, none⟩ (.int .i64 ((t : Int) + 1))) g b size f1 (size - 1) lost := ⟨(heap_setCell_other (fun e => hne2 e.symm) _).trans hr.heap, hr.len⟩
    have hdl : (L.drop 1).length = size - 1 := by simp [hl]
    have hr3 := hr2.put x (q := (f1 + (L.drop 1).length) % size) (by have := Nat.mod_lt (f1 + (L.drop 1).length) (show 0 < size by omega); omega) size (by omega)
    have hh := put_holds (L := L.drop 1) x hc.len h2 hf (by omega) (fun i hi => by
      rw [hm, h5 _ (by simp at hi; omega), getD_drop'])
    subst hw
    rw [hdl] at hr3 hh
    refine ⟨he, IsRing.shut (n := size) ⟨hr3.heap, hr3.len⟩ (by simp [hl]; omega) h1 h2 hf (by simp [hl]; omega) hh, ?_, ?_⟩
    · show (((w1.setCell _ _).setCell _ _).setCell _ _).heap[c2]? = _
      rw [heap_setCell_other hne2, heap_setCell_other hne2, heap_setCell_same hc2']
      rfl
    · exact ((((hE.mono fun _ _ h => .inl h).setCell (p := ⟨c2, 0, none⟩) (.inr (.inr rfl)) _).setCell (p := ⟨g, _, none⟩) (.inr (.inl rfl)) _).setCell (p := ⟨g, _, none⟩) (.inr (.inl rfl)) _).drewN d
  · rw [if_neg hl, if_neg hl]
    refine (put1_room g c1 c2 b size first L.length lost x w hc hc1 h1 h2 h3 (by omega)).mono fun e w' ⟨he, d, hw⟩ => ?_
    have hr3 := hc.put x (q := (first + L.length) % size) (by have := Nat.mod_lt (first + L.length) (show 0 < size by omega); omega) (L.length + 1) rfl
    have hh := put_holds (L := L) x hc.len h2 h3 (by omega) h5
    subst hw
    refine ⟨he, IsRing.shut (n := L.length + 1) ⟨hr3.heap, hr3.len⟩ (by simp) h1 h2 h3 (by simp; omega) hh, ?_, ?_⟩
    · show ((w.setCell _ _).setCell _ _).heap[c2]? = _
      rw [heap_setCell_other hne2, heap_setCell_other hne2, hc2]
      rfl
    · exact (((Ext.refl _ w).setCell (p := ⟨g, _, none⟩) (.inr (.inl rfl)) _).setCell (p := ⟨g, _, none⟩) (.inr (.inl rfl)) _).drewN d

/-- Put of some bytes. -/
def putL (size : Nat) (L xs : List UInt8) : List UInt8 := xs.foldl (put1 size) L
theorem put1_length {size : Nat} {L : List UInt8} (x : UInt8) (h0 : 0 < size) : (put1 size L x).length = if L.length = size then size else L.length + 1 := by
  unfold put1; split <;> simp <;> omega
theorem putL_snoc (size : Nat) (L xs : List UInt8) (x : UInt8) : putL size L (xs ++ [x]) = put1 size (putL size L xs) x := by simp [putL]
theorem putL_length {size : Nat} {L : List UInt8} (xs : List UInt8) (h : L.length ≤ size) (h0 : 0 < size) : (putL size L xs).length = if L.length + xs.length ≤ size then L.length + xs.length else size := by
  refine snoc_ind (P := fun xs => (putL size L xs).length = if L.length + xs.length ≤ size then L.length + xs.length else size) (by simp [putL, h]) (fun xs x ih => ?_) xs
  rw [putL_snoc, put1_length x h0, ih]
  simp only [List.length_append, List.length_cons, List.length_nil]
  (repeat' split) <;> omega
theorem putL_eq {size : Nat} {L : List UInt8} (xs : List UInt8) (h : L.length ≤ size) (h0 : 0 < size) : putL size L xs = (L ++ xs).drop (L.length + xs.length - size) := by
  refine snoc_ind (P := fun xs => putL size L xs = (L ++ xs).drop (L.length + xs.length - size)) (by simp [putL, Nat.sub_eq_zero_of_le h]) (fun xs x ih => ?_) xs
  have hl := putL_length xs h h0
  rw [putL_snoc]
  unfold put1
  have e : (xs ++ [x]).length = xs.length + 1 := by simp
  by_cases hf : L.length + xs.length < size
  · rw [if_pos (by omega)] at hl
    rw [if_neg (by omega), ih, ← List.append_assoc, Nat.sub_eq_zero_of_le (by omega), Nat.sub_eq_zero_of_le (by omega)]
    rfl
  · have hl' : (putL size L xs).length = size := by rw [hl]; split <;> omega
    have e2 : L.length + (xs ++ [x]).length - size = L.length + xs.length - size + 1 := by rw [e]; omega
    rw [if_pos hl', ih, List.drop_drop, e2, ← List.append_assoc L xs [x], List.drop_append_of_le_length (l₁ := L ++ xs) (by rw [List.length_append]; omega)]

set_option maxRecDepth 100000 in
set_option maxHeartbeats 800000 in
theorem ring_put (g : Nat) (size : Nat) (L xs : List UInt8) (lost : Nat) (v : Value) (w : World) (h : IsRing w g size L lost) (hB : Bs w v xs) (hx : xs.length ≤ 140737488355328) (hne : v.ownBlock = some g → xs = []) (hlost : lost ≤ 2305843009213693952) :
    Calls Try.prog 23 #[.pointer (some ⟨g, 0, none⟩), v] w fun e w' => e = .returned (.int .i64 ((L.length + xs.length - size : Nat) : Int)) ∧
      IsRing w' g size (putL size L xs) ((lost + (L.length + xs.length - size) : Nat) : Int) ∧ Ext (OneB g) w w' := by
  obtain ⟨A, c, rfl, _, hbs⟩ := hB
  have hlen := h.len
  have hg := h.lt
  have H := Lib.hid h
  have HB := Lib.hid hbs
  have HN := Lib.hid hne
  have hz : ((size : Int) == 0) = false := by simp; omega
  clear h hbs hne
  go_enter Try.func23, Try.ntmps23
  go_wp2_with (go_at_call 60; refine (ring_size _ _ _ _ _ ((H.out.alloc _).alloc _)).mono ?_; rintro e w' ⟨rfl, rfl⟩)
  go_loopw [14] (fun i wr => ∃ k : Nat, k ≤ xs.length ∧ i = .int .i64 k ∧ IsRing wr g size (putL size L (xs.take k)) lost ∧ wr.heap[w.heap.size]? = some (.cells #[.pointer (some ⟨g, 0, none⟩)] 42 (0, 0)) ∧
      wr.heap[w.heap.size + 1]? = some (.cells #[.int .i64 ((L.length + k - size : Nat) : Int)] 3 (0, 0)) ∧ Ext (OneB g) w wr) (fun i _ => xs.length - (intOf i).toNat)
  case atStart =>
    exact ⟨0, Nat.zero_le _, rfl, by simpa [putL] using (H.out.alloc _).alloc _, heap_alloc_lt (heap_alloc_same _ _) _, by
      rw [show L.length + 0 - size = 0 by omega]; simpa using heap_alloc_same (w.alloc (.cells #[.pointer (some ⟨g, 0, none⟩)] 42)) (.cells #[.int .i64 0] 3), ((Ext.refl _ _).alloc _).alloc _⟩
  case round =>
    obtain ⟨k, hk, rfl, hr, hb1, hb2, hE⟩ := hrel
    have hll := putL_length (size := size) (L := L) (xs.take k) (by omega) (by omega)
    rw [List.length_take, Nat.min_eq_left hk] at hll
    by_cases hlt : k < xs.length
    · obtain ⟨gb, off, rfl, hcell⟩ := HB.out k hlt
      have hnb : ¬ gb = g := fun e => by have := HN.out (by rw [e]; rfl); rw [this] at hlt; exact Nat.not_lt_zero _ hlt
      have hcell' := hE.cellv hcell hnb
      have hsn : xs.take (k + 1) = xs.take k ++ [xs[k]] := by rw [List.take_succ_eq_append_getElem hlt]
      have hHR := Lib.hid hr
      have hH1 := Lib.hid hb1
      have hH2 := Lib.hid hb2
      have hHE := Lib.hid hE
      have hHS := Lib.hid hsn
      have hHL := Lib.hid hll
      clear hr hb1 hb2 hE hsn hcell hll
      go_wp2_with (go_at_call 61; go_must (refine (put1_any g _ _ size _ lost _ _ _ hHR.out hH1.out hH2.out (by omega)).mono ?_); rintro e w' ⟨rfl, hr', hb2', hE'⟩)
      go_roundw
      case rel =>
        refine ⟨k + 1, by omega, by go_num, by rw [hHS.out, putL_snoc]; exact hr', hE'.heap hH1.out (by rintro (h | h) <;> omega), ?_, hHE.out.trans hE' (fun _ _ h => h) (fun i hi h => h.elim id (fun h => by omega))⟩
        rw [hb2', hHL.out]
        congr 5
        split <;> split <;> omega
      case measure => simp [intOf]; omega
    · have hke : k = xs.length := by omega
      obtain ⟨b, first, hrc, r1, r2, r3, r4, r5⟩ := hr.open_
      have hl0 := hrc.lost
      have hfl := hrc.frozen 4099
      have hc1c : wr.cell? ⟨w.heap.size, 0, none⟩ = some (.pointer (some ⟨g, 0, none⟩)) := (cell_of hb1 0).trans rfl
      have hc2c : wr.cell? ⟨w.heap.size + 1, 0, none⟩ = some (.int .i64 ((L.length + k - size : Nat) : Int)) := (cell_of hb2 0).trans rfl
      have hfc2 : wr.frozen? ⟨w.heap.size + 1, 0, none⟩ = false := frozen_of hb2 0 none
      obtain ⟨t, ht⟩ : ∃ t, t = L.length + k - size := ⟨_, rfl⟩
      rw [← ht] at hc2c
      have ht2 : t ≤ 140737488359424 := by omega
      have hHR := Lib.hid hrc
      have hH1 := Lib.hid hb1
      have hH2 := Lib.hid hb2
      have hHE := Lib.hid hE
      have hHK := Lib.hid hke
      have hHT := Lib.hid ht
      have hHL := Lib.hid hll
      have hR5 := Lib.hid r5
      have n1 : ¬ g = w.heap.size + 1 := by omega
      have n2 : ¬ w.heap.size + 1 = g := by omega
      have n3 : ¬ g = w.heap.size := by omega
      clear hb1 hb2 hE hke ht hll hr hrc r5
      go_wp2_with fail
      (refine wp_region_quiet_tail 8 (by kernel_rfl) (by kernel_rfl) ?_; (simp only [List.take_succ_cons, List.take_zero, List.drop_succ_cons, List.drop_zero]); (repeat go_big_quiet_step (fail)); refine wpQuiet_nil ?_; intro _ hw'; obtain ⟨nq, hw''⟩ := hw'; subst hw'')
      go_wp2_with fail
      refine bodyPost_ret (v := .int .i64 (t : Int)) (by simp [results, Try.results23, go_sem, hc2c]) rfl ?_
      have hr' := hHR.out
      have hw : xs.take k = xs := by rw [hHK.out]; exact List.take_length
      refine ⟨ret_int (by rw [hHT.out, hHK.out]), ?_, ?_⟩
      · have h5 := hR5.out
        rw [hw] at h5 hr'
        refine IsRing.shut (b := b) (first := first) (n := (putL size L xs).length) ⟨?_, hr'.len⟩ rfl r1 r2 r3 (by rw [hw] at r4; exact r4) h5
        rw [heap_setCell_other n1, heap_setCell_same (w := wr.drewN nq) hr'.heap, ringArr_set_lost hr'.len, hHT.out, hHK.out]
        rfl
      · exact ((((hHE.out).drewN nq).setCell (p := ⟨g, _, none⟩) (.inr rfl) _).setCell (p := ⟨w.heap.size + 1, _, none⟩) (.inl (by show w.heap.size ≤ w.heap.size + 1; omega)) _)

end Go.Proofs.Ytfgglffjigolhaa
