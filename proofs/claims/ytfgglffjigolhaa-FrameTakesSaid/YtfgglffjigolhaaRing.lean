/- The ring: what each of its calls does. -/
import Derived.Test.YtfgglffjigolhaaBase
namespace Go.Proofs.Ytfgglffjigolhaa
open Go.RowKit

/-- A ring's block, field by field. -/
def ringArr (b : List UInt8) (size first n lost : Int) : Array Value := (b.map bv ++ ([.int .i64 size, .int .i64 first, .int .i64 n, .int .i64 lost] : List Value)).toArray

theorem ringArr_byte {b : List UInt8} (hb : b.length = 4096) (size first n lost : Int) {i : Nat} (h : i < 4096) : (ringArr b size first n lost)[i]? = some (bv (b.getD i 0)) := by
  unfold ringArr
  rw [List.getElem?_toArray, List.getElem?_append_left (by simpa [hb] using h), List.getElem?_map, List.getElem?_eq_getElem (by omega)]
  simp [List.getD, List.getElem?_eq_getElem (show i < b.length by omega)]
theorem ringArr_4096 {b : List UInt8} (hb : b.length = 4096) (size first n lost : Int) : (ringArr b size first n lost)[4096]? = some (.int .i64 size) := by
  unfold ringArr; rw [List.getElem?_toArray, List.getElem?_append_right (by simp [hb])]; simp [hb]
theorem ringArr_4097 {b : List UInt8} (hb : b.length = 4096) (size first n lost : Int) : (ringArr b size first n lost)[4097]? = some (.int .i64 first) := by
  unfold ringArr; rw [List.getElem?_toArray, List.getElem?_append_right (by simp [hb])]; simp [hb]
theorem ringArr_4098 {b : List UInt8} (hb : b.length = 4096) (size first n lost : Int) : (ringArr b size first n lost)[4098]? = some (.int .i64 n) := by
  unfold ringArr; rw [List.getElem?_toArray, List.getElem?_append_right (by simp [hb])]; simp [hb]
theorem ringArr_4099 {b : List UInt8} (hb : b.length = 4096) (size first n lost : Int) : (ringArr b size first n lost)[4099]? = some (.int .i64 lost) := by
  unfold ringArr; rw [List.getElem?_toArray, List.getElem?_append_right (by simp [hb])]; simp [hb]
theorem ringArr_set_first {b : List UInt8} (hb : b.length = 4096) (size first n lost x : Int) : (ringArr b size first n lost).setIfInBounds 4097 (.int .i64 x) = ringArr b size x n lost := by
  unfold ringArr; rw [List.setIfInBounds_toArray, List.set_append_right _ _ (by simp [hb])]; simp [hb]
theorem ringArr_set_n {b : List UInt8} (hb : b.length = 4096) (size first n lost x : Int) : (ringArr b size first n lost).setIfInBounds 4098 (.int .i64 x) = ringArr b size first x lost := by
  unfold ringArr; rw [List.setIfInBounds_toArray, List.set_append_right _ _ (by simp [hb])]; simp [hb]
theorem ringArr_set_lost {b : List UInt8} (hb : b.length = 4096) (size first n lost x : Int) : (ringArr b size first n lost).setIfInBounds 4099 (.int .i64 x) = ringArr b size first n x := by
  unfold ringArr; rw [List.setIfInBounds_toArray, List.set_append_right _ _ (by simp [hb])]; simp [hb]
theorem ringArr_set_byte {b : List UInt8} (hb : b.length = 4096) (size first n lost : Int) {i : Nat} (hi : i < 4096) (x : UInt8) : (ringArr b size first n lost).setIfInBounds i (bv x) = ringArr (b.set i x) size first n lost := by
  unfold ringArr; rw [List.setIfInBounds_toArray, List.set_append_left _ _ (by simpa [hb] using hi), List.map_set]

/-- A ring of 'size' places that holds the bytes L, and has lost so many. -/
def IsRing (w : World) (g : Nat) (size : Nat) (L : List UInt8) (lost : Int) : Prop :=
  ∃ (b : List UInt8) (first : Nat), w.heap[g]? = some (.cells (ringArr b size first L.length lost) 124 (0, 0)) ∧ b.length = 4096 ∧ 64 ≤ size ∧ size ≤ 4096 ∧ first < size ∧ L.length ≤ size ∧
    ∀ i, i < L.length → b.getD ((first + i) % size) 0 = L.getD i 0

theorem IsRing.lt {w : World} {g size : Nat} {L : List UInt8} {lost : Int} (h : IsRing w g size L lost) : g < w.heap.size := by
  obtain ⟨b, first, hb, _⟩ := h; exact heap_lt hb
theorem IsRing.kept {w w' : World} {S : Nat → Prop} {g size : Nat} {L : List UInt8} {lost : Int} (h : IsRing w g size L lost) (hE : Ext S w w') (hn : ¬ S g) : IsRing w' g size L lost := by
  obtain ⟨b, first, hb, r⟩ := h; exact ⟨b, first, hE.heap hb hn, r⟩
theorem IsRing.heap_eq {w w' : World} {g size : Nat} {L : List UInt8} {lost : Int} (h : IsRing w g size L lost) (hE : w'.heap[g]? = w.heap[g]?) : IsRing w' g size L lost := by
  obtain ⟨b, first, hb, r⟩ := h; exact ⟨b, first, hE.trans hb, r⟩
theorem IsRing.alloc {w : World} {g size : Nat} {L : List UInt8} {lost : Int} (h : IsRing w g size L lost) (o : Obj) : IsRing (w.alloc o) g size L lost := h.kept ((Ext.refl NoB w).alloc o) (fun x => x)
theorem IsRing.drewN {w : World} {g size : Nat} {L : List UInt8} {lost : Int} (h : IsRing w g size L lost) (n : Nat) : IsRing (w.drewN n) g size L lost := h
theorem IsRing.drew {w : World} {g size : Nat} {L : List UInt8} {lost : Int} (h : IsRing w g size L lost) : IsRing w.drew g size L lost := h
theorem IsRing.far {w : World} {g size : Nat} {L : List UInt8} {lost : Int} (h : IsRing w g size L lost) {p : Addr} (hp : ¬ g = p.block) (v : Value) : IsRing (w.setCell p v) g size L lost := h.heap_eq (heap_setCell_other hp v)
theorem IsRing.below {w w' : World} {g size : Nat} {L : List UInt8} {lost : Int} (h : IsRing w g size L lost) (hE : Below w.heap.size w w') : IsRing w' g size L lost := h.kept (S := NoB) (Ext.of_below hE) (fun x => x)
theorem IsRing.len {w : World} {g size : Nat} {L : List UInt8} {lost : Int} (h : IsRing w g size L lost) : L.length ≤ size ∧ size ≤ 4096 ∧ 64 ≤ size := by
  obtain ⟨b, first, hb, _, h1, h2, _, h3, _⟩ := h; exact ⟨h3, h2, h1⟩

set_option maxHeartbeats 400000 in
theorem ring_new_bad (size : Int) (w : World) (h : ¬ (64 ≤ size ∧ size ≤ 4096)) :
    Calls Try.prog 21 #[.int .i64 size] w fun e w' => e = .returned (.tuple #[.pointer none, .int .i64 2]) ∧ w = w' := by
  by_cases h1 : size < 64
  · go_enter Try.func21, Try.ntmps21
    go_wp2
    go_ret2
    exact ⟨rfl, rfl⟩
  · have h2 : 4096 < size := by omega
    go_enter Try.func21, Try.ntmps21
    go_wp2
    go_ret2
    exact ⟨rfl, rfl⟩

theorem zero_ring : Try.zeroCells124 = ringArr (List.replicate 4096 0) 0 0 0 0 := by kernel_rfl
theorem ringArr_set_size {b : List UInt8} (hb : b.length = 4096) (size first n lost x : Int) : (ringArr b size first n lost).setIfInBounds 4096 (.int .i64 x) = ringArr b x first n lost := by
  unfold ringArr; rw [List.setIfInBounds_toArray, List.set_append_right _ _ (by simp [hb])]; simp [hb]

set_option maxHeartbeats 400000 in
theorem ring_new_ok (size : Nat) (w : World) (h1 : 64 ≤ size) (h2 : size ≤ 4096) :
    Calls Try.prog 21 #[.int .i64 size] w fun e w' => ∃ g, e = .returned (.tuple #[.pointer (some ⟨g, 0, none⟩), .int .i64 0]) ∧ IsRing w' g size [] 0 ∧ w.heap.size ≤ g ∧ Below w.heap.size w w' := by
  go_enter Try.func21, Try.ntmps21
  go_wp2_with fail
  go_ret2
  refine ⟨_, rfl, ⟨List.replicate 4096 0, 0, ?_, List.length_replicate .., h1, h2, by omega, Nat.zero_le _, fun i hi => absurd hi (Nat.not_lt_zero _)⟩, Nat.le_refl _, (Below.refl _ _).alloc (Nat.le_refl _) _⟩
  rw [heap_alloc_same, zero_ring, ringArr_set_size (List.length_replicate ..)]
  rfl

theorem ring_size_nil (w : World) : Calls Try.prog 60 #[.pointer none] w fun e w' => e = .returned (.int .i64 0) ∧ w = w' := by
  go_enter Try.func60, Try.ntmps60
  go_wp2
  go_ret
  exact ⟨rfl, rfl⟩
theorem ring_len_nil (w : World) : Calls Try.prog 31 #[.pointer none] w fun e w' => e = .returned (.int .i64 0) ∧ w = w' := by
  go_enter Try.func31, Try.ntmps31
  go_wp2
  go_ret
  exact ⟨rfl, rfl⟩
theorem ring_size_cell (g : Nat) (n : Int) (w : World) (h : w.cell? ⟨g, 4096, none⟩ = some (.int .i64 n)) :
    Calls Try.prog 60 #[.pointer (some ⟨g, 0, none⟩)] w fun e w' => e = .returned (.int .i64 n) ∧ w = w' := by
  go_enter Try.func60, Try.ntmps60
  go_wp2
  go_ret
  exact ⟨rfl, rfl⟩
theorem ring_len_cell (g : Nat) (n : Int) (w : World) (h : w.cell? ⟨g, 4098, none⟩ = some (.int .i64 n)) :
    Calls Try.prog 31 #[.pointer (some ⟨g, 0, none⟩)] w fun e w' => e = .returned (.int .i64 n) ∧ w = w' := by
  go_enter Try.func31, Try.ntmps31
  go_wp2
  go_ret
  exact ⟨rfl, rfl⟩
theorem ring_place_cell (g : Nat) (i size first : Nat) (w : World) (h : w.cell? ⟨g, 4096, none⟩ = some (.int .i64 size)) (h' : w.cell? ⟨g, 4097, none⟩ = some (.int .i64 first))
    (h2 : i ≤ 4096) (h4 : first < size) (h5 : 64 ≤ size) (h6 : size ≤ 4096) :
    Calls Try.prog 63 #[.pointer (some ⟨g, 0, none⟩), .int .i64 i] w fun e w' => e = .returned (.int .i64 (((first + i) % size : Nat) : Int)) ∧ ∃ n, w' = w.drewN n := by
  go_enter Try.func63, Try.ntmps63
  go_wp2
  go_quiet (fail)
  go_wp2
  go_ret
  exact ⟨ret_int (by simp), _, rfl⟩

/-- What Drop does to a block of a ring. -/
def DropTo (g first size n k : Nat) (w w' : World) : Prop :=
  (k = 0 ∧ ∃ d, w' = w.drewN d) ∨ (0 < k ∧ ∃ d, w' = ((w.setCell ⟨g, 4097, none⟩ (.int .i64 (((first + k) % size : Nat) : Int))).setCell ⟨g, 4098, none⟩ (.int .i64 ((n : Int) - k))).drewN d)

set_option maxHeartbeats 400000 in
theorem ring_drop_none (g : Nat) (n : Nat) (i : Int) (w : World) (h'' : w.cell? ⟨g, 4098, none⟩ = some (.int .i64 n)) (hi : i ≤ 0) :
    Calls Try.prog 62 #[.pointer (some ⟨g, 0, none⟩), .int .i64 i] w fun e w' => e = .returned (.int .i64 0) ∧ w = w' := by
  have h1 : ¬ (n : Int) < i := by omega
  have h2 : ¬ 0 < i := by omega
  go_enter Try.func62, Try.ntmps62
  go_wp2_with (go_at_call 31; refine (ring_len_cell _ _ _ h'').mono ?_; rintro e w' ⟨rfl, rfl⟩)
  go_ret
  exact ⟨rfl, rfl⟩
set_option maxHeartbeats 400000 in
theorem ring_drop_empty (g : Nat) (i : Int) (w : World) (h'' : w.cell? ⟨g, 4098, none⟩ = some (.int .i64 0)) :
    Calls Try.prog 62 #[.pointer (some ⟨g, 0, none⟩), .int .i64 i] w fun e w' => e = .returned (.int .i64 0) ∧ w = w' := by
  by_cases h1 : 0 < i
  all_goals
    go_enter Try.func62, Try.ntmps62
    go_wp2_with (go_at_call 31; refine (ring_len_cell _ _ _ h'').mono ?_; rintro e w' ⟨rfl, rfl⟩)
    go_ret
    exact ⟨ret_int (by omega), rfl⟩
set_option maxHeartbeats 400000 in
theorem ring_drop_some (g : Nat) (k size first : Nat) (n : Nat) (i : Int) (w : World) (h : w.cell? ⟨g, 4096, none⟩ = some (.int .i64 size)) (h' : w.cell? ⟨g, 4097, none⟩ = some (.int .i64 first))
    (h'' : w.cell? ⟨g, 4098, none⟩ = some (.int .i64 n)) (hf1 : w.frozen? ⟨g, 4097, none⟩ = false) (hf2 : w.frozen? ⟨g, 4098, none⟩ = false)
    (hn : n ≤ size) (h4 : first < size) (h5 : 64 ≤ size) (h6 : size ≤ 4096) (hk : (k : Int) = min i n) (hk0 : 0 < k) :
    Calls Try.prog 62 #[.pointer (some ⟨g, 0, none⟩), .int .i64 i] w fun e w' => e = .returned (.int .i64 k) ∧ DropTo g first size n k w w' := by
  have hkn : k ≤ n := by omega
  have hki : (k : Int) ≤ i := by omega
  have H := Lib.hid hk
  by_cases hi : (n : Int) < i
  · obtain rfl : k = n := by omega
    clear hk
    go_enter Try.func62, Try.ntmps62
    go_wp2_with (first | (go_at_call 31; refine (ring_len_cell _ _ _ h'').mono ?_; rintro e w' ⟨rfl, rfl⟩) | (go_at_call 63; refine (ring_place_cell _ k _ _ _ h h' (by omega) h4 h5 h6).mono ?_; rintro e w' ⟨rfl, nd, rfl⟩))
    go_ret
    exact ⟨rfl, .inr ⟨hk0, nd, by rw [Int.sub_self]; rfl⟩⟩
  · obtain rfl : i = (k : Int) := by omega
    clear hk
    go_enter Try.func62, Try.ntmps62
    go_wp2_with (first | (go_at_call 31; refine (ring_len_cell _ _ _ h'').mono ?_; rintro e w' ⟨rfl, rfl⟩) | (go_at_call 63; refine (ring_place_cell _ k _ _ _ h h' (by omega) h4 h5 h6).mono ?_; rintro e w' ⟨rfl, nd, rfl⟩))
    go_ret
    exact ⟨rfl, .inr ⟨hk0, nd, rfl⟩⟩

set_option maxHeartbeats 400000 in
theorem ring_at_low (g : Nat) (i : Int) (w : World) (hi : i < 0) :
    Calls Try.prog 99 #[.pointer (some ⟨g, 0, none⟩), .int .i64 i] w fun e w' => e = .returned (.tuple #[.int .u8 0, .bool false]) ∧ w = w' := by
  go_enter Try.func99, Try.ntmps99
  go_wp2
  go_ret2
  exact ⟨rfl, rfl⟩
set_option maxHeartbeats 400000 in
theorem ring_at_high (g : Nat) (n : Int) (i : Int) (w : World) (h : w.cell? ⟨g, 4098, none⟩ = some (.int .i64 n)) (h0 : 0 ≤ i) (hi : n ≤ i) :
    Calls Try.prog 99 #[.pointer (some ⟨g, 0, none⟩), .int .i64 i] w fun e w' => e = .returned (.tuple #[.int .u8 0, .bool false]) ∧ w = w' := by
  go_enter Try.func99, Try.ntmps99
  go_wp2_with (go_at_call 31; refine (ring_len_cell _ _ _ h).mono ?_; rintro e w' ⟨rfl, rfl⟩)
  go_ret2
  exact ⟨rfl, rfl⟩
set_option maxHeartbeats 400000 in
theorem ring_at_nil (i : Int) (w : World) :
    Calls Try.prog 99 #[.pointer none, .int .i64 i] w fun e w' => e = .returned (.tuple #[.int .u8 0, .bool false]) ∧ w = w' := by
  by_cases h0 : 0 ≤ i
  all_goals
    go_enter Try.func99, Try.ntmps99
    go_wp2_with (go_at_call 31; refine (ring_len_nil _).mono ?_; rintro e w' ⟨rfl, rfl⟩)
    go_ret2
    exact ⟨rfl, rfl⟩
set_option maxRecDepth 100000 in
set_option maxHeartbeats 400000 in
theorem ring_at_cell (g : Nat) (i size first n : Nat) (b : List UInt8) (w : World) (h : w.cell? ⟨g, 4096, none⟩ = some (.int .i64 size)) (h' : w.cell? ⟨g, 4097, none⟩ = some (.int .i64 first))
    (h'' : w.cell? ⟨g, 4098, none⟩ = some (.int .i64 n)) (hb : w.cell? ⟨g, (first + i) % size, none⟩ = some (bv (b.getD ((first + i) % size) 0)))
    (h2 : i < n) (hn : n ≤ size) (h4 : first < size) (h5 : 64 ≤ size) (h6 : size ≤ 4096) :
    Calls Try.prog 99 #[.pointer (some ⟨g, 0, none⟩), .int .i64 i] w fun e w' => e = .returned (.tuple #[bv (b.getD ((first + i) % size) 0), .bool true]) ∧ ∃ m, w' = w.drewN m := by
  have hq : (first + i) % size < size := Nat.mod_lt _ (by omega)
  obtain ⟨q, hqq⟩ : ∃ q, q = (first + i) % size := ⟨_, rfl⟩
  rw [← hqq] at hb hq ⊢
  have hp : ∀ W : World, (W.cell? ⟨g, 4096, none⟩ = some (.int .i64 size)) → W.cell? ⟨g, 4097, none⟩ = some (.int .i64 first) → Calls Try.prog 63 #[.pointer (some ⟨g, 0, none⟩), .int .i64 i] W fun e w' => e = .returned (.int .i64 (q : Int)) ∧ ∃ n, w' = W.drewN n := by
    intro W a b; rw [hqq]; exact ring_place_cell _ i _ _ _ a b (by omega) h4 h5 h6
  have H := Lib.hid hqq
  have HP := Lib.hid hp
  clear hqq hp
  have q1 : (q : Int) < 4096 := by omega
  go_enter Try.func99, Try.ntmps99
  go_wp2_with (go_at_call 31; refine (ring_len_cell _ _ _ h'').mono ?_; rintro e w' ⟨rfl, rfl⟩)
  go_quiet ((go_at_call 63; exact Calls.quiet_of (HP.out _ h h')))
  go_wp2
  go_ret2
  exact ⟨rfl, _, rfl⟩

end Go.Proofs.Ytfgglffjigolhaa
