/- The sums of layer 7. -/
import Derived.Test.YtfgglffjigolhaaBytes
import Derived.Laws.BitsAllLaws
namespace Go.Proofs.Ytfgglffjigolhaa
open Go.RowKit

theorem bv_xor (y x : UInt8) : Value.int .u8 (bits .xor .u8 (y.toNat : Int) (x.toNat : Int)) = bv (y ^^^ x) := by
  rw [u8_xor_nat _ _ (UInt8.toNat_lt y) (UInt8.toNat_lt x), ← UInt8.toNat_xor]
theorem bv_add (y x : UInt8) : Value.int .u8 (((y.toNat : Int) + (x.toNat : Int)) % 256) = bv (y + x) := by
  show _ = Value.int .u8 (((y + x).toNat : Nat) : Int)
  rw [UInt8.toNat_add]; rfl
theorem bv_add3 (z y x : UInt8) : Value.int .u8 (((z.toNat : Int) + ((y.toNat : Int) + (x.toNat : Int))) % 256) = bv (z + (y + x)) := by
  show _ = Value.int .u8 (((z + (y + x)).toNat : Nat) : Int)
  rw [UInt8.toNat_add, UInt8.toNat_add, Nat.add_mod_mod]; rfl

theorem xor1 (c : Nat) (x y : UInt8) (w : World) (h : w.heap[c]? = some (.cells #[bv y] 5 (0, 0))) :
    Calls Try.prog 128 #[bv x, .pointer (some ⟨c, 0, none⟩)] w fun e w' => e = .returned (.tuple #[]) ∧ w'.heap[c]? = some (.cells #[bv (y ^^^ x)] 5 (0, 0)) ∧ Ext (OneB c) w w' := by
  have hc : w.cell? ⟨c, 0, none⟩ = some (bv y) := (cell_of h 0).trans rfl
  have hf : w.frozen? ⟨c, 0, none⟩ = false := frozen_of h 0 none
  have H := Lib.hid h
  clear h
  go_enter Try.func128, Try.ntmps128
  go_wp2_with fail
  go_end0
  exact ⟨rfl, by rw [bv_xor, heap_setCell_same H.out]; rfl, (Ext.refl _ _).set1 _ _⟩
theorem fletcher1 (c d : Nat) (x y z : UInt8) (w : World) (h : w.heap[c]? = some (.cells #[bv y] 5 (0, 0))) (h' : w.heap[d]? = some (.cells #[bv z] 5 (0, 0))) (hne : ¬ c = d) :
    Calls Try.prog 106 #[bv x, .pointer (some ⟨c, 0, none⟩), .pointer (some ⟨d, 0, none⟩)] w fun e w' => e = .returned (.tuple #[]) ∧ w'.heap[c]? = some (.cells #[bv (y + x)] 5 (0, 0)) ∧
      w'.heap[d]? = some (.cells #[bv (z + (y + x))] 5 (0, 0)) ∧ Ext (fun k => k = c ∨ k = d) w w' := by
  have hc : w.cell? ⟨c, 0, none⟩ = some (bv y) := (cell_of h 0).trans rfl
  have hf : w.frozen? ⟨c, 0, none⟩ = false := frozen_of h 0 none
  have hc' : w.cell? ⟨d, 0, none⟩ = some (bv z) := (cell_of h' 0).trans rfl
  have hf' : w.frozen? ⟨d, 0, none⟩ = false := frozen_of h' 0 none
  have hne' : ¬ d = c := fun e => hne e.symm
  have H := Lib.hid h
  have H' := Lib.hid h'
  clear h h'
  go_enter Try.func106, Try.ntmps106
  go_wp2_with fail
  go_end0
  refine ⟨rfl, ?_, ?_, ((Ext.refl _ _).setCell (p := ⟨c, _, none⟩) (.inr (.inl rfl)) _).setCell (p := ⟨d, _, none⟩) (.inr (.inr rfl)) _⟩
  · rw [heap_setCell_other hne, bv_add, heap_setCell_same H.out]; rfl
  · rw [bv_add3, heap_setCell_same ((heap_setCell_other hne' _).trans H'.out)]; rfl
theorem fifteen1 (c : Nat) (x : UInt8) (y : Nat) (w : World) (h : w.heap[c]? = some (.cells #[.int .u16 y] 89 (0, 0))) (hy : y < 32768) :
    Calls Try.prog 107 #[bv x, .pointer (some ⟨c, 0, none⟩)] w fun e w' => e = .returned (.tuple #[]) ∧ w'.heap[c]? = some (.cells #[.int .u16 (((y + x.toNat) % 32768 : Nat) : Int)] 89 (0, 0)) ∧ Ext (OneB c) w w' := by
  have hc : w.cell? ⟨c, 0, none⟩ = some (.int .u16 y) := (cell_of h 0).trans rfl
  have hf : w.frozen? ⟨c, 0, none⟩ = false := frozen_of h 0 none
  have H := Lib.hid h
  clear h
  go_enter Try.func107, Try.ntmps107
  go_wp2_with fail
  go_end0
  have hx := UInt8.toNat_lt x
  have e : bits BinOp.and IntKind.u16 (IntKind.u16.wrap ((y : Int) + IntKind.u16.wrap (x.toNat : Int))) 32767 = (((y + x.toNat) % 32768 : Nat) : Int) := by
    have e1 : IntKind.u16.wrap ((y : Int) + IntKind.u16.wrap (x.toNat : Int)) = ((y + x.toNat : Nat) : Int) := by rw [IntKind.wrap_u16, IntKind.wrap_u16]; omega
    rw [e1, show (32767 : Int) = ((32767 : Nat) : Int) from rfl, u16_and_nat _ _ (by omega) (by omega)]
    congr 1
    exact Nat.and_two_pow_sub_one_eq_mod (y + x.toNat) 15
  exact ⟨rfl, by rw [e, heap_setCell_same H.out]; rfl, (Ext.refl _ _).set1 _ _⟩

set_option maxHeartbeats 800000 in
theorem each_128 (c : Nat) (v : Value) (L : List UInt8) (I : Nat → World → Prop) (w : World) (hl : L.length ≤ 140737488355328) (hB : ∀ j W, I j W → Bs W v L) (h0 : I 0 w)
    (hI : ∀ j (hj : j < L.length) W, I j W → Calls Try.prog 128 #[bv L[j], .pointer (some ⟨c, 0, none⟩)] W fun e w' => e = .returned (.tuple #[]) ∧ I (j + 1) w') :
    Calls Try.prog 105 #[v, .func (.func 128) #[] #[.pointer (some ⟨c, 0, none⟩)]] w fun e w' => e = .returned (.tuple #[]) ∧ I L.length w' := by
  obtain ⟨A, cap, rfl, _⟩ := hB 0 w h0
  have HB := Lib.hid hB
  have HI := Lib.hid hI
  have H0 := Lib.hid h0
  clear hB hI h0
  go_enter Try.func105, Try.ntmps105
  go_wp2_with fail
  go_loopw [8] (fun i wr => ∃ j : Nat, j ≤ L.length ∧ i = .int .i64 j ∧ I j wr) (fun i _ => L.length - (intOf i).toNat)
  case atStart => exact ⟨0, Nat.zero_le _, rfl, H0.out⟩
  case round =>
    obtain ⟨j, hj, rfl, hr⟩ := hrel
    have HR := Lib.hid hr
    clear hr
    by_cases hlt : j < L.length
    · obtain ⟨g, off, rfl, _, hcell⟩ := Bs.at_ (HB.out j wr HR.out) hlt
      go_wp2_with (go_at_call 128; refine (HI.out j hlt _ HR.out).mono ?_; rintro e w' ⟨rfl, hI'⟩)
      go_roundw
      case rel => exact ⟨j + 1, by omega, by go_num, hI'⟩
      case measure => simp [intOf]; omega
    · obtain rfl : j = L.length := by omega
      go_wp2_with fail
      go_end0
      exact ⟨rfl, HR.out⟩
set_option maxHeartbeats 800000 in
theorem each_107 (c : Nat) (v : Value) (L : List UInt8) (I : Nat → World → Prop) (w : World) (hl : L.length ≤ 140737488355328) (hB : ∀ j W, I j W → Bs W v L) (h0 : I 0 w)
    (hI : ∀ j (hj : j < L.length) W, I j W → Calls Try.prog 107 #[bv L[j], .pointer (some ⟨c, 0, none⟩)] W fun e w' => e = .returned (.tuple #[]) ∧ I (j + 1) w') :
    Calls Try.prog 105 #[v, .func (.func 107) #[] #[.pointer (some ⟨c, 0, none⟩)]] w fun e w' => e = .returned (.tuple #[]) ∧ I L.length w' := by
  obtain ⟨A, cap, rfl, _⟩ := hB 0 w h0
  have HB := Lib.hid hB
  have HI := Lib.hid hI
  have H0 := Lib.hid h0
  clear hB hI h0
  go_enter Try.func105, Try.ntmps105
  go_wp2_with fail
  go_loopw [8] (fun i wr => ∃ j : Nat, j ≤ L.length ∧ i = .int .i64 j ∧ I j wr) (fun i _ => L.length - (intOf i).toNat)
  case atStart => exact ⟨0, Nat.zero_le _, rfl, H0.out⟩
  case round =>
    obtain ⟨j, hj, rfl, hr⟩ := hrel
    have HR := Lib.hid hr
    clear hr
    by_cases hlt : j < L.length
    · obtain ⟨g, off, rfl, _, hcell⟩ := Bs.at_ (HB.out j wr HR.out) hlt
      go_wp2_with (go_at_call 107; refine (HI.out j hlt _ HR.out).mono ?_; rintro e w' ⟨rfl, hI'⟩)
      go_roundw
      case rel => exact ⟨j + 1, by omega, by go_num, hI'⟩
      case measure => simp [intOf]; omega
    · obtain rfl : j = L.length := by omega
      go_wp2_with fail
      go_end0
      exact ⟨rfl, HR.out⟩
set_option maxHeartbeats 800000 in
theorem each_fletcher (c d : Nat) (v : Value) (L : List UInt8) (I : Nat → World → Prop) (w : World) (hl : L.length ≤ 140737488355328) (hB : ∀ j W, I j W → Bs W v L) (h0 : I 0 w)
    (hI : ∀ j (hj : j < L.length) W, I j W → Calls Try.prog 106 #[bv L[j], .pointer (some ⟨c, 0, none⟩), .pointer (some ⟨d, 0, none⟩)] W fun e w' => e = .returned (.tuple #[]) ∧ I (j + 1) w') :
    Calls Try.prog 105 #[v, .func (.func 106) #[] #[.pointer (some ⟨c, 0, none⟩), .pointer (some ⟨d, 0, none⟩)]] w fun e w' => e = .returned (.tuple #[]) ∧ I L.length w' := by
  obtain ⟨A, cap, rfl, _⟩ := hB 0 w h0
  have HB := Lib.hid hB
  have HI := Lib.hid hI
  have H0 := Lib.hid h0
  clear hB hI h0
  go_enter Try.func105, Try.ntmps105
  go_wp2_with fail
  go_loopw [8] (fun i wr => ∃ j : Nat, j ≤ L.length ∧ i = .int .i64 j ∧ I j wr) (fun i _ => L.length - (intOf i).toNat)
  case atStart => exact ⟨0, Nat.zero_le _, rfl, H0.out⟩
  case round =>
    obtain ⟨j, hj, rfl, hr⟩ := hrel
    have HR := Lib.hid hr
    clear hr
    by_cases hlt : j < L.length
    · obtain ⟨g, off, rfl, _, hcell⟩ := Bs.at_ (HB.out j wr HR.out) hlt
      go_wp2_with (go_at_call 106; refine (HI.out j hlt _ HR.out).mono ?_; rintro e w' ⟨rfl, hI'⟩)
      go_roundw
      case rel => exact ⟨j + 1, by omega, by go_num, hI'⟩
      case measure => simp [intOf]; omega
    · obtain rfl : j = L.length := by omega
      go_wp2_with fail
      go_end0
      exact ⟨rfl, HR.out⟩

/-- The sums, as folds. -/
def xorL (L : List UInt8) : UInt8 := L.foldl (· ^^^ ·) 0
def fletL (L : List UInt8) : UInt8 × UInt8 := L.foldl (fun pq x => (pq.1 + x, pq.2 + (pq.1 + x))) (0, 0)
def fiftL (L : List UInt8) : Nat := L.foldl (fun s x => (s + x.toNat) % 32768) 0
theorem foldl_take_succ {α β : Type} (f : β → α → β) (b : β) (L : List α) {j : Nat} (hj : j < L.length) : (L.take (j + 1)).foldl f b = f ((L.take j).foldl f b) L[j] := by
  rw [List.take_succ_eq_append_getElem hj, List.foldl_append]; rfl
theorem fiftL_lt (L : List UInt8) : fiftL L < 32768 := by
  unfold fiftL
  refine snoc_ind (P := fun L => List.foldl (fun s (x : UInt8) => (s + x.toNat) % 32768) 0 L < 32768) (by decide) (fun xs x _ => ?_) L
  rw [List.foldl_append]
  exact Nat.mod_lt _ (by decide)

set_option maxHeartbeats 800000 in
theorem sums_xor (v : Value) (L : List UInt8) (w : World) (hB : Bs w v L) (hl : L.length ≤ 140737488355328) :
    Calls Try.prog 104 #[v] w fun e w' => e = .returned (bv (xorL L)) ∧ Below w.heap.size w w' := by
  have he := each_128 w.heap.size v L (fun j W => W.heap[w.heap.size]? = some (.cells #[bv (xorL (L.take j))] 5 (0, 0)) ∧ Ext (OneB w.heap.size) w W)
    (w.alloc (.cells #[.int .u8 0] 5)) hl (fun _ _ h => hB.ext h.2 (fun _ hg e => Nat.ne_of_lt hg e)) ⟨heap_alloc_same _ _, (Ext.refl _ _).alloc _⟩
    (fun j hj W ⟨h1, h2⟩ => (xor1 _ _ _ _ h1).mono fun e w' ⟨he, h4, h5⟩ => ⟨he, by rw [h4]; unfold xorL; rw [foldl_take_succ _ _ _ hj], h2.same h5⟩)
  have HE := Lib.hid he
  clear he hB
  go_enter Try.func104, Try.ntmps104
  go_wp2_with (go_at_call 105; refine HE.out.mono ?_; rintro e w1 ⟨rfl, h1, h2⟩; rw [List.take_length] at h1; have hc : w1.cell? ⟨w.heap.size, 0, none⟩ = some (bv (xorL L)) := (cell_of h1 0).trans rfl; have hf : w1.frozen? ⟨w.heap.size, 0, none⟩ = false := frozen_of h1 0 none; have H1 := Lib.hid h1; have H2 := Lib.hid h2; clear h1 h2)
  refine bodyPost_ret (v := bv (xorL L)) (by simp [results, Try.results104, go_sem, hc]) rfl ?_
  exact ⟨rfl, (H2.out.set1 _ _).below1⟩

set_option maxHeartbeats 800000 in
theorem sums_fifteen (v : Value) (L : List UInt8) (w : World) (hB : Bs w v L) (hl : L.length ≤ 140737488355328) :
    Calls Try.prog 73 #[v] w fun e w' => e = .returned (.int .u16 (fiftL L : Int)) ∧ Below w.heap.size w w' := by
  have he := each_107 w.heap.size v L (fun j W => W.heap[w.heap.size]? = some (.cells #[.int .u16 (fiftL (L.take j) : Int)] 89 (0, 0)) ∧ Ext (OneB w.heap.size) w W)
    (w.alloc (.cells #[.int .u16 0] 89)) hl (fun _ _ h => hB.ext h.2 (fun _ hg e => Nat.ne_of_lt hg e)) ⟨heap_alloc_same _ _, (Ext.refl _ _).alloc _⟩
    (fun j hj W ⟨h1, h2⟩ => (fifteen1 _ _ _ _ h1 (fiftL_lt _)).mono fun e w' ⟨he, h4, h5⟩ => ⟨he, by rw [h4]; unfold fiftL; rw [foldl_take_succ _ _ _ hj], h2.same h5⟩)
  have HE := Lib.hid he
  clear he hB
  go_enter Try.func73, Try.ntmps73
  go_wp2_with (go_at_call 105; refine HE.out.mono ?_; rintro e w1 ⟨rfl, h1, h2⟩; rw [List.take_length] at h1; have hc : w1.cell? ⟨w.heap.size, 0, none⟩ = some (.int .u16 (fiftL L : Int)) := (cell_of h1 0).trans rfl; have hf : w1.frozen? ⟨w.heap.size, 0, none⟩ = false := frozen_of h1 0 none; have H1 := Lib.hid h1; have H2 := Lib.hid h2; clear h1 h2)
  refine bodyPost_ret (v := .int .u16 (fiftL L : Int)) (by simp [results, Try.results73, go_sem, hc]) rfl ?_
  exact ⟨rfl, (H2.out.set1 _ _).below1⟩

set_option maxHeartbeats 800000 in
theorem sums_fletcher (v : Value) (L : List UInt8) (w : World) (hB : Bs w v L) (hl : L.length ≤ 140737488355328) :
    Calls Try.prog 72 #[v] w fun e w' => e = .returned (.tuple #[bv (fletL L).1, bv (fletL L).2]) ∧ Below w.heap.size w w' := by
  have hn : ∀ k, k < w.heap.size → ¬ (k = w.heap.size ∨ k = w.heap.size + 1) := fun k hk h => by omega
  have hne : ¬ w.heap.size = w.heap.size + 1 := by omega
  have hne' : ¬ w.heap.size + 1 = w.heap.size := by omega
  have he := each_fletcher w.heap.size (w.heap.size + 1) v L (fun j W => W.heap[w.heap.size]? = some (.cells #[bv (fletL (L.take j)).1] 5 (0, 0)) ∧ W.heap[w.heap.size + 1]? = some (.cells #[bv (fletL (L.take j)).2] 5 (0, 0)) ∧ Ext (fun k => k = w.heap.size ∨ k = w.heap.size + 1) w W)
    ((w.alloc (.cells #[.int .u8 0] 5)).alloc (.cells #[.int .u8 0] 5)) hl (fun _ _ h => hB.ext h.2.2 hn) ⟨heap_alloc_lt (heap_alloc_same _ _) _, heap_alloc2 _ _ _, ((Ext.refl _ _).alloc _).alloc _⟩
    (fun j hj W ⟨h1, h2, h3⟩ => (fletcher1 _ _ _ _ _ _ h1 h2 hne).mono fun e w' ⟨he, h4, h5, h6⟩ => ⟨he, by rw [h4]; unfold fletL; rw [foldl_take_succ _ _ _ hj], by rw [h5]; unfold fletL; rw [foldl_take_succ _ _ _ hj], h3.same h6⟩)
  have HE := Lib.hid he
  have HN := Lib.hid hn
  clear he hB hn
  go_enter Try.func72, Try.ntmps72
  go_wp2_with (go_at_call 105; refine HE.out.mono ?_; rintro e w1 ⟨rfl, h1, h3, h2⟩; rw [List.take_length] at h1 h3; have hc : w1.cell? ⟨w.heap.size, 0, none⟩ = some (bv (fletL L).1) := (cell_of h1 0).trans rfl; have hf : w1.frozen? ⟨w.heap.size, 0, none⟩ = false := frozen_of h1 0 none; have hc2 : w1.cell? ⟨w.heap.size + 1, 0, none⟩ = some (bv (fletL L).2) := (cell_of h3 0).trans rfl; have hf2 : w1.frozen? ⟨w.heap.size + 1, 0, none⟩ = false := frozen_of h3 0 none; have H2 := Lib.hid h2; clear h1 h2 h3)
  go_region
  go_wp2_with fail
  refine bodyPost_ret (v := .tuple #[bv (fletL L).1, bv (fletL L).2]) (by simp [results, Try.results72, go_sem, hc, hc2]) rfl ?_
  exact ⟨rfl, (((H2.out.setCell (p := ⟨w.heap.size, _, none⟩) (.inr (.inl rfl)) _).setCell (p := ⟨w.heap.size + 1, _, none⟩) (.inr (.inr rfl)) _).drew).belowN HN.out⟩
end Go.Proofs.Ytfgglffjigolhaa
