/- Frames: begin. -/
import Derived.Test.YtfgglffjigolhaaFrameD
namespace Go.Proofs.Ytfgglffjigolhaa
open Go.RowKit Go.MapKept

section
variable {P : Program} {Q : Exit → Act → World → Prop} {rest : List Oper} {ops : Array Oper} {o : Oper} {a : Act} {w : World}
/-- Fits where the goal is 'wpList .. (o :: rest) ..' and o is an insertion of a map literal. -/
theorem ins_at {d : Option Tmp} {t : TypeId} {m x v : Operand} {ty : TypeId} {p : String} {af : Array Edge} (h : wpList P ops Q (Oper.mk d (Op.insert t m x v) ty p af none :: rest) a w) :
    wpList P ops Q (Oper.mk d (Op.insert t m x v) ty p af none :: rest) a w := h

theorem below_setHeap {B : Nat} {a w : World} (h : Below B a w) {r : Nat} (hr : B ≤ r) (o : Obj) : Below B a { w with heap := w.heap.setIfInBounds r o } :=
  ⟨h.os, h.tape, h.output, by have := h.size; simpa using this, fun k hk => by rw [← h.block k hk]; simp [Array.getElem?_setIfInBounds]; omega⟩

theorem wpList_insert_new (hg : o.guard = none) (m x v : Operand) (t : TypeId) (hop : o.op = Op.insert t m x v)
    (k e : TypeId) (ht : P.underlying t = some (.map k e)) (d : TypeDesc) (hk : P.underlying k = some d) (r : Nat) (es : Array MapEntry) (c : Nat) (hm : a.eval m = .map (some r))
    (key val : Value) (hx : a.eval x = key) (hd : IsKey d key) (hv : a.eval v = val) (hh : w.heap[r]? = some (.map es c)) (hf : Instr.findNow d key es.toList 0 = some none)
    (hK : ∀ w', w'.heap[r]? = some (.map (es.push ⟨key, val, c⟩) (c + 1)) → Below r w w' → wpList P ops Q rest (a.put o.dst undef) w') :
    wpList P ops Q (o :: rest) a w := by
  refine wpList_plain hg fun K' hK' => ?_
  have hr : r < w.heap.size := by
    rcases Nat.lt_or_ge r w.heap.size with h | h
    · exact h
    · rw [Array.getElem?_eq_none h] at hh; simp at hh
  unfold Oper.wp
  simp [execOp, hop, hm, hx, hv, Instr.mapUpdate, run_underlying ht, MapKept.run_getObj_map hh, MapKept.run_checkKey hk hd, MapKept.run_findKey hk hf, MapKept.run_setObj_map _ hh, Result.andThen]
  exact hK' _ _ (hK _ (by simp [hr]) (below_setHeap (Below.refl _ _) (Nat.le_refl _) _))

theorem wpList_lookup_ok (hg : o.guard = none) (m x : Operand) (t : TypeId) (hop : o.op = Op.lookup t m x true)
    (k e : TypeId) (ht : P.underlying t = some (.map k e)) (d : TypeDesc) (hk : P.underlying k = some d) (r : Nat) (es : Array MapEntry) (c : Nat) (hm : a.eval m = .map (some r))
    (key : Value) (hx : a.eval x = key) (hd : IsKey d key) (hh : w.heap[r]? = some (.map es c)) (z : Value) (hz : (zeroValue e).run P w = .ok z w) (f : Option (Nat × Value)) (hf : Instr.findNow d key es.toList 0 = some f)
    (u : Value × Bool) (hu : u = (match f with | some (_, v) => (v, true) | none => (z, false)))
    (hK : wpList P ops Q rest (a.put o.dst (.tuple #[u.1, .bool u.2])) w) :
    wpList P ops Q (o :: rest) a w := by
  refine wpList_plain hg fun K' hK' => ?_
  subst hu
  unfold Oper.wp
  rcases f with _ | ⟨i, v⟩
  · simp [execOp, hop, hm, hx, Instr.lookup, run_underlying ht, MapKept.run_getObj_map hh, MapKept.run_checkKey hk hd, MapKept.run_findKey hk hf, hz, Result.andThen]
    exact hK' _ _ hK
  · simp [execOp, hop, hm, hx, Instr.lookup, run_underlying ht, MapKept.run_getObj_map hh, MapKept.run_checkKey hk hd, MapKept.run_findKey hk hf, hz, Result.andThen]
    exact hK' _ _ hK
end

def judge (size : Nat) (L : List UInt8) (kind : Nat) (r : Nat × Nat × List UInt8) : Nat × Nat × Nat × List UInt8 :=
  if r.1 = 0 ∧ L.length = size then (2, r.2.1, kind, r.2.2) else (r.1, r.2.1, kind, r.2.2)
def beginM (size : Nat) (L : List UInt8) : Nat × Nat × Nat × List UInt8 :=
  match L with
  | [] => (0, 0, 0, [])
  | c :: _ => if c = 36 then judge size L 1 (nmeaM L) else if c = 181 then judge size L 2 (ubxM size L) else if c = 160 then judge size L 3 (sirfM size L) else (2, 0, 0, [])
def Begun (B : Nat) (w' : World) (e : Ending) (r : Nat × Nat × Nat × List UInt8) : Prop := ∃ v, e = .returned (.tuple #[.int .u8 (r.1 : Int), .int .i64 (r.2.1 : Int), .agg #[.int .u8 (r.2.2.1 : Int), v]]) ∧ Bs w' v r.2.2.2 ∧ Fresh B v

theorem heap_drewN4 {w3 w4 : World} {r : Nat} {o : Option Obj} (h : w3.heap[r]? = o) (m : Nat) (hw : w4 = w3.drewN m) : w4.heap[r]? = o := by subst hw; exact h
theorem begun_cell {w4 w5 : World} {cs : Array Value} {t : TypeId} (h : Below (w4.alloc (.cells cs t)).heap.size (w4.alloc (.cells cs t)) w5) (k : Nat) {v : Value} (hv : cs[k]? = some v) : w5.cell? ⟨w4.heap.size, k, none⟩ = some v := by
  rw [h.cell (p := ⟨w4.heap.size, k, none⟩) (by simp)]
  exact (cell_of (heap_alloc_same w4 _) k).trans hv
theorem begun_heap {w w4 w5 : World} {o x : Obj} (hc : w4.heap[w.heap.size]? = some x) (h : Below (w4.alloc o).heap.size (w4.alloc o) w5) (hn : w.heap.size < w4.heap.size) : w5.heap[w.heap.size]? = some x := by
  rw [h.block _ (by simp; omega), ((Below.refl w4.heap.size w4).alloc (Nat.le_refl _) o).block _ hn]
  exact hc
theorem fin_cells {w5 : World} {r : Nat} {a0 b0 : Value} {t : TypeId} (h : w5.heap[r]? = some (.cells #[a0, b0] t (0, 0))) (a b : Value) :
    ((w5.setCell ⟨r, 0, none⟩ a).setCell ⟨r, 1, none⟩ b).heap[r]? = some (.cells #[a, b] t (0, 0)) := by
  rw [heap_setCell_same (heap_setCell_same h 0 a) 1 b]; rfl
theorem Bs.set2 {w5 : World} {v : Value} {L : List UInt8} {r : Nat} (h : Bs w5 v L) (hf : Fresh (r + 1) v) (a b : Value) : Bs ((w5.setCell ⟨r, 0, none⟩ a).setCell ⟨r, 1, none⟩ b) v L :=
  h.kept (S := OneB r) (((Ext.refl _ _).set1 0 a).set1 1 b) (fun g _ hg e => by have h1 := hf g hg; have h2 : g = r := e; omega)
theorem below_set2 {w w5 : World} {r : Nat} (h : Below w.heap.size w w5) (hr : w.heap.size ≤ r) (a b : Value) : Below w.heap.size w ((w5.setCell ⟨r, 0, none⟩ a).setCell ⟨r, 1, none⟩ b) :=
  (h.setCell (p := ⟨r, 0, none⟩) hr a).setCell (p := ⟨r, 1, none⟩) hr b
theorem neq_u8 {c : UInt8} {k : UInt8} {i : Int} (h : ¬ c = k) (hi : (k.toNat : Int) = i) : ((c.toNat : Int) == i) = false := by
  subst hi
  rw [beq_eq_false_iff_ne]
  intro e
  exact h (UInt8.toNat_inj.mp (Int.ofNat.inj e))
theorem heap_old4 {w w4 : World} {o x : Obj} (hc : w4.heap[w.heap.size]? = some x) (hn : w.heap.size < w4.heap.size) : (w4.alloc o).heap[w.heap.size]? = some x := by
  rw [((Below.refl w4.heap.size w4).alloc (Nat.le_refl _) o).block _ hn]; exact hc
theorem info_kind : (Try.prog.info? 183).map (fun i => (i.zero, i.size)) = some (some (.agg #[.int .u8 0, .nilFunc]), 2) := by kernel_rfl
theorem zero_kind {w : World} : (zeroValue 183).run Try.prog w = .ok (.agg #[.int .u8 0, .nilFunc]) w := by
  have h := info_kind
  cases hi : Try.prog.info? 183 with
  | none => rw [hi] at h; cases h
  | some i =>
    rw [hi] at h
    simp only [Option.map_some, Option.some.injEq, Prod.mk.injEq] at h
    simp [zeroValue, typeInfo, hi, h.1]

theorem begin_below {w w1 : World} {o p : Obj} (h : Below (w.heap.size + 1) ((w.alloc o).alloc p) w1) : Below w.heap.size w w1 :=
  (((Below.refl _ _).alloc (Nat.le_refl _) o).alloc (by simp) p).trans (h.mono (by simp))
theorem begin_size4 {w w1 w4 : World} {o p : Obj} (h : Below (w.heap.size + 1) ((w.alloc o).alloc p) w1) (m : Nat) (hw : w4 = w1.drewN m) : w.heap.size < w4.heap.size := by
  subst hw; have := h.size; simp at this; show w.heap.size < w1.heap.size; omega
theorem begin_below4 {w w1 w4 : World} {o p : Obj} (h : Below (w.heap.size + 1) ((w.alloc o).alloc p) w1) (m : Nat) (hw : w4 = w1.drewN m) : Below w.heap.size w w4 := by
  subst hw; exact below_drewN1 (begin_below h) m
theorem begin_heap4 {w w1 w4 : World} {o p : Obj} (h : Below (w.heap.size + 1) ((w.alloc o).alloc p) w1) (m : Nat) (hw : w4 = w1.drewN m) : w4.heap[w.heap.size]? = some o := by
  subst hw
  show w1.heap[w.heap.size]? = _
  rw [h.block _ (by omega), ((Below.refl (w.heap.size + 1) (w.alloc o)).alloc (by simp) p).block _ (by omega)]
  exact heap_alloc_same w o
set_option maxRecDepth 100000 in
set_option maxHeartbeats 1600000 in
theorem begin_any (g size : Nat) (L : List UInt8) (lost : Int) (w : World) (h : IsRing w g size L lost) :
    Calls Try.prog 64 #[.pointer (some ⟨g, 0, none⟩)] w fun e w' => Begun w.heap.size w' e (beginM size L) ∧ Below w.heap.size w w' := by
  have H := Lib.hid h
  clear h
  have hmm := @run_makeMap Try.prog
  have hsn : ∀ (w : World) (a : Addr), (store a .nilFunc).run Try.prog w = stored Try.prog w a .nilFunc .plain := fun w a => run_store Try.prog w a _ _ rfl
  have hst : ∀ (w : World) (a : Addr) (f : Fn) (x y : Array Value), (store a (.func f x y)).run Try.prog w = stored Try.prog w a (.func f x y) .plain := fun w a f x y => run_store Try.prog w a _ _ rfl
  have hat := fun W hR => ring_at g size L lost 0 W hR
  rcases L with _ | ⟨c, L'⟩
  · have hat0 : atOf [] 0 = .tuple #[.int .u8 0, .bool false] := by simp [atOf]
    rw [hat0] at hat
    clear hat0
    have HAT := Lib.hid hat
    clear hat
    go_enter Try.func64, Try.ntmps64
    go_wp2_with (first | ((with_reducible refine ins_at ?_); refine wpList_insert_new rfl _ _ _ _ rfl 5 183 Try.underlying184 _ Try.underlying5 _ _ _ rfl (.int .u8 36) (.agg #[.int .u8 1, .func (.func 96) #[] #[]]) rfl (by simp [IsKey]) rfl (by first | assumption | exact (heap_alloc2 _ _ _)) (by simp [Instr.findNow, Instr.sameNow]) ?_; intro w1 hh1 hb1) | ((with_reducible refine ins_at ?_); refine wpList_insert_new rfl _ _ _ _ rfl 5 183 Try.underlying184 _ Try.underlying5 _ _ _ rfl (.int .u8 181) (.agg #[.int .u8 2, .func (.func 97) #[] #[]]) rfl (by simp [IsKey]) rfl (by first | assumption | exact (heap_alloc2 _ _ _)) (by simp [Instr.findNow, Instr.sameNow]) ?_; intro w2 hh2 hb2) | ((with_reducible refine ins_at ?_); refine wpList_insert_new rfl _ _ _ _ rfl 5 183 Try.underlying184 _ Try.underlying5 _ _ _ rfl (.int .u8 160) (.agg #[.int .u8 3, .func (.func 98) #[] #[]]) rfl (by simp [IsKey]) rfl (by first | assumption | exact (heap_alloc2 _ _ _)) (by simp [Instr.findNow, Instr.sameNow]) ?_; intro w3 hh3 hb3) | (go_at_call 99; go_must (have HC := hb1.trans (hb2.trans hb3); have B3 := Lib.hid (begin_below HC); have HH3 := Lib.hid hh3; clear hb1 hb2 hb3 hh1 hh2 hh3; refine (HAT.out _ (H.out.below B3.out)).mono ?_; rintro e w4 ⟨rfl, m, hw4⟩; have HP4 := Lib.hid (begin_heap4 HC m hw4); have hc1 := cell_of HP4.out 0; have hc2 := cell_of HP4.out 1; have hf1 := frozen_of HP4.out 0 none; have hf2 := frozen_of HP4.out 1 none; have B4 := Lib.hid (begin_below4 HC m hw4); have S4 := Lib.hid (begin_size4 HC m hw4); have HH4 := Lib.hid (heap_drewN4 HH3.out m hw4); clear HC hw4)))
    have hq := fin_cells HP4.out (.int .u8 0) (.slice none 0 0)
    have hq0 := cell_of hq 0
    have hq1 := cell_of hq 1
    refine bodyPost_ret (v := .tuple #[.int .u8 0, .int .i64 0, .agg #[.int .u8 0, .slice none 0 0]]) (by simp [results, Try.results64, go_sem, hq0, hq1]) rfl ?_
    exact ⟨⟨_, rfl, Bs.nil _, Fresh.nil _ _ _⟩, below_set2 B4.out (Nat.le_refl _) _ _⟩
  · have hat0 : atOf (c :: L') 0 = .tuple #[bv c, .bool true] := by simp [atOf]
    rw [hat0] at hat
    obtain ⟨K, hK⟩ : ∃ K, K = c :: L' := ⟨_, rfl⟩
    have hlen : K.length ≠ 0 := by rw [hK]; simp
    unfold beginM
    simp only
    rw [← hK] at H hat ⊢
    have HAT := Lib.hid hat
    clear hat hat0 hK
    by_cases c1 : c = 36
    · subst c1
      rw [if_pos rfl]
      have hm := fun W hR => nmea_any g size K lost W hR
      obtain ⟨⟨s, n, b⟩, hr⟩ : ∃ r, r = nmeaM K := ⟨_, rfl⟩
      rw [← hr] at hm ⊢
      have HM := Lib.hid hm
      clear hm hr
      by_cases hs : s = 0
      · subst hs
        by_cases hf : K.length = size
        · rw [show judge size K 1 (0, n, b) = (2, n, 1, b) from if_pos ⟨rfl, hf⟩]
          have hfi : ((K.length : Int) == (size : Int)) = true := by simp [hf]
          clear hf
          go_enter Try.func64, Try.ntmps64
          go_wp2_with (first | ((with_reducible refine ins_at ?_); refine wpList_insert_new rfl _ _ _ _ rfl 5 183 Try.underlying184 _ Try.underlying5 _ _ _ rfl (.int .u8 36) (.agg #[.int .u8 1, .func (.func 96) #[] #[]]) rfl (by simp [IsKey]) rfl (by first | assumption | exact (heap_alloc2 _ _ _)) (by simp [Instr.findNow, Instr.sameNow]) ?_; intro w1 hh1 hb1) | ((with_reducible refine ins_at ?_); refine wpList_insert_new rfl _ _ _ _ rfl 5 183 Try.underlying184 _ Try.underlying5 _ _ _ rfl (.int .u8 181) (.agg #[.int .u8 2, .func (.func 97) #[] #[]]) rfl (by simp [IsKey]) rfl (by first | assumption | exact (heap_alloc2 _ _ _)) (by simp [Instr.findNow, Instr.sameNow]) ?_; intro w2 hh2 hb2) | ((with_reducible refine ins_at ?_); refine wpList_insert_new rfl _ _ _ _ rfl 5 183 Try.underlying184 _ Try.underlying5 _ _ _ rfl (.int .u8 160) (.agg #[.int .u8 3, .func (.func 98) #[] #[]]) rfl (by simp [IsKey]) rfl (by first | assumption | exact (heap_alloc2 _ _ _)) (by simp [Instr.findNow, Instr.sameNow]) ?_; intro w3 hh3 hb3) | (go_at_call 99; go_must (have HC := hb1.trans (hb2.trans hb3); have B3 := Lib.hid (begin_below HC); have HH3 := Lib.hid hh3; clear hb1 hb2 hb3 hh1 hh2 hh3; refine (HAT.out _ (H.out.below B3.out)).mono ?_; rintro e w4 ⟨rfl, m, hw4⟩; have HP4 := Lib.hid (begin_heap4 HC m hw4); have hc1 := cell_of HP4.out 0; have hc2 := cell_of HP4.out 1; have hf1 := frozen_of HP4.out 0 none; have hf2 := frozen_of HP4.out 1 none; have B4 := Lib.hid (begin_below4 HC m hw4); have S4 := Lib.hid (begin_size4 HC m hw4); have HH4 := Lib.hid (heap_drewN4 HH3.out m hw4); clear HC hw4)) | (at_lookup; go_must (refine wpList_lookup_ok rfl _ _ _ rfl 5 183 Try.underlying184 _ Try.underlying5 _ _ _ rfl (.int .u8 36) rfl (by simp [IsKey]) HH4.out _ zero_kind (some (0, .agg #[.int .u8 1, .func (.func 96) #[] #[]])) (by simp [Instr.findNow, Instr.sameNow]) (.agg #[.int .u8 1, .func (.func 96) #[] #[]], true) rfl ?_)) | (go_at_call 96; go_must (refine (HM.out _ ((H.out.below B4.out).alloc _)).mono ?_; rintro e w5 ⟨⟨v, rfl, hv, fr⟩, hb5⟩; have FR := Lib.hid (Fresh.low (B' := w.heap.size + 1) fr (by simp; have := S4.out; omega)); clear fr; obtain ⟨A, cp, rfl, hnc, hv⟩ := hv.form rfl; have hd1 := begun_cell hb5 0 rfl; have HP5 := Lib.hid (begun_heap HP4.out hb5 S4.out); clear hc1 hc2 hf1 hf2; have hc1 := cell_of HP5.out 0; have hc2 := cell_of HP5.out 1; have hf1 := frozen_of HP5.out 0 none; have hf2 := frozen_of HP5.out 1 none; have B5 := Lib.hid (below_more (below_alloc1 B4.out _) hb5 (by simp [B4.out.size])); have V := Lib.hid hv; clear hb5 hv)) | (go_at_call 60; refine (ring_size g size K lost _ (H.out.below B5.out)).mono ?_; rintro e w' ⟨rfl, rfl⟩) | (go_at_call 31; refine (ring_len g size K lost _ (H.out.below B5.out)).mono ?_; rintro e w' ⟨rfl, rfl⟩))
          go_region
          go_wp2
          have hq := fin_cells HP5.out (.int .u8 1) (.slice A b.length cp)
          have hq0 := cell_of hq 0
          have hq1 := cell_of hq 1
          refine bodyPost_ret (v := .tuple #[.int .u8 (2 : Int), .int .i64 (n : Int), .agg #[.int .u8 1, .slice A b.length cp]]) (by simp [results, Try.results64, go_sem, hq0, hq1]) rfl ?_
          exact ⟨⟨_, rfl, (V.out.set2 FR.out _ _).drew, FR.out.low (by omega)⟩, (below_set2 B5.out (Nat.le_refl _) _ _).drew⟩
        · rw [show judge size K 1 (0, n, b) = (0, n, 1, b) from if_neg (fun h => hf h.2)]
          have hfi : ((K.length : Int) == (size : Int)) = false := by simp; omega
          clear hf
          go_enter Try.func64, Try.ntmps64
          go_wp2_with (first | ((with_reducible refine ins_at ?_); refine wpList_insert_new rfl _ _ _ _ rfl 5 183 Try.underlying184 _ Try.underlying5 _ _ _ rfl (.int .u8 36) (.agg #[.int .u8 1, .func (.func 96) #[] #[]]) rfl (by simp [IsKey]) rfl (by first | assumption | exact (heap_alloc2 _ _ _)) (by simp [Instr.findNow, Instr.sameNow]) ?_; intro w1 hh1 hb1) | ((with_reducible refine ins_at ?_); refine wpList_insert_new rfl _ _ _ _ rfl 5 183 Try.underlying184 _ Try.underlying5 _ _ _ rfl (.int .u8 181) (.agg #[.int .u8 2, .func (.func 97) #[] #[]]) rfl (by simp [IsKey]) rfl (by first | assumption | exact (heap_alloc2 _ _ _)) (by simp [Instr.findNow, Instr.sameNow]) ?_; intro w2 hh2 hb2) | ((with_reducible refine ins_at ?_); refine wpList_insert_new rfl _ _ _ _ rfl 5 183 Try.underlying184 _ Try.underlying5 _ _ _ rfl (.int .u8 160) (.agg #[.int .u8 3, .func (.func 98) #[] #[]]) rfl (by simp [IsKey]) rfl (by first | assumption | exact (heap_alloc2 _ _ _)) (by simp [Instr.findNow, Instr.sameNow]) ?_; intro w3 hh3 hb3) | (go_at_call 99; go_must (have HC := hb1.trans (hb2.trans hb3); have B3 := Lib.hid (begin_below HC); have HH3 := Lib.hid hh3; clear hb1 hb2 hb3 hh1 hh2 hh3; refine (HAT.out _ (H.out.below B3.out)).mono ?_; rintro e w4 ⟨rfl, m, hw4⟩; have HP4 := Lib.hid (begin_heap4 HC m hw4); have hc1 := cell_of HP4.out 0; have hc2 := cell_of HP4.out 1; have hf1 := frozen_of HP4.out 0 none; have hf2 := frozen_of HP4.out 1 none; have B4 := Lib.hid (begin_below4 HC m hw4); have S4 := Lib.hid (begin_size4 HC m hw4); have HH4 := Lib.hid (heap_drewN4 HH3.out m hw4); clear HC hw4)) | (at_lookup; go_must (refine wpList_lookup_ok rfl _ _ _ rfl 5 183 Try.underlying184 _ Try.underlying5 _ _ _ rfl (.int .u8 36) rfl (by simp [IsKey]) HH4.out _ zero_kind (some (0, .agg #[.int .u8 1, .func (.func 96) #[] #[]])) (by simp [Instr.findNow, Instr.sameNow]) (.agg #[.int .u8 1, .func (.func 96) #[] #[]], true) rfl ?_)) | (go_at_call 96; go_must (refine (HM.out _ ((H.out.below B4.out).alloc _)).mono ?_; rintro e w5 ⟨⟨v, rfl, hv, fr⟩, hb5⟩; have FR := Lib.hid (Fresh.low (B' := w.heap.size + 1) fr (by simp; have := S4.out; omega)); clear fr; obtain ⟨A, cp, rfl, hnc, hv⟩ := hv.form rfl; have hd1 := begun_cell hb5 0 rfl; have HP5 := Lib.hid (begun_heap HP4.out hb5 S4.out); clear hc1 hc2 hf1 hf2; have hc1 := cell_of HP5.out 0; have hc2 := cell_of HP5.out 1; have hf1 := frozen_of HP5.out 0 none; have hf2 := frozen_of HP5.out 1 none; have B5 := Lib.hid (below_more (below_alloc1 B4.out _) hb5 (by simp [B4.out.size])); have V := Lib.hid hv; clear hb5 hv)) | (go_at_call 60; refine (ring_size g size K lost _ (H.out.below B5.out)).mono ?_; rintro e w' ⟨rfl, rfl⟩) | (go_at_call 31; refine (ring_len g size K lost _ (H.out.below B5.out)).mono ?_; rintro e w' ⟨rfl, rfl⟩))
          go_region
          go_wp2
          have hq := fin_cells HP5.out (.int .u8 1) (.slice A b.length cp)
          have hq0 := cell_of hq 0
          have hq1 := cell_of hq 1
          refine bodyPost_ret (v := .tuple #[.int .u8 (0 : Int), .int .i64 (n : Int), .agg #[.int .u8 1, .slice A b.length cp]]) (by simp [results, Try.results64, go_sem, hq0, hq1]) rfl ?_
          exact ⟨⟨_, rfl, (V.out.set2 FR.out _ _).drew, FR.out.low (by omega)⟩, (below_set2 B5.out (Nat.le_refl _) _ _).drew⟩
      · rw [show judge size K 1 (s, n, b) = (s, n, 1, b) from if_neg (fun h => hs h.1)]
        have hsi : ((s : Int) == 0) = false := by simp; omega
        clear hs
        go_enter Try.func64, Try.ntmps64
        go_wp2_with (first | ((with_reducible refine ins_at ?_); refine wpList_insert_new rfl _ _ _ _ rfl 5 183 Try.underlying184 _ Try.underlying5 _ _ _ rfl (.int .u8 36) (.agg #[.int .u8 1, .func (.func 96) #[] #[]]) rfl (by simp [IsKey]) rfl (by first | assumption | exact (heap_alloc2 _ _ _)) (by simp [Instr.findNow, Instr.sameNow]) ?_; intro w1 hh1 hb1) | ((with_reducible refine ins_at ?_); refine wpList_insert_new rfl _ _ _ _ rfl 5 183 Try.underlying184 _ Try.underlying5 _ _ _ rfl (.int .u8 181) (.agg #[.int .u8 2, .func (.func 97) #[] #[]]) rfl (by simp [IsKey]) rfl (by first | assumption | exact (heap_alloc2 _ _ _)) (by simp [Instr.findNow, Instr.sameNow]) ?_; intro w2 hh2 hb2) | ((with_reducible refine ins_at ?_); refine wpList_insert_new rfl _ _ _ _ rfl 5 183 Try.underlying184 _ Try.underlying5 _ _ _ rfl (.int .u8 160) (.agg #[.int .u8 3, .func (.func 98) #[] #[]]) rfl (by simp [IsKey]) rfl (by first | assumption | exact (heap_alloc2 _ _ _)) (by simp [Instr.findNow, Instr.sameNow]) ?_; intro w3 hh3 hb3) | (go_at_call 99; go_must (have HC := hb1.trans (hb2.trans hb3); have B3 := Lib.hid (begin_below HC); have HH3 := Lib.hid hh3; clear hb1 hb2 hb3 hh1 hh2 hh3; refine (HAT.out _ (H.out.below B3.out)).mono ?_; rintro e w4 ⟨rfl, m, hw4⟩; have HP4 := Lib.hid (begin_heap4 HC m hw4); have hc1 := cell_of HP4.out 0; have hc2 := cell_of HP4.out 1; have hf1 := frozen_of HP4.out 0 none; have hf2 := frozen_of HP4.out 1 none; have B4 := Lib.hid (begin_below4 HC m hw4); have S4 := Lib.hid (begin_size4 HC m hw4); have HH4 := Lib.hid (heap_drewN4 HH3.out m hw4); clear HC hw4)) | (at_lookup; go_must (refine wpList_lookup_ok rfl _ _ _ rfl 5 183 Try.underlying184 _ Try.underlying5 _ _ _ rfl (.int .u8 36) rfl (by simp [IsKey]) HH4.out _ zero_kind (some (0, .agg #[.int .u8 1, .func (.func 96) #[] #[]])) (by simp [Instr.findNow, Instr.sameNow]) (.agg #[.int .u8 1, .func (.func 96) #[] #[]], true) rfl ?_)) | (go_at_call 96; go_must (refine (HM.out _ ((H.out.below B4.out).alloc _)).mono ?_; rintro e w5 ⟨⟨v, rfl, hv, fr⟩, hb5⟩; have FR := Lib.hid (Fresh.low (B' := w.heap.size + 1) fr (by simp; have := S4.out; omega)); clear fr; obtain ⟨A, cp, rfl, hnc, hv⟩ := hv.form rfl; have hd1 := begun_cell hb5 0 rfl; have HP5 := Lib.hid (begun_heap HP4.out hb5 S4.out); clear hc1 hc2 hf1 hf2; have hc1 := cell_of HP5.out 0; have hc2 := cell_of HP5.out 1; have hf1 := frozen_of HP5.out 0 none; have hf2 := frozen_of HP5.out 1 none; have B5 := Lib.hid (below_more (below_alloc1 B4.out _) hb5 (by simp [B4.out.size])); have V := Lib.hid hv; clear hb5 hv)) | (go_at_call 60; refine (ring_size g size K lost _ (H.out.below B5.out)).mono ?_; rintro e w' ⟨rfl, rfl⟩) | (go_at_call 31; refine (ring_len g size K lost _ (H.out.below B5.out)).mono ?_; rintro e w' ⟨rfl, rfl⟩))
        go_region
        go_wp2
        have hq := fin_cells HP5.out (.int .u8 1) (.slice A b.length cp)
        have hq0 := cell_of hq 0
        have hq1 := cell_of hq 1
        refine bodyPost_ret (v := .tuple #[.int .u8 (s : Int), .int .i64 (n : Int), .agg #[.int .u8 1, .slice A b.length cp]]) (by simp [results, Try.results64, go_sem, hq0, hq1]) rfl ?_
        exact ⟨⟨_, rfl, (V.out.set2 FR.out _ _).drew, FR.out.low (by omega)⟩, (below_set2 B5.out (Nat.le_refl _) _ _).drew⟩
    · skip
      by_cases c2 : c = 181
      · subst c2
        rw [if_neg (by decide), if_pos rfl]
        have hm := fun W hR => ubx_any g size K lost W hR
        obtain ⟨⟨s, n, b⟩, hr⟩ : ∃ r, r = ubxM size K := ⟨_, rfl⟩
        rw [← hr] at hm ⊢
        have HM := Lib.hid hm
        clear hm hr
        by_cases hs : s = 0
        · subst hs
          by_cases hf : K.length = size
          · rw [show judge size K 2 (0, n, b) = (2, n, 2, b) from if_pos ⟨rfl, hf⟩]
            have hfi : ((K.length : Int) == (size : Int)) = true := by simp [hf]
            clear hf
            go_enter Try.func64, Try.ntmps64
            go_wp2_with (first | ((with_reducible refine ins_at ?_); refine wpList_insert_new rfl _ _ _ _ rfl 5 183 Try.underlying184 _ Try.underlying5 _ _ _ rfl (.int .u8 36) (.agg #[.int .u8 1, .func (.func 96) #[] #[]]) rfl (by simp [IsKey]) rfl (by first | assumption | exact (heap_alloc2 _ _ _)) (by simp [Instr.findNow, Instr.sameNow]) ?_; intro w1 hh1 hb1) | ((with_reducible refine ins_at ?_); refine wpList_insert_new rfl _ _ _ _ rfl 5 183 Try.underlying184 _ Try.underlying5 _ _ _ rfl (.int .u8 181) (.agg #[.int .u8 2, .func (.func 97) #[] #[]]) rfl (by simp [IsKey]) rfl (by first | assumption | exact (heap_alloc2 _ _ _)) (by simp [Instr.findNow, Instr.sameNow]) ?_; intro w2 hh2 hb2) | ((with_reducible refine ins_at ?_); refine wpList_insert_new rfl _ _ _ _ rfl 5 183 Try.underlying184 _ Try.underlying5 _ _ _ rfl (.int .u8 160) (.agg #[.int .u8 3, .func (.func 98) #[] #[]]) rfl (by simp [IsKey]) rfl (by first | assumption | exact (heap_alloc2 _ _ _)) (by simp [Instr.findNow, Instr.sameNow]) ?_; intro w3 hh3 hb3) | (go_at_call 99; go_must (have HC := hb1.trans (hb2.trans hb3); have B3 := Lib.hid (begin_below HC); have HH3 := Lib.hid hh3; clear hb1 hb2 hb3 hh1 hh2 hh3; refine (HAT.out _ (H.out.below B3.out)).mono ?_; rintro e w4 ⟨rfl, m, hw4⟩; have HP4 := Lib.hid (begin_heap4 HC m hw4); have hc1 := cell_of HP4.out 0; have hc2 := cell_of HP4.out 1; have hf1 := frozen_of HP4.out 0 none; have hf2 := frozen_of HP4.out 1 none; have B4 := Lib.hid (begin_below4 HC m hw4); have S4 := Lib.hid (begin_size4 HC m hw4); have HH4 := Lib.hid (heap_drewN4 HH3.out m hw4); clear HC hw4)) | (at_lookup; go_must (refine wpList_lookup_ok rfl _ _ _ rfl 5 183 Try.underlying184 _ Try.underlying5 _ _ _ rfl (.int .u8 181) rfl (by simp [IsKey]) HH4.out _ zero_kind (some (1, .agg #[.int .u8 2, .func (.func 97) #[] #[]])) (by simp [Instr.findNow, Instr.sameNow]) (.agg #[.int .u8 2, .func (.func 97) #[] #[]], true) rfl ?_)) | (go_at_call 97; go_must (refine (HM.out _ ((H.out.below B4.out).alloc _)).mono ?_; rintro e w5 ⟨⟨v, rfl, hv, fr⟩, hb5⟩; have FR := Lib.hid (Fresh.low (B' := w.heap.size + 1) fr (by simp; have := S4.out; omega)); clear fr; obtain ⟨A, cp, rfl, hnc, hv⟩ := hv.form rfl; have hd1 := begun_cell hb5 0 rfl; have HP5 := Lib.hid (begun_heap HP4.out hb5 S4.out); clear hc1 hc2 hf1 hf2; have hc1 := cell_of HP5.out 0; have hc2 := cell_of HP5.out 1; have hf1 := frozen_of HP5.out 0 none; have hf2 := frozen_of HP5.out 1 none; have B5 := Lib.hid (below_more (below_alloc1 B4.out _) hb5 (by simp [B4.out.size])); have V := Lib.hid hv; clear hb5 hv)) | (go_at_call 60; refine (ring_size g size K lost _ (H.out.below B5.out)).mono ?_; rintro e w' ⟨rfl, rfl⟩) | (go_at_call 31; refine (ring_len g size K lost _ (H.out.below B5.out)).mono ?_; rintro e w' ⟨rfl, rfl⟩))
            go_region
            go_wp2
            have hq := fin_cells HP5.out (.int .u8 2) (.slice A b.length cp)
            have hq0 := cell_of hq 0
            have hq1 := cell_of hq 1
            refine bodyPost_ret (v := .tuple #[.int .u8 (2 : Int), .int .i64 (n : Int), .agg #[.int .u8 2, .slice A b.length cp]]) (by simp [results, Try.results64, go_sem, hq0, hq1]) rfl ?_
            exact ⟨⟨_, rfl, (V.out.set2 FR.out _ _).drew, FR.out.low (by omega)⟩, (below_set2 B5.out (Nat.le_refl _) _ _).drew⟩
          · rw [show judge size K 2 (0, n, b) = (0, n, 2, b) from if_neg (fun h => hf h.2)]
            have hfi : ((K.length : Int) == (size : Int)) = false := by simp; omega
            clear hf
            go_enter Try.func64, Try.ntmps64
            go_wp2_with (first | ((with_reducible refine ins_at ?_); refine wpList_insert_new rfl _ _ _ _ rfl 5 183 Try.underlying184 _ Try.underlying5 _ _ _ rfl (.int .u8 36) (.agg #[.int .u8 1, .func (.func 96) #[] #[]]) rfl (by simp [IsKey]) rfl (by first | assumption | exact (heap_alloc2 _ _ _)) (by simp [Instr.findNow, Instr.sameNow]) ?_; intro w1 hh1 hb1) | ((with_reducible refine ins_at ?_); refine wpList_insert_new rfl _ _ _ _ rfl 5 183 Try.underlying184 _ Try.underlying5 _ _ _ rfl (.int .u8 181) (.agg #[.int .u8 2, .func (.func 97) #[] #[]]) rfl (by simp [IsKey]) rfl (by first | assumption | exact (heap_alloc2 _ _ _)) (by simp [Instr.findNow, Instr.sameNow]) ?_; intro w2 hh2 hb2) | ((with_reducible refine ins_at ?_); refine wpList_insert_new rfl _ _ _ _ rfl 5 183 Try.underlying184 _ Try.underlying5 _ _ _ rfl (.int .u8 160) (.agg #[.int .u8 3, .func (.func 98) #[] #[]]) rfl (by simp [IsKey]) rfl (by first | assumption | exact (heap_alloc2 _ _ _)) (by simp [Instr.findNow, Instr.sameNow]) ?_; intro w3 hh3 hb3) | (go_at_call 99; go_must (have HC := hb1.trans (hb2.trans hb3); have B3 := Lib.hid (begin_below HC); have HH3 := Lib.hid hh3; clear hb1 hb2 hb3 hh1 hh2 hh3; refine (HAT.out _ (H.out.below B3.out)).mono ?_; rintro e w4 ⟨rfl, m, hw4⟩; have HP4 := Lib.hid (begin_heap4 HC m hw4); have hc1 := cell_of HP4.out 0; have hc2 := cell_of HP4.out 1; have hf1 := frozen_of HP4.out 0 none; have hf2 := frozen_of HP4.out 1 none; have B4 := Lib.hid (begin_below4 HC m hw4); have S4 := Lib.hid (begin_size4 HC m hw4); have HH4 := Lib.hid (heap_drewN4 HH3.out m hw4); clear HC hw4)) | (at_lookup; go_must (refine wpList_lookup_ok rfl _ _ _ rfl 5 183 Try.underlying184 _ Try.underlying5 _ _ _ rfl (.int .u8 181) rfl (by simp [IsKey]) HH4.out _ zero_kind (some (1, .agg #[.int .u8 2, .func (.func 97) #[] #[]])) (by simp [Instr.findNow, Instr.sameNow]) (.agg #[.int .u8 2, .func (.func 97) #[] #[]], true) rfl ?_)) | (go_at_call 97; go_must (refine (HM.out _ ((H.out.below B4.out).alloc _)).mono ?_; rintro e w5 ⟨⟨v, rfl, hv, fr⟩, hb5⟩; have FR := Lib.hid (Fresh.low (B' := w.heap.size + 1) fr (by simp; have := S4.out; omega)); clear fr; obtain ⟨A, cp, rfl, hnc, hv⟩ := hv.form rfl; have hd1 := begun_cell hb5 0 rfl; have HP5 := Lib.hid (begun_heap HP4.out hb5 S4.out); clear hc1 hc2 hf1 hf2; have hc1 := cell_of HP5.out 0; have hc2 := cell_of HP5.out 1; have hf1 := frozen_of HP5.out 0 none; have hf2 := frozen_of HP5.out 1 none; have B5 := Lib.hid (below_more (below_alloc1 B4.out _) hb5 (by simp [B4.out.size])); have V := Lib.hid hv; clear hb5 hv)) | (go_at_call 60; refine (ring_size g size K lost _ (H.out.below B5.out)).mono ?_; rintro e w' ⟨rfl, rfl⟩) | (go_at_call 31; refine (ring_len g size K lost _ (H.out.below B5.out)).mono ?_; rintro e w' ⟨rfl, rfl⟩))
            go_region
            go_wp2
            have hq := fin_cells HP5.out (.int .u8 2) (.slice A b.length cp)
            have hq0 := cell_of hq 0
            have hq1 := cell_of hq 1
            refine bodyPost_ret (v := .tuple #[.int .u8 (0 : Int), .int .i64 (n : Int), .agg #[.int .u8 2, .slice A b.length cp]]) (by simp [results, Try.results64, go_sem, hq0, hq1]) rfl ?_
            exact ⟨⟨_, rfl, (V.out.set2 FR.out _ _).drew, FR.out.low (by omega)⟩, (below_set2 B5.out (Nat.le_refl _) _ _).drew⟩
        · rw [show judge size K 2 (s, n, b) = (s, n, 2, b) from if_neg (fun h => hs h.1)]
          have hsi : ((s : Int) == 0) = false := by simp; omega
          clear hs
          go_enter Try.func64, Try.ntmps64
          go_wp2_with (first | ((with_reducible refine ins_at ?_); refine wpList_insert_new rfl _ _ _ _ rfl 5 183 Try.underlying184 _ Try.underlying5 _ _ _ rfl (.int .u8 36) (.agg #[.int .u8 1, .func (.func 96) #[] #[]]) rfl (by simp [IsKey]) rfl (by first | assumption | exact (heap_alloc2 _ _ _)) (by simp [Instr.findNow, Instr.sameNow]) ?_; intro w1 hh1 hb1) | ((with_reducible refine ins_at ?_); refine wpList_insert_new rfl _ _ _ _ rfl 5 183 Try.underlying184 _ Try.underlying5 _ _ _ rfl (.int .u8 181) (.agg #[.int .u8 2, .func (.func 97) #[] #[]]) rfl (by simp [IsKey]) rfl (by first | assumption | exact (heap_alloc2 _ _ _)) (by simp [Instr.findNow, Instr.sameNow]) ?_; intro w2 hh2 hb2) | ((with_reducible refine ins_at ?_); refine wpList_insert_new rfl _ _ _ _ rfl 5 183 Try.underlying184 _ Try.underlying5 _ _ _ rfl (.int .u8 160) (.agg #[.int .u8 3, .func (.func 98) #[] #[]]) rfl (by simp [IsKey]) rfl (by first | assumption | exact (heap_alloc2 _ _ _)) (by simp [Instr.findNow, Instr.sameNow]) ?_; intro w3 hh3 hb3) | (go_at_call 99; go_must (have HC := hb1.trans (hb2.trans hb3); have B3 := Lib.hid (begin_below HC); have HH3 := Lib.hid hh3; clear hb1 hb2 hb3 hh1 hh2 hh3; refine (HAT.out _ (H.out.below B3.out)).mono ?_; rintro e w4 ⟨rfl, m, hw4⟩; have HP4 := Lib.hid (begin_heap4 HC m hw4); have hc1 := cell_of HP4.out 0; have hc2 := cell_of HP4.out 1; have hf1 := frozen_of HP4.out 0 none; have hf2 := frozen_of HP4.out 1 none; have B4 := Lib.hid (begin_below4 HC m hw4); have S4 := Lib.hid (begin_size4 HC m hw4); have HH4 := Lib.hid (heap_drewN4 HH3.out m hw4); clear HC hw4)) | (at_lookup; go_must (refine wpList_lookup_ok rfl _ _ _ rfl 5 183 Try.underlying184 _ Try.underlying5 _ _ _ rfl (.int .u8 181) rfl (by simp [IsKey]) HH4.out _ zero_kind (some (1, .agg #[.int .u8 2, .func (.func 97) #[] #[]])) (by simp [Instr.findNow, Instr.sameNow]) (.agg #[.int .u8 2, .func (.func 97) #[] #[]], true) rfl ?_)) | (go_at_call 97; go_must (refine (HM.out _ ((H.out.below B4.out).alloc _)).mono ?_; rintro e w5 ⟨⟨v, rfl, hv, fr⟩, hb5⟩; have FR := Lib.hid (Fresh.low (B' := w.heap.size + 1) fr (by simp; have := S4.out; omega)); clear fr; obtain ⟨A, cp, rfl, hnc, hv⟩ := hv.form rfl; have hd1 := begun_cell hb5 0 rfl; have HP5 := Lib.hid (begun_heap HP4.out hb5 S4.out); clear hc1 hc2 hf1 hf2; have hc1 := cell_of HP5.out 0; have hc2 := cell_of HP5.out 1; have hf1 := frozen_of HP5.out 0 none; have hf2 := frozen_of HP5.out 1 none; have B5 := Lib.hid (below_more (below_alloc1 B4.out _) hb5 (by simp [B4.out.size])); have V := Lib.hid hv; clear hb5 hv)) | (go_at_call 60; refine (ring_size g size K lost _ (H.out.below B5.out)).mono ?_; rintro e w' ⟨rfl, rfl⟩) | (go_at_call 31; refine (ring_len g size K lost _ (H.out.below B5.out)).mono ?_; rintro e w' ⟨rfl, rfl⟩))
          go_region
          go_wp2
          have hq := fin_cells HP5.out (.int .u8 2) (.slice A b.length cp)
          have hq0 := cell_of hq 0
          have hq1 := cell_of hq 1
          refine bodyPost_ret (v := .tuple #[.int .u8 (s : Int), .int .i64 (n : Int), .agg #[.int .u8 2, .slice A b.length cp]]) (by simp [results, Try.results64, go_sem, hq0, hq1]) rfl ?_
          exact ⟨⟨_, rfl, (V.out.set2 FR.out _ _).drew, FR.out.low (by omega)⟩, (below_set2 B5.out (Nat.le_refl _) _ _).drew⟩
      · skip
        by_cases c3 : c = 160
        · subst c3
          rw [if_neg (by decide), if_neg (by decide), if_pos rfl]
          have hm := fun W hR => sirf_any g size K lost W hR
          obtain ⟨⟨s, n, b⟩, hr⟩ : ∃ r, r = sirfM size K := ⟨_, rfl⟩
          rw [← hr] at hm ⊢
          have HM := Lib.hid hm
          clear hm hr
          by_cases hs : s = 0
          · subst hs
            by_cases hf : K.length = size
            · rw [show judge size K 3 (0, n, b) = (2, n, 3, b) from if_pos ⟨rfl, hf⟩]
              have hfi : ((K.length : Int) == (size : Int)) = true := by simp [hf]
              clear hf
              go_enter Try.func64, Try.ntmps64
              go_wp2_with (first | ((with_reducible refine ins_at ?_); refine wpList_insert_new rfl _ _ _ _ rfl 5 183 Try.underlying184 _ Try.underlying5 _ _ _ rfl (.int .u8 36) (.agg #[.int .u8 1, .func (.func 96) #[] #[]]) rfl (by simp [IsKey]) rfl (by first | assumption | exact (heap_alloc2 _ _ _)) (by simp [Instr.findNow, Instr.sameNow]) ?_; intro w1 hh1 hb1) | ((with_reducible refine ins_at ?_); refine wpList_insert_new rfl _ _ _ _ rfl 5 183 Try.underlying184 _ Try.underlying5 _ _ _ rfl (.int .u8 181) (.agg #[.int .u8 2, .func (.func 97) #[] #[]]) rfl (by simp [IsKey]) rfl (by first | assumption | exact (heap_alloc2 _ _ _)) (by simp [Instr.findNow, Instr.sameNow]) ?_; intro w2 hh2 hb2) | ((with_reducible refine ins_at ?_); refine wpList_insert_new rfl _ _ _ _ rfl 5 183 Try.underlying184 _ Try.underlying5 _ _ _ rfl (.int .u8 160) (.agg #[.int .u8 3, .func (.func 98) #[] #[]]) rfl (by simp [IsKey]) rfl (by first | assumption | exact (heap_alloc2 _ _ _)) (by simp [Instr.findNow, Instr.sameNow]) ?_; intro w3 hh3 hb3) | (go_at_call 99; go_must (have HC := hb1.trans (hb2.trans hb3); have B3 := Lib.hid (begin_below HC); have HH3 := Lib.hid hh3; clear hb1 hb2 hb3 hh1 hh2 hh3; refine (HAT.out _ (H.out.below B3.out)).mono ?_; rintro e w4 ⟨rfl, m, hw4⟩; have HP4 := Lib.hid (begin_heap4 HC m hw4); have hc1 := cell_of HP4.out 0; have hc2 := cell_of HP4.out 1; have hf1 := frozen_of HP4.out 0 none; have hf2 := frozen_of HP4.out 1 none; have B4 := Lib.hid (begin_below4 HC m hw4); have S4 := Lib.hid (begin_size4 HC m hw4); have HH4 := Lib.hid (heap_drewN4 HH3.out m hw4); clear HC hw4)) | (at_lookup; go_must (refine wpList_lookup_ok rfl _ _ _ rfl 5 183 Try.underlying184 _ Try.underlying5 _ _ _ rfl (.int .u8 160) rfl (by simp [IsKey]) HH4.out _ zero_kind (some (2, .agg #[.int .u8 3, .func (.func 98) #[] #[]])) (by simp [Instr.findNow, Instr.sameNow]) (.agg #[.int .u8 3, .func (.func 98) #[] #[]], true) rfl ?_)) | (go_at_call 98; go_must (refine (HM.out _ ((H.out.below B4.out).alloc _)).mono ?_; rintro e w5 ⟨⟨v, rfl, hv, fr⟩, hb5⟩; have FR := Lib.hid (Fresh.low (B' := w.heap.size + 1) fr (by simp; have := S4.out; omega)); clear fr; obtain ⟨A, cp, rfl, hnc, hv⟩ := hv.form rfl; have hd1 := begun_cell hb5 0 rfl; have HP5 := Lib.hid (begun_heap HP4.out hb5 S4.out); clear hc1 hc2 hf1 hf2; have hc1 := cell_of HP5.out 0; have hc2 := cell_of HP5.out 1; have hf1 := frozen_of HP5.out 0 none; have hf2 := frozen_of HP5.out 1 none; have B5 := Lib.hid (below_more (below_alloc1 B4.out _) hb5 (by simp [B4.out.size])); have V := Lib.hid hv; clear hb5 hv)) | (go_at_call 60; refine (ring_size g size K lost _ (H.out.below B5.out)).mono ?_; rintro e w' ⟨rfl, rfl⟩) | (go_at_call 31; refine (ring_len g size K lost _ (H.out.below B5.out)).mono ?_; rintro e w' ⟨rfl, rfl⟩))
              go_region
              go_wp2
              have hq := fin_cells HP5.out (.int .u8 3) (.slice A b.length cp)
              have hq0 := cell_of hq 0
              have hq1 := cell_of hq 1
              refine bodyPost_ret (v := .tuple #[.int .u8 (2 : Int), .int .i64 (n : Int), .agg #[.int .u8 3, .slice A b.length cp]]) (by simp [results, Try.results64, go_sem, hq0, hq1]) rfl ?_
              exact ⟨⟨_, rfl, (V.out.set2 FR.out _ _).drew, FR.out.low (by omega)⟩, (below_set2 B5.out (Nat.le_refl _) _ _).drew⟩
            · rw [show judge size K 3 (0, n, b) = (0, n, 3, b) from if_neg (fun h => hf h.2)]
              have hfi : ((K.length : Int) == (size : Int)) = false := by simp; omega
              clear hf
              go_enter Try.func64, Try.ntmps64
              go_wp2_with (first | ((with_reducible refine ins_at ?_); refine wpList_insert_new rfl _ _ _ _ rfl 5 183 Try.underlying184 _ Try.underlying5 _ _ _ rfl (.int .u8 36) (.agg #[.int .u8 1, .func (.func 96) #[] #[]]) rfl (by simp [IsKey]) rfl (by first | assumption | exact (heap_alloc2 _ _ _)) (by simp [Instr.findNow, Instr.sameNow]) ?_; intro w1 hh1 hb1) | ((with_reducible refine ins_at ?_); refine wpList_insert_new rfl _ _ _ _ rfl 5 183 Try.underlying184 _ Try.underlying5 _ _ _ rfl (.int .u8 181) (.agg #[.int .u8 2, .func (.func 97) #[] #[]]) rfl (by simp [IsKey]) rfl (by first | assumption | exact (heap_alloc2 _ _ _)) (by simp [Instr.findNow, Instr.sameNow]) ?_; intro w2 hh2 hb2) | ((with_reducible refine ins_at ?_); refine wpList_insert_new rfl _ _ _ _ rfl 5 183 Try.underlying184 _ Try.underlying5 _ _ _ rfl (.int .u8 160) (.agg #[.int .u8 3, .func (.func 98) #[] #[]]) rfl (by simp [IsKey]) rfl (by first | assumption | exact (heap_alloc2 _ _ _)) (by simp [Instr.findNow, Instr.sameNow]) ?_; intro w3 hh3 hb3) | (go_at_call 99; go_must (have HC := hb1.trans (hb2.trans hb3); have B3 := Lib.hid (begin_below HC); have HH3 := Lib.hid hh3; clear hb1 hb2 hb3 hh1 hh2 hh3; refine (HAT.out _ (H.out.below B3.out)).mono ?_; rintro e w4 ⟨rfl, m, hw4⟩; have HP4 := Lib.hid (begin_heap4 HC m hw4); have hc1 := cell_of HP4.out 0; have hc2 := cell_of HP4.out 1; have hf1 := frozen_of HP4.out 0 none; have hf2 := frozen_of HP4.out 1 none; have B4 := Lib.hid (begin_below4 HC m hw4); have S4 := Lib.hid (begin_size4 HC m hw4); have HH4 := Lib.hid (heap_drewN4 HH3.out m hw4); clear HC hw4)) | (at_lookup; go_must (refine wpList_lookup_ok rfl _ _ _ rfl 5 183 Try.underlying184 _ Try.underlying5 _ _ _ rfl (.int .u8 160) rfl (by simp [IsKey]) HH4.out _ zero_kind (some (2, .agg #[.int .u8 3, .func (.func 98) #[] #[]])) (by simp [Instr.findNow, Instr.sameNow]) (.agg #[.int .u8 3, .func (.func 98) #[] #[]], true) rfl ?_)) | (go_at_call 98; go_must (refine (HM.out _ ((H.out.below B4.out).alloc _)).mono ?_; rintro e w5 ⟨⟨v, rfl, hv, fr⟩, hb5⟩; have FR := Lib.hid (Fresh.low (B' := w.heap.size + 1) fr (by simp; have := S4.out; omega)); clear fr; obtain ⟨A, cp, rfl, hnc, hv⟩ := hv.form rfl; have hd1 := begun_cell hb5 0 rfl; have HP5 := Lib.hid (begun_heap HP4.out hb5 S4.out); clear hc1 hc2 hf1 hf2; have hc1 := cell_of HP5.out 0; have hc2 := cell_of HP5.out 1; have hf1 := frozen_of HP5.out 0 none; have hf2 := frozen_of HP5.out 1 none; have B5 := Lib.hid (below_more (below_alloc1 B4.out _) hb5 (by simp [B4.out.size])); have V := Lib.hid hv; clear hb5 hv)) | (go_at_call 60; refine (ring_size g size K lost _ (H.out.below B5.out)).mono ?_; rintro e w' ⟨rfl, rfl⟩) | (go_at_call 31; refine (ring_len g size K lost _ (H.out.below B5.out)).mono ?_; rintro e w' ⟨rfl, rfl⟩))
              go_region
              go_wp2
              have hq := fin_cells HP5.out (.int .u8 3) (.slice A b.length cp)
              have hq0 := cell_of hq 0
              have hq1 := cell_of hq 1
              refine bodyPost_ret (v := .tuple #[.int .u8 (0 : Int), .int .i64 (n : Int), .agg #[.int .u8 3, .slice A b.length cp]]) (by simp [results, Try.results64, go_sem, hq0, hq1]) rfl ?_
              exact ⟨⟨_, rfl, (V.out.set2 FR.out _ _).drew, FR.out.low (by omega)⟩, (below_set2 B5.out (Nat.le_refl _) _ _).drew⟩
          · rw [show judge size K 3 (s, n, b) = (s, n, 3, b) from if_neg (fun h => hs h.1)]
            have hsi : ((s : Int) == 0) = false := by simp; omega
            clear hs
            go_enter Try.func64, Try.ntmps64
            go_wp2_with (first | ((with_reducible refine ins_at ?_); refine wpList_insert_new rfl _ _ _ _ rfl 5 183 Try.underlying184 _ Try.underlying5 _ _ _ rfl (.int .u8 36) (.agg #[.int .u8 1, .func (.func 96) #[] #[]]) rfl (by simp [IsKey]) rfl (by first | assumption | exact (heap_alloc2 _ _ _)) (by simp [Instr.findNow, Instr.sameNow]) ?_; intro w1 hh1 hb1) | ((with_reducible refine ins_at ?_); refine wpList_insert_new rfl _ _ _ _ rfl 5 183 Try.underlying184 _ Try.underlying5 _ _ _ rfl (.int .u8 181) (.agg #[.int .u8 2, .func (.func 97) #[] #[]]) rfl (by simp [IsKey]) rfl (by first | assumption | exact (heap_alloc2 _ _ _)) (by simp [Instr.findNow, Instr.sameNow]) ?_; intro w2 hh2 hb2) | ((with_reducible refine ins_at ?_); refine wpList_insert_new rfl _ _ _ _ rfl 5 183 Try.underlying184 _ Try.underlying5 _ _ _ rfl (.int .u8 160) (.agg #[.int .u8 3, .func (.func 98) #[] #[]]) rfl (by simp [IsKey]) rfl (by first | assumption | exact (heap_alloc2 _ _ _)) (by simp [Instr.findNow, Instr.sameNow]) ?_; intro w3 hh3 hb3) | (go_at_call 99; go_must (have HC := hb1.trans (hb2.trans hb3); have B3 := Lib.hid (begin_below HC); have HH3 := Lib.hid hh3; clear hb1 hb2 hb3 hh1 hh2 hh3; refine (HAT.out _ (H.out.below B3.out)).mono ?_; rintro e w4 ⟨rfl, m, hw4⟩; have HP4 := Lib.hid (begin_heap4 HC m hw4); have hc1 := cell_of HP4.out 0; have hc2 := cell_of HP4.out 1; have hf1 := frozen_of HP4.out 0 none; have hf2 := frozen_of HP4.out 1 none; have B4 := Lib.hid (begin_below4 HC m hw4); have S4 := Lib.hid (begin_size4 HC m hw4); have HH4 := Lib.hid (heap_drewN4 HH3.out m hw4); clear HC hw4)) | (at_lookup; go_must (refine wpList_lookup_ok rfl _ _ _ rfl 5 183 Try.underlying184 _ Try.underlying5 _ _ _ rfl (.int .u8 160) rfl (by simp [IsKey]) HH4.out _ zero_kind (some (2, .agg #[.int .u8 3, .func (.func 98) #[] #[]])) (by simp [Instr.findNow, Instr.sameNow]) (.agg #[.int .u8 3, .func (.func 98) #[] #[]], true) rfl ?_)) | (go_at_call 98; go_must (refine (HM.out _ ((H.out.below B4.out).alloc _)).mono ?_; rintro e w5 ⟨⟨v, rfl, hv, fr⟩, hb5⟩; have FR := Lib.hid (Fresh.low (B' := w.heap.size + 1) fr (by simp; have := S4.out; omega)); clear fr; obtain ⟨A, cp, rfl, hnc, hv⟩ := hv.form rfl; have hd1 := begun_cell hb5 0 rfl; have HP5 := Lib.hid (begun_heap HP4.out hb5 S4.out); clear hc1 hc2 hf1 hf2; have hc1 := cell_of HP5.out 0; have hc2 := cell_of HP5.out 1; have hf1 := frozen_of HP5.out 0 none; have hf2 := frozen_of HP5.out 1 none; have B5 := Lib.hid (below_more (below_alloc1 B4.out _) hb5 (by simp [B4.out.size])); have V := Lib.hid hv; clear hb5 hv)) | (go_at_call 60; refine (ring_size g size K lost _ (H.out.below B5.out)).mono ?_; rintro e w' ⟨rfl, rfl⟩) | (go_at_call 31; refine (ring_len g size K lost _ (H.out.below B5.out)).mono ?_; rintro e w' ⟨rfl, rfl⟩))
            go_region
            go_wp2
            have hq := fin_cells HP5.out (.int .u8 3) (.slice A b.length cp)
            have hq0 := cell_of hq 0
            have hq1 := cell_of hq 1
            refine bodyPost_ret (v := .tuple #[.int .u8 (s : Int), .int .i64 (n : Int), .agg #[.int .u8 3, .slice A b.length cp]]) (by simp [results, Try.results64, go_sem, hq0, hq1]) rfl ?_
            exact ⟨⟨_, rfl, (V.out.set2 FR.out _ _).drew, FR.out.low (by omega)⟩, (below_set2 B5.out (Nat.le_refl _) _ _).drew⟩
        · rw [if_neg c1, if_neg c2, if_neg c3]
          have q1 : ((c.toNat : Int) == 36) = false := neq_u8 c1 rfl
          have q2 : ((c.toNat : Int) == 181) = false := neq_u8 c2 rfl
          have q3 : ((c.toNat : Int) == 160) = false := neq_u8 c3 rfl
          have Q := Lib.hid (And.intro q1 (And.intro q2 q3))
          clear c1 c2 c3 q1 q2 q3
          go_enter Try.func64, Try.ntmps64
          go_wp2_with (first | ((with_reducible refine ins_at ?_); refine wpList_insert_new rfl _ _ _ _ rfl 5 183 Try.underlying184 _ Try.underlying5 _ _ _ rfl (.int .u8 36) (.agg #[.int .u8 1, .func (.func 96) #[] #[]]) rfl (by simp [IsKey]) rfl (by first | assumption | exact (heap_alloc2 _ _ _)) (by simp [Instr.findNow, Instr.sameNow]) ?_; intro w1 hh1 hb1) | ((with_reducible refine ins_at ?_); refine wpList_insert_new rfl _ _ _ _ rfl 5 183 Try.underlying184 _ Try.underlying5 _ _ _ rfl (.int .u8 181) (.agg #[.int .u8 2, .func (.func 97) #[] #[]]) rfl (by simp [IsKey]) rfl (by first | assumption | exact (heap_alloc2 _ _ _)) (by simp [Instr.findNow, Instr.sameNow]) ?_; intro w2 hh2 hb2) | ((with_reducible refine ins_at ?_); refine wpList_insert_new rfl _ _ _ _ rfl 5 183 Try.underlying184 _ Try.underlying5 _ _ _ rfl (.int .u8 160) (.agg #[.int .u8 3, .func (.func 98) #[] #[]]) rfl (by simp [IsKey]) rfl (by first | assumption | exact (heap_alloc2 _ _ _)) (by simp [Instr.findNow, Instr.sameNow]) ?_; intro w3 hh3 hb3) | (go_at_call 99; go_must (have HC := hb1.trans (hb2.trans hb3); have B3 := Lib.hid (begin_below HC); have HH3 := Lib.hid hh3; clear hb1 hb2 hb3 hh1 hh2 hh3; refine (HAT.out _ (H.out.below B3.out)).mono ?_; rintro e w4 ⟨rfl, m, hw4⟩; have HP4 := Lib.hid (begin_heap4 HC m hw4); have hc1 := cell_of HP4.out 0; have hc2 := cell_of HP4.out 1; have hf1 := frozen_of HP4.out 0 none; have hf2 := frozen_of HP4.out 1 none; have B4 := Lib.hid (begin_below4 HC m hw4); have S4 := Lib.hid (begin_size4 HC m hw4); have HH4 := Lib.hid (heap_drewN4 HH3.out m hw4); clear HC hw4)) | (at_lookup; go_must (have hz := heap_old4 (o := .cells #[.int .u8 0, .nilFunc] 183) HP4.out S4.out; have e1 := cell_of hz 0; have e2 := cell_of hz 1; have e3 := frozen_of hz 0 none; have e4 := frozen_of hz 1 none; clear hz; refine wpList_lookup_ok rfl _ _ _ rfl 5 183 Try.underlying184 _ Try.underlying5 _ _ _ rfl (bv c) rfl (by simp [IsKey, bv]) HH4.out _ zero_kind none (by simp [Instr.findNow, Instr.sameNow, bv, Q.out.1, Q.out.2.1, Q.out.2.2]) (.agg #[.int .u8 0, .nilFunc], false) rfl ?_)))
          have hq := fin_cells ((heap_old4 (o := .cells #[.int .u8 0, .nilFunc] 183) HP4.out S4.out).trans rfl) (.int .u8 0) (.slice none 0 0)
          have hq0 := cell_of hq 0
          have hq1 := cell_of hq 1
          refine bodyPost_ret (v := .tuple #[.int .u8 2, .int .i64 0, .agg #[.int .u8 0, .slice none 0 0]]) (by simp [results, Try.results64, go_sem, hq0, hq1]) rfl ?_
          exact ⟨⟨_, rfl, Bs.nil _, Fresh.nil _ _ _⟩, below_set2 (below_alloc1 B4.out _) (Nat.le_refl _) _ _⟩
end Go.Proofs.Ytfgglffjigolhaa
