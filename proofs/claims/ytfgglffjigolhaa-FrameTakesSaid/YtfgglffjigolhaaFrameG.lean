/- Frames: no ring. -/
import Derived.Test.YtfgglffjigolhaaFrameF
namespace Go.Proofs.Ytfgglffjigolhaa
open Go.RowKit Go.MapKept

theorem begin_heap3 {w w1 : World} {o p : Obj} (h : Below (w.heap.size + 1) ((w.alloc o).alloc p) w1) : w1.heap[w.heap.size]? = some o := begin_heap4 (w4 := w1.drewN 0) h 0 rfl
set_option maxRecDepth 100000 in
set_option maxHeartbeats 1600000 in
theorem begin_nil (w : World) :
    Calls Try.prog 64 #[.pointer none] w fun e w' => e = .returned (.tuple #[.int .u8 0, .int .i64 0, .agg #[.int .u8 0, .slice none 0 0]]) ∧ Below w.heap.size w w' := by
  have hmm := @run_makeMap Try.prog
  go_enter Try.func64, Try.ntmps64
  go_wp2_with (first | ((with_reducible refine ins_at ?_); refine wpList_insert_new rfl _ _ _ _ rfl 5 183 Try.underlying184 _ Try.underlying5 _ _ _ rfl (.int .u8 36) (.agg #[.int .u8 1, .func (.func 96) #[] #[]]) rfl (by simp [IsKey]) rfl (by first | assumption | exact (heap_alloc2 _ _ _)) (by simp [Instr.findNow, Instr.sameNow]) ?_; intro w1 hh1 hb1) | ((with_reducible refine ins_at ?_); refine wpList_insert_new rfl _ _ _ _ rfl 5 183 Try.underlying184 _ Try.underlying5 _ _ _ rfl (.int .u8 181) (.agg #[.int .u8 2, .func (.func 97) #[] #[]]) rfl (by simp [IsKey]) rfl (by first | assumption | exact (heap_alloc2 _ _ _)) (by simp [Instr.findNow, Instr.sameNow]) ?_; intro w2 hh2 hb2) | ((with_reducible refine ins_at ?_); refine wpList_insert_new rfl _ _ _ _ rfl 5 183 Try.underlying184 _ Try.underlying5 _ _ _ rfl (.int .u8 160) (.agg #[.int .u8 3, .func (.func 98) #[] #[]]) rfl (by simp [IsKey]) rfl (by first | assumption | exact (heap_alloc2 _ _ _)) (by simp [Instr.findNow, Instr.sameNow]) ?_; intro w3 hh3 hb3) | (go_at_call 99; go_must (have HC := hb1.trans (hb2.trans hb3); have HP4 := Lib.hid (begin_heap3 HC); have B4 := Lib.hid (begin_below HC); clear hb1 hb2 hb3 hh1 hh2 hh3 HC; refine (ring_at_nil 0 _).mono ?_; rintro e w4 ⟨rfl, rfl⟩; have hc1 := cell_of HP4.out 0; have hc2 := cell_of HP4.out 1; have hf1 := frozen_of HP4.out 0 none; have hf2 := frozen_of HP4.out 1 none)))
  have hq := fin_cells HP4.out (.int .u8 0) (.slice none 0 0)
  have hq0 := cell_of hq 0
  have hq1 := cell_of hq 1
  refine bodyPost_ret (v := .tuple #[.int .u8 0, .int .i64 0, .agg #[.int .u8 0, .slice none 0 0]]) (by simp [results, Try.results64, go_sem, hq0, hq1]) rfl ?_
  exact ⟨rfl, below_set2 B4.out (Nat.le_refl _) _ _⟩

set_option maxRecDepth 100000 in
set_option maxHeartbeats 1600000 in
theorem next_nil (w : World) :
    Calls Try.prog 25 #[.pointer none] w fun e w' => e = .returned (.tuple #[.agg #[.int .u8 0, .slice none 0 0], .bool false, .int .i64 0]) ∧ Below w.heap.size w w' := by
  go_enter Try.func25, Try.ntmps25
  go_wp2_with fail
  go_loopw [5] (fun i wr => i = .int .i64 0 ∧ Below w.heap.size w wr ∧ wr.heap[w.heap.size]? = some (.cells #[.int .u8 0, .slice none 0 0] 39 (0, 0))) (fun i _ => 0)
  case atStart => exact ⟨rfl, (Below.refl _ _).alloc (Nat.le_refl _) _, heap_alloc_same _ _⟩
  case round =>
    obtain ⟨rfl, hB, hh⟩ := hrel
    have HB := Lib.hid hB
    have HH := Lib.hid hh
    clear hB hh
    go_wp2_with (first | (go_at_call 64; go_must (refine (begin_nil _).mono ?_; rintro e w1 ⟨rfl, hb1⟩; have H1 := Lib.hid ((Ext.of_below (S := NoB) hb1).heap HH.out (fun x => x)); have hs1 := heap_lt H1.out; have hc1 := cell_of H1.out 0; have hc2 := cell_of H1.out 1; have hf1 := frozen_of H1.out 0 none; have hf2 := frozen_of H1.out 1 none; have B1 := Lib.hid (below_more HB.out hb1 (Nat.le_refl _)); clear hb1)))
    have hq := heap_keep (o := .cells #[.int .u8 0, .slice none 0 0] 39) (fin_cells H1.out (.int .u8 0) (.slice none 0 0))
    have hq0 := cell_of hq 0
    have hq1 := cell_of hq 1
    refine bodyPost_ret (v := .tuple #[.agg #[.int .u8 0, .slice none 0 0], .bool false, .int .i64 0]) (by simp [results, Try.results25, go_sem, hq0, hq1]) rfl ?_
    exact ⟨rfl, below_alloc1 (below_set2 B1.out (Nat.le_refl _) _ _) _⟩

set_option maxRecDepth 100000 in
set_option maxHeartbeats 1600000 in
theorem all_nil (w : World) :
    Calls Try.prog 29 #[.pointer none] w fun e w' => e = .returned (.tuple #[.slice none 0 0, .int .i64 0]) ∧ Below w.heap.size w w' := by
  go_enter Try.func29, Try.ntmps29
  go_wp2_with fail
  go_loopw [2, 3] (fun l d wr => l = .slice none 0 0 ∧ d = .int .i64 0 ∧ Below w.heap.size w wr) (fun _ _ _ => 0)
  case atStart => exact ⟨rfl, rfl, Below.refl _ _⟩
  case round =>
    obtain ⟨rfl, rfl, hB⟩ := hrel
    have HB := Lib.hid hB
    clear hB
    go_wp2_with (first | (go_at_call 25; go_must (refine (next_nil _).mono ?_; rintro e w1 ⟨rfl, hb1⟩; have B1 := Lib.hid (below_more HB.out hb1 (Nat.le_refl _)); clear hb1)))
    go_ret2
    exact ⟨rfl, (by repeat (first | with_reducible exact B1.out | with_reducible exact Below.refl _ _ | with_reducible refine below_drew1 ?_ | with_reducible refine below_drewN1 ?_ _ | with_reducible refine below_alloc1 ?_ _ | with_reducible refine below_setb (by first | exact Nat.le_refl _ | omega) ?_))⟩
end Go.Proofs.Ytfgglffjigolhaa
