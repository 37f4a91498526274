/- Frames: Next. -/
import Derived.Test.YtfgglffjigolhaaFrameE
namespace Go.Proofs.Ytfgglffjigolhaa
open Go.RowKit

def nextM (size : Nat) : Nat → List UInt8 → Nat × Bool × Nat × List UInt8 × List UInt8
  | 0, L => (0, false, 0, [], L)
  | f + 1, L =>
    if (beginM size L).1 = 0 then (0, false, 0, [], L)
    else if (beginM size L).1 = 1 then (0, true, (beginM size L).2.2.1, (beginM size L).2.2.2, L.drop (beginM size L).2.1)
    else ((nextM size f (L.drop 1)).1 + 1, (nextM size f (L.drop 1)).2)
def Nexted (B : Nat) (w' : World) (e : Ending) (d : Nat) (ok : Bool) (k : Nat) (b : List UInt8) : Prop :=
  ∃ v, e = .returned (.tuple #[.agg #[.int .u8 (k : Int), v], .bool ok, .int .i64 (d : Int)]) ∧ Bs w' v b ∧ Fresh B v
theorem heap_keep {w : World} {g : Nat} {x o : Obj} (h : w.heap[g]? = some x) : (w.alloc o).heap[g]? = some x := (((Ext.refl NoB w).alloc o).heap h (fun x => x))
theorem nextM_succ (size f : Nat) (L : List UInt8) : nextM size (f + 1) L =
    if (beginM size L).1 = 0 then (0, false, 0, [], L)
    else if (beginM size L).1 = 1 then (0, true, (beginM size L).2.2.1, (beginM size L).2.2.2, L.drop (beginM size L).2.1)
    else ((nextM size f (L.drop 1)).1 + 1, (nextM size f (L.drop 1)).2) := by rw [nextM]
theorem beginM_nil (size : Nat) : beginM size [] = (0, 0, 0, []) := rfl

set_option maxRecDepth 100000 in
set_option maxHeartbeats 1600000 in
theorem next_any (g size : Nat) (L : List UInt8) (lost : Int) (w : World) (h : IsRing w g size L lost) (f : Nat) (hf : L.length < f) :
    Calls Try.prog 25 #[.pointer (some ⟨g, 0, none⟩)] w fun e w' => Nexted w.heap.size w' e (nextM size f L).1 (nextM size f L).2.1 (nextM size f L).2.2.1 (nextM size f L).2.2.2.1 ∧ IsRing w' g size (nextM size f L).2.2.2.2 lost ∧ Ext (OneB g) w w' := by
  have hlen := h.len
  have hg := h.lt
  have H := Lib.hid h
  clear h
  go_enter Try.func25, Try.ntmps25
  go_wp2_with fail
  go_loopw [5] (fun i wr => ∃ (d f' : Nat) (L' : List UInt8), i = .int .i64 d ∧ L'.length + d = L.length ∧ L'.length < f' ∧ nextM size f L = ((nextM size f' L').1 + d, (nextM size f' L').2) ∧ IsRing wr g size L' lost ∧ Ext (OneB g) w wr ∧ wr.heap[w.heap.size]? = some (.cells #[.int .u8 0, .slice none 0 0] 39 (0, 0))) (fun i _ => L.length + 1 - (intOf i).toNat)
  case atStart => exact ⟨0, f, L, rfl, by omega, hf, by simp, H.out.alloc _, (Ext.refl _ _).alloc _, heap_alloc_same _ _⟩
  case round =>
    obtain ⟨d, f', L', rfl, hd, hf', hn, hR, hE, hh⟩ := hrel
    obtain ⟨f', rfl⟩ : ∃ x, f' = x + 1 := ⟨f' - 1, by omega⟩
    have hsz := heap_lt hh
    have hb := begin_any g size L' lost _ hR
    have h0 : L' = [] → (beginM size L').1 = 0 := by rintro rfl; rfl
    rw [nextM_succ] at hn
    obtain ⟨⟨s, n, k, b⟩, hbm⟩ : ∃ r, r = beginM size L' := ⟨_, rfl⟩
    rw [← hbm] at hb hn h0
    simp only at hn h0
    simp only [Begun] at hb
    have HR := Lib.hid hR
    have HE := Lib.hid hE
    have HH := Lib.hid hh
    have HB := Lib.hid hb
    clear hR hE hh hb hbm
    by_cases hs0 : s = 0
    · subst hs0
      rw [if_pos rfl] at hn
      have HN := Lib.hid hn
      clear hn h0
      go_wp2_with (first | (go_at_call 64; go_must (refine HB.out.mono ?_; rintro e w1 ⟨⟨v, rfl, hv, fr⟩, hb1⟩; obtain ⟨A, cp, rfl, hnc, hv⟩ := hv.form rfl; have H1 := Lib.hid ((Ext.of_below (S := NoB) hb1).heap HH.out (fun x => x)); have hs1 := heap_lt H1.out; have hc1 := cell_of H1.out 0; have hc2 := cell_of H1.out 1; have hf1 := frozen_of H1.out 0 none; have hf2 := frozen_of H1.out 1 none; have B1 := Lib.hid hb1; have V := Lib.hid hv; have FR := Lib.hid fr; clear hb1 hv fr)))
      have hq := heap_keep (o := .cells #[.int .u8 (k : Int), .slice A b.length cp] 39) (fin_cells H1.out (.int .u8 0) (.slice none 0 0))
      have hq0 := cell_of hq 0
      have hq1 := cell_of hq 1
      refine bodyPost_ret (v := .tuple #[.agg #[.int .u8 0, .slice none 0 0], .bool false, .int .i64 (d : Int)]) (by simp [results, Try.results25, go_sem, hq0, hq1]) rfl ?_
      rw [HN.out]
      refine ⟨⟨_, by simp, Bs.nil _, Fresh.nil _ _ _⟩, (((HR.out.below B1.out).far (by show ¬ g = w.heap.size; omega) _).far (by show ¬ g = w.heap.size; omega) _).alloc _, (((HE.out.same (Ext.of_below B1.out)).setCell (.inl (Nat.le_refl _)) _).setCell (.inl (Nat.le_refl _)) _).alloc _⟩
    · rw [if_neg hs0] at hn
      by_cases hs1 : s = 1
      · subst hs1
        rw [if_pos rfl] at hn
        obtain ⟨K, hK⟩ : ∃ K : Nat, (K : Int) = max 0 (min (n : Int) L'.length) := ⟨min n L'.length, by omega⟩
        have hdk : L'.drop K = L'.drop n := by
          rcases Nat.lt_or_ge n L'.length with h1 | h1
          · rw [show K = n by omega]
          · rw [List.drop_of_length_le h1, List.drop_of_length_le (by omega)]
        rw [← hdk] at hn
        have HN := Lib.hid hn
        have HKK := Lib.hid hK
        clear hn h0 hK hdk
        go_wp2_with (first | (go_at_call 64; go_must (refine HB.out.mono ?_; rintro e w1 ⟨⟨v, rfl, hv, fr⟩, hb1⟩; obtain ⟨A, cp, rfl, hnc, hv⟩ := hv.form rfl; have H1 := Lib.hid ((Ext.of_below (S := NoB) hb1).heap HH.out (fun x => x)); have hs1 := heap_lt H1.out; have hc1 := cell_of H1.out 0; have hc2 := cell_of H1.out 1; have hf1 := frozen_of H1.out 0 none; have hf2 := frozen_of H1.out 1 none; have B1 := Lib.hid hb1; have V := Lib.hid hv; have FR := Lib.hid fr; clear hb1 hv fr)) | (go_at_call 62; go_must (refine (ring_drop g size L' lost n K _ ((HR.out.below B1.out).alloc _) HKK.out).mono ?_; rintro e w2 ⟨rfl, hr2, he2⟩; clear hc1 hc2 hf1 hf2; have H2 := Lib.hid (he2.heap (heap_keep H1.out) (by show ¬ w.heap.size = g; omega)); have HC2 := Lib.hid (he2.heap (heap_alloc_same w1 _) (by show ¬ w1.heap.size = g; have := B1.out.size; omega)); have hc1 := cell_of H2.out 0; have hc2 := cell_of H2.out 1; have hf1 := frozen_of H2.out 0 none; have hf2 := frozen_of H2.out 1 none; have hd1 := cell_of HC2.out 0; have hd2 := cell_of HC2.out 1; have R2 := Lib.hid hr2; have E2 := Lib.hid he2; clear hr2 he2)))
        have hq := fin_cells H2.out (.int .u8 (k : Int)) (.slice A b.length cp)
        have hq0 := cell_of hq 0
        have hq1 := cell_of hq 1
        refine bodyPost_ret (v := .tuple #[.agg #[.int .u8 (k : Int), .slice A b.length cp], .bool true, .int .i64 (d : Int)]) (by simp [results, Try.results25, go_sem, hq0, hq1]) rfl ?_
        rw [HN.out]
        have hfr : Fresh (w.heap.size + 1) (.slice A b.length cp) := FR.out.low hsz
        have hv2 : Bs w2 (.slice A b.length cp) b := (V.out.alloc _).kept E2.out (fun x _ hx e => by have h1 := hfr x hx; have h2 : x = g := e; omega)
        exact ⟨⟨_, by simp, hv2.set2 hfr _ _, hfr.low (by omega)⟩, (R2.out.far (by show ¬ g = w.heap.size; omega) _).far (by show ¬ g = w.heap.size; omega) _, (((HE.out.same (Ext.of_below B1.out)).alloc _).same (E2.out)).setCell (.inl (Nat.le_refl _)) _ |>.setCell (.inl (Nat.le_refl _)) _⟩
      · rw [if_neg hs1] at hn
        have hne : L' ≠ [] := fun e => hs0 (h0 e)
        have hpos : 0 < L'.length := List.length_pos_iff.mpr hne
        have g0 : ((s : Int) == 0) = false := by simp; omega
        have g1 : ((s : Int) == 1) = false := by simp; omega
        have HN := Lib.hid hn
        clear hn h0 hne hs0 hs1
        go_wp2_with (first | (go_at_call 64; go_must (refine HB.out.mono ?_; rintro e w1 ⟨⟨v, rfl, hv, fr⟩, hb1⟩; obtain ⟨A, cp, rfl, hnc, hv⟩ := hv.form rfl; have H1 := Lib.hid ((Ext.of_below (S := NoB) hb1).heap HH.out (fun x => x)); have hs1 := heap_lt H1.out; have hc1 := cell_of H1.out 0; have hc2 := cell_of H1.out 1; have hf1 := frozen_of H1.out 0 none; have hf2 := frozen_of H1.out 1 none; have B1 := Lib.hid hb1; have V := Lib.hid hv; have FR := Lib.hid fr; clear hb1 hv fr)) | (go_at_call 62; go_must (refine (ring_drop g size L' lost 1 1 _ ((HR.out.below B1.out).alloc _) (by omega)).mono ?_; rintro e w2 ⟨rfl, hr2, he2⟩; have R2 := Lib.hid hr2; have E2 := Lib.hid he2; clear hr2 he2)))
        go_roundw
        case rel => exact ⟨d + 1, f', L'.drop 1, by go_num, by rw [List.length_drop]; omega, by rw [List.length_drop]; omega, by rw [HN.out]; simp only [Nat.add_assoc, Nat.add_comm 1 d], R2.out, ((HE.out.same (Ext.of_below B1.out)).alloc _).same E2.out, E2.out.heap (heap_keep H1.out) (by show ¬ w.heap.size = g; omega)⟩
        case measure => simp [intOf]; omega
end Go.Proofs.Ytfgglffjigolhaa
