/- The document's ring (a list): Put, Peek, Drop. -/
import Derived.Test.YtfgglffjigolhaaFrameC
namespace Go.Proofs.Ytfgglffjigolhaa
open Go.RowKit

/-- The document's ring. -/
def RefRing (w : World) (g size : Nat) (L : List UInt8) : Prop :=
  ∃ v lost, w.heap[g]? = some (.cells #[.int .i64 (size : Int), v, .int .i64 lost] 47 (0, 0)) ∧ Bs w v L ∧ Fresh (g + 1) v
theorem RefRing.lt {w : World} {g size : Nat} {L : List UInt8} (h : RefRing w g size L) : g < w.heap.size := by
  obtain ⟨v, lost, h1, _⟩ := h; exact heap_lt h1
theorem RefRing.ext {w w' : World} {g size h : Nat} {L : List UInt8} (H : RefRing w g size L) (hE : Ext (OneB h) w w') (hn : h < g) : RefRing w' g size L := by
  obtain ⟨v, lost, h1, h2, h3⟩ := H
  exact ⟨v, lost, hE.heap h1 (fun e => by have : g = h := e; omega), h2.kept hE (fun k _ hk e => by have h4 := h3 k hk; have : k = h := e; omega), h3⟩
theorem RefRing.below {w w' : World} {g size : Nat} {L : List UInt8} (H : RefRing w g size L) (hE : Below w.heap.size w w') : RefRing w' g size L := by
  obtain ⟨v, lost, h1, h2, h3⟩ := H
  exact ⟨v, lost, (Ext.of_below (S := NoB) hE).heap h1 (fun x => x), h2.below hE, h3⟩
theorem RefRing.alloc {w : World} {g size : Nat} {L : List UInt8} (H : RefRing w g size L) (o : Obj) : RefRing (w.alloc o) g size L := H.below ((Below.refl _ _).alloc (Nat.le_refl _) o)
theorem RefRing.drew {w : World} {g size : Nat} {L : List UInt8} (H : RefRing w g size L) : RefRing w.drew g size L := H
theorem RefRing.drewN {w : World} {g size : Nat} {L : List UInt8} (H : RefRing w g size L) (n : Nat) : RefRing (w.drewN n) g size L := H
theorem RefRing.set {w : World} {g size : Nat} {L M : List UInt8} {u : Value} (H : RefRing w g size L) (hu : Bs w u M) (hf : Fresh (g + 1) u) : RefRing (w.setCell ⟨g, 1, none⟩ u) g size M := by
  obtain ⟨v, lost, h1, h2, h3⟩ := H
  exact ⟨u, lost, heap_setCell_same h1 1 u, hu.kept (S := OneB g) ((Ext.refl _ _).set1 1 u) (fun k _ hk e => by have h4 := hf k hk; have : k = g := e; omega), hf⟩
theorem RefRing.set2 {w : World} {g size : Nat} {L : List UInt8} {i : Int} (H : RefRing w g size L) : RefRing (w.setCell ⟨g, 2, none⟩ (.int .i64 i)) g size L := by
  obtain ⟨v, lost, h1, h2, h3⟩ := H
  exact ⟨v, i, heap_setCell_same h1 2 _, h2.kept (S := OneB g) ((Ext.refl _ _).set1 2 _) (fun k _ hk e => by have h4 := h3 k hk; have : k = g := e; omega), h3⟩

set_option maxHeartbeats 1600000 in
theorem ref_peek (g size : Nat) (L : List UInt8) (i : Int) (k : Nat) (w : World) (h : RefRing w g size L) (hk : (k : Int) = max 0 (min i L.length)) (hl : L.length ≤ 100000) :
    Calls Try.prog 101 #[.pointer (some ⟨g, 0, none⟩), .int .i64 i] w fun e w' => ∃ v, e = .returned v ∧ OwnB w' w.heap.size v (L.take k) ∧ Below w.heap.size w w' := by
  obtain ⟨v, lost, h1, h2, h3⟩ := h
  obtain ⟨n, hn⟩ : ∃ n, n = L.length := ⟨_, rfl⟩
  obtain ⟨A, c, rfl, hle, hb⟩ := h2.form hn.symm
  have hc : w.cell? ⟨g, 1, none⟩ = some (.slice A n c) := cell_of h1 1
  have hlt := heap_lt h1
  have htk := hb.take (k := k) (by omega) (by omega)
  have hlen : (L.take k).length ≤ 140737488355328 := by rw [List.length_take]; omega
  have hz : ([] : List UInt8).length + (L.take k).length ≤ 140737488355328 := by simpa using hlen
  have hkc : (k : Int) ≤ c := by omega
  rw [← hn] at hk
  have TK := Lib.hid (htk.alloc (.cells #[] 5))
  have HZ := Lib.hid hz
  clear h1 h2 h3 hb htk hlen hz hn
  by_cases hi : i < 0
  · obtain rfl : k = 0 := by omega
    clear hk
    have hn0 : ¬ (n : Int) < 0 := by omega
    go_enter Try.func101, Try.ntmps101
    go_wp2_with (at_builtin; refine wpList_append_bytes rfl (.tmp 19) (.tmp 25) rfl w.heap.size (.slice (some ⟨w.heap.size, 0, none⟩) 0 0) (.slice A 0 c) [] (L.take 0) rfl (own_made (L := []) rfl (Nat.le_refl _) rfl (by simp)) rfl TK.out HZ.out (by simp) ?_; intro v' w1 hown1 hgrow1)
    go_ret
    exact ⟨_, rfl, by simpa using hown1, ((Below.refl _ _).alloc (Nat.le_refl _) _).grown hgrow1 (by simp) (by simp [Value.ownBlock])⟩
  · by_cases hin : (n : Int) < i
    · obtain rfl : k = n := by omega
      clear hk
      go_enter Try.func101, Try.ntmps101
      go_wp2_with (at_builtin; refine wpList_append_bytes rfl (.tmp 19) (.tmp 25) rfl w.heap.size (.slice (some ⟨w.heap.size, 0, none⟩) 0 0) (.slice A k c) [] (L.take k) rfl (own_made (L := []) rfl (Nat.le_refl _) rfl (by simp)) rfl TK.out HZ.out (by simp) ?_; intro v' w1 hown1 hgrow1)
      go_ret
      exact ⟨_, rfl, by simpa using hown1, ((Below.refl _ _).alloc (Nat.le_refl _) _).grown hgrow1 (by simp) (by simp [Value.ownBlock])⟩
    · obtain rfl : i = k := by omega
      clear hk
      go_enter Try.func101, Try.ntmps101
      go_wp2_with (at_builtin; refine wpList_append_bytes rfl (.tmp 19) (.tmp 25) rfl w.heap.size (.slice (some ⟨w.heap.size, 0, none⟩) 0 0) (.slice A k c) [] (L.take k) rfl (own_made (L := []) rfl (Nat.le_refl _) rfl (by simp)) rfl TK.out HZ.out (by simp) ?_; intro v' w1 hown1 hgrow1)
      go_ret
      exact ⟨_, rfl, by simpa using hown1, ((Below.refl _ _).alloc (Nat.le_refl _) _).grown hgrow1 (by simp) (by simp [Value.ownBlock])⟩

theorem add_block (a : Addr) (k : Nat) : (a.add k).block = a.block := by unfold Addr.add; split <;> rfl
theorem Fresh.cut {B n n' c c' k : Nat} {A A' : Option Addr} (h : Fresh B (.slice A n c)) (hA : (if c = k then A else Option.map (fun x => x.add k) A) = A') : Fresh B (.slice A' n' c') := by
  subst hA
  cases A with
  | none => intro j hj; split at hj <;> cases hj
  | some a =>
    intro j hj
    refine h j ?_
    split at hj
    · simpa [Value.ownBlock] using hj
    · simpa [Value.ownBlock, add_block] using hj

set_option maxHeartbeats 1600000 in
theorem ref_drop (g size : Nat) (L : List UInt8) (i : Int) (k : Nat) (w : World) (h : RefRing w g size L) (hk : (k : Int) = max 0 (min i L.length)) (hl : L.length ≤ 100000) :
    Calls Try.prog 66 #[.pointer (some ⟨g, 0, none⟩), .int .i64 i] w fun e w' => e = .returned (.int .i64 k) ∧ RefRing w' g size (L.drop k) ∧ Ext (OneB g) w w' := by
  have hp := ref_peek g size L i k w h hk hl
  have HR := Lib.hid h
  obtain ⟨v, lost, h1, h2, h3⟩ := h
  obtain ⟨n, hn⟩ : ∃ n, n = L.length := ⟨_, rfl⟩
  obtain ⟨A, c, rfl, hle, hb⟩ := h2.form hn.symm
  obtain ⟨A', hA', hcut⟩ := hb.cut (k := k) (by omega)
  have hfr : Fresh (g + 1) (.slice A' (n - k) (c - k)) := h3.cut hA'
  have hkn : (L.take k).length = k := by rw [List.length_take]; omega
  have hk1 : (k : Int) ≤ n := by omega
  have hk2 : (n : Int) ≤ c := by omega
  have HP := Lib.hid hp
  have H1 := Lib.hid h1
  have CUT := Lib.hid hcut
  have HKN := Lib.hid hkn
  clear hp h1 h2 h3 hb hcut hkn hn hk
  go_enter Try.func66, Try.ntmps66
  go_wp2_with (go_at_call 101; go_must (refine HP.out.mono ?_; rintro e w1 ⟨u, rfl, ho, hb1⟩; have hP1 := Lib.hid ((Ext.of_below (S := NoB) hb1).heap H1.out (fun x => x)); have hc1 : w1.cell? ⟨g, 1, none⟩ = some (.slice A n c) := cell_of hP1.out 1; have hf1 := frozen_of hP1.out 1 none; obtain ⟨A1, c1, rfl, hle1, _⟩ := ho.bs.form HKN.out; have B1 := Lib.hid hb1; clear ho hb1))
  go_ret
  exact ⟨rfl, (HR.out.below B1.out).set (CUT.out.1.below B1.out) hfr, (Ext.of_below B1.out).set1 1 _⟩

set_option maxHeartbeats 1600000 in
theorem ref_put (g size : Nat) (L M : List UInt8) (v2 : Value) (w : World) (h : RefRing w g size L) (hM : Bs w v2 M) (hl : L.length ≤ 100000) (hm : M.length ≤ 100000) (hs : size ≤ 100000) :
    Calls Try.prog 24 #[.pointer (some ⟨g, 0, none⟩), v2] w fun e w' => e = .returned (.int .i64 ((L.length + M.length - size : Nat) : Int)) ∧ RefRing w' g size ((L ++ M).drop (L.length + M.length - size)) ∧ Ext (OneB g) w w' := by
  have HR := Lib.hid h
  have hlt := h.lt
  obtain ⟨v, lost, h1, h2, h3⟩ := h
  obtain ⟨n, hn⟩ : ∃ n, n = L.length := ⟨_, rfl⟩
  obtain ⟨m, hmm⟩ : ∃ m, m = M.length := ⟨_, rfl⟩
  obtain ⟨A, c, rfl, hle, hb⟩ := h2.form hn.symm
  have hc1 : w.cell? ⟨g, 1, none⟩ = some (.slice A n c) := cell_of h1 1
  have HLB := Lib.hid (hb.alloc (.cells #[] 5))
  have HM := Lib.hid hM
  have HZ := Lib.hid (show ([] : List UInt8).length + L.length ≤ 140737488355328 by simp; omega)
  have HZ2 := Lib.hid (show ([] ++ L : List UInt8).length + M.length ≤ 140737488355328 by simp; omega)
  have H1 := Lib.hid h1
  have HLL := Lib.hid (show ([] ++ L ++ M : List UInt8).length = n + m by simp [hn, hmm])
  rw [← hn, ← hmm]
  have hb1 : n + m ≤ 200000 := by omega
  clear h1 h2 h3 hb hM hn hmm hl hm
  by_cases hcase : size < n + m
  · have hq : (size : Int) < ((n + m : Nat) : Int) := by omega
    have hq2 : ((n + m : Nat) : Int) - (size : Int) = ((n + m - size : Nat) : Int) := by omega
    have hq3 : IntKind.i64.wrap (((n + m : Nat) : Int) - (size : Int)) = ((n + m - size : Nat) : Int) := by rw [hq2]; exact IntWalk.i64_in _ (by omega)
    obtain ⟨x, hx⟩ : ∃ x, x = n + m - size := ⟨_, rfl⟩
    rw [← hx] at hq2 hq3 ⊢
    have hx1 : (x : Int) ≤ ((n + m : Nat) : Int) := by omega
    have HX := Lib.hid hx
    clear hcase hx
    go_enter Try.func24, Try.ntmps24
    go_wp2_with (first | (at_builtin; refine wpList_append_bytes rfl (.tmp 7) (.tmp 11) rfl w.heap.size (.slice (some ⟨w.heap.size, 0, none⟩) 0 0) (.slice A n c) [] L rfl (own_made (L := []) rfl (Nat.le_refl _) rfl (by simp)) rfl HLB.out HZ.out (by simp) ?_; intro v1 w1 ho1 hg1; have B1 := Lib.hid (((Below.refl _ _).alloc (Nat.le_refl _) _).grown hg1 (by simp) (by simp [Value.ownBlock]) : Below w.heap.size w w1); have M1 := Lib.hid (HM.out.below B1.out); have O1 := Lib.hid ho1; clear ho1 hg1) | (at_builtin; refine wpList_append_bytes rfl (.tmp 12) (.tmp 13) rfl w.heap.size v1 v2 ([] ++ L) M rfl O1.out rfl M1.out HZ2.out B1.out.size ?_; intro v3 w3 ho3 hg3; have B3 := Lib.hid (B1.out.grown hg3 B1.out.size (fun b hb => (O1.out.lt b hb).1) : Below w.heap.size w w3); obtain ⟨A3, c3, rfl, hle3, hbs3⟩ := ho3.bs.form HLL.out; have FR3 := Lib.hid (ho3.fresh (Nat.le_refl _)); have HP3 := Lib.hid ((Ext.of_below (S := NoB) B3.out).heap H1.out (fun x => x)); have hd0 : w3.cell? ⟨g, 0, none⟩ = some (.int .i64 (size : Int)) := cell_of HP3.out 0; have hd1 := cell_of HP3.out 1; have hd2 : w3.cell? ⟨g, 2, none⟩ = some (.int .i64 lost) := cell_of HP3.out 2; have hf1 := frozen_of HP3.out 1 none; have hf2 := frozen_of HP3.out 2 none; have S3 := Lib.hid hbs3; clear ho3 hg3 hbs3))
    all_goals (have hx := HX.out; subst hx)
    all_goals go_ret
    all_goals have hu := S3.out.drop (k := n + m - size) (by rw [HLL.out]; omega)
    all_goals have hf := fun A' n' c' => (FR3.out.low (B' := g + 1) hlt).cut (k := n + m - size) (A' := A') (n' := n') (c' := c')
    case inl h =>
      subst h
      rw [if_pos rfl, List.nil_append, Nat.sub_self] at hu
      exact ⟨by simp <;> omega, ((HR.out.below B3.out).set hu (hf _ _ _ (if_pos rfl))).set2, ((Ext.of_below B3.out).set1 1 _).set1 2 _⟩
    case inr =>
      have hne : ¬ c3 = n + m - size := by assumption
      rw [if_neg hne, List.nil_append] at hu
      exact ⟨by simp <;> omega, ((HR.out.below B3.out).set hu (hf _ _ _ (if_neg hne))).set2, ((Ext.of_below B3.out).set1 1 _).set1 2 _⟩
  · have hx : n + m - size = 0 := by omega
    have hq : ¬ (size : Int) < ((n + m : Nat) : Int) := by omega
    rw [hx]
    clear hx hcase
    go_enter Try.func24, Try.ntmps24
    go_wp2_with (first | (at_builtin; refine wpList_append_bytes rfl (.tmp 7) (.tmp 11) rfl w.heap.size (.slice (some ⟨w.heap.size, 0, none⟩) 0 0) (.slice A n c) [] L rfl (own_made (L := []) rfl (Nat.le_refl _) rfl (by simp)) rfl HLB.out HZ.out (by simp) ?_; intro v1 w1 ho1 hg1; have B1 := Lib.hid (((Below.refl _ _).alloc (Nat.le_refl _) _).grown hg1 (by simp) (by simp [Value.ownBlock]) : Below w.heap.size w w1); have M1 := Lib.hid (HM.out.below B1.out); have O1 := Lib.hid ho1; clear ho1 hg1) | (at_builtin; refine wpList_append_bytes rfl (.tmp 12) (.tmp 13) rfl w.heap.size v1 v2 ([] ++ L) M rfl O1.out rfl M1.out HZ2.out B1.out.size ?_; intro v3 w3 ho3 hg3; have B3 := Lib.hid (B1.out.grown hg3 B1.out.size (fun b hb => (O1.out.lt b hb).1) : Below w.heap.size w w3); obtain ⟨A3, c3, rfl, hle3, hbs3⟩ := ho3.bs.form HLL.out; have FR3 := Lib.hid (ho3.fresh (Nat.le_refl _)); have HP3 := Lib.hid ((Ext.of_below (S := NoB) B3.out).heap H1.out (fun x => x)); have hd0 : w3.cell? ⟨g, 0, none⟩ = some (.int .i64 (size : Int)) := cell_of HP3.out 0; have hd1 := cell_of HP3.out 1; have hd2 : w3.cell? ⟨g, 2, none⟩ = some (.int .i64 lost) := cell_of HP3.out 2; have hf1 := frozen_of HP3.out 1 none; have hf2 := frozen_of HP3.out 2 none; have S3 := Lib.hid hbs3; clear ho3 hg3 hbs3))
    all_goals go_ret
    exact ⟨by simp, ((HR.out.below B3.out).set (show Bs w3 (.slice A3 (n + m) c3) (List.drop 0 (L ++ M)) from S3.out) (FR3.out.low hlt)).set2, ((Ext.of_below B3.out).set1 1 _).set1 2 _⟩
end Go.Proofs.Ytfgglffjigolhaa
