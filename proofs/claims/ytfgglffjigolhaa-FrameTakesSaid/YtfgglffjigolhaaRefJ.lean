/- The document's frames: Next. -/
import Derived.Test.YtfgglffjigolhaaRefI
namespace Go.Proofs.Ytfgglffjigolhaa
open Go.RowKit

/-- The document's ring, its bytes below block B. -/
def RefAt (B : Nat) (w : World) (g size : Nat) (L : List UInt8) : Prop :=
  ∃ v lost, w.heap[g]? = some (.cells #[.int .i64 (size : Int), v, .int .i64 lost] 47 (0, 0)) ∧ Bs w v L ∧ Fresh (g + 1) v ∧ ∀ k, v.ownBlock = some k → L ≠ [] → k < B
theorem RefAt.ring {B : Nat} {w : World} {g size : Nat} {L : List UInt8} (h : RefAt B w g size L) : RefRing w g size L := by
  obtain ⟨v, lost, h1, h2, h3, _⟩ := h; exact ⟨v, lost, h1, h2, h3⟩
theorem RefRing.at_ {w : World} {g size : Nat} {L : List UInt8} (h : RefRing w g size L) : RefAt w.heap.size w g size L := by
  obtain ⟨v, lost, h1, h2, h3⟩ := h
  exact ⟨v, lost, h1, h2, h3, fun k hk hne => h2.own_lt (List.length_pos_iff.mpr hne) k hk⟩
theorem RefAt.below {B : Nat} {w w' : World} {g size : Nat} {L : List UInt8} (h : RefAt B w g size L) (hE : Below w.heap.size w w') : RefAt B w' g size L := by
  obtain ⟨v, lost, h1, h2, h3, h4⟩ := h
  exact ⟨v, lost, (Ext.of_below (S := NoB) hE).heap h1 (fun x => x), h2.below hE, h3, h4⟩
theorem RefAt.alloc {B : Nat} {w : World} {g size : Nat} {L : List UInt8} (h : RefAt B w g size L) (o : Obj) : RefAt B (w.alloc o) g size L := h.below ((Below.refl _ _).alloc (Nat.le_refl _) o)
theorem RefAt.box {B : Nat} {w : World} {g size r : Nat} {L : List UInt8} (h : RefAt B w g size L) (hg : ¬ g = r) (hB : B ≤ r) (a b : Value) : RefAt B ((w.setCell ⟨r, 0, none⟩ a).setCell ⟨r, 1, none⟩ b) g size L := by
  obtain ⟨v, lost, h1, h2, h3, h4⟩ := h
  have hE := ((Ext.refl (OneB r) w).set1 0 a).set1 1 b
  refine ⟨v, lost, hE.heap h1 (fun e => hg e), ?_, h3, h4⟩
  by_cases hL : L = []
  · subst hL; exact h2.empty
  · exact h2.kept hE (fun k _ hk e => by have h5 := h4 k hk hL; have : k = r := e; omega)
theorem RefAt.ringM {B : Nat} {w : World} {g size r : Nat} {L : List UInt8} (h : RefAt B w g size L) (hg : ¬ g = r) (hB : B ≤ r) (a b : Value) : RefRing ((w.setCell ⟨r, 0, none⟩ a).setCell ⟨r, 1, none⟩ b) g size L := (h.box hg hB a b).ring

set_option maxHeartbeats 1600000 in
theorem ref_drop_at (B g size : Nat) (L : List UInt8) (i : Int) (k : Nat) (w : World) (h : RefAt B w g size L) (hk : (k : Int) = max 0 (min i L.length)) (hl : L.length ≤ 100000) :
    Calls Try.prog 66 #[.pointer (some ⟨g, 0, none⟩), .int .i64 i] w fun e w' => e = .returned (.int .i64 k) ∧ RefAt B w' g size (L.drop k) ∧ Ext (OneB g) w w' := by
  have hp := ref_peek g size L i k w h.ring hk hl
  have HR := Lib.hid h
  obtain ⟨v, lost, h1, h2, h3, h4⟩ := h
  obtain ⟨n, hn⟩ : ∃ n, n = L.length := ⟨_, rfl⟩
  obtain ⟨A, c, rfl, hle, hb⟩ := h2.form hn.symm
  obtain ⟨A', hA', hcut⟩ := hb.cut (k := k) (by omega)
  have hfr : Fresh (g + 1) (.slice A' (n - k) (c - k)) := h3.cut hA'
  have hkn : (L.take k).length = k := by rw [List.length_take]; omega
  have hk1 : (k : Int) ≤ n := by omega
  have hk2 : (n : Int) ≤ c := by omega
  have HP := Lib.hid hp
  have H1 := Lib.hid h1
  have H4 := Lib.hid h4
  have CUT := Lib.hid hcut
  have HKN := Lib.hid hkn
  clear hp h1 h2 h3 h4 hb hcut hkn hn hk
  go_enter Try.func66, Try.ntmps66
  go_wp2_with (go_at_call 101; go_must (refine HP.out.mono ?_; rintro e w1 ⟨u, rfl, ho, hb1⟩; have hP1 := Lib.hid ((Ext.of_below (S := NoB) hb1).heap H1.out (fun x => x)); have hc1 : w1.cell? ⟨g, 1, none⟩ = some (.slice A n c) := cell_of hP1.out 1; have hf1 := frozen_of hP1.out 1 none; obtain ⟨A1, c1, rfl, hle1, _⟩ := ho.bs.form HKN.out; have B1 := Lib.hid hb1; clear ho hb1))
  go_ret
  refine ⟨rfl, ⟨_, _, heap_setCell_same hP1.out 1 _, (CUT.out.1.below B1.out).kept (S := OneB g) ((Ext.refl _ _).set1 1 _) (fun j _ hj e => by have h5 := hfr j hj; have : j = g := e; omega), hfr, fun j hj hne => H4.out j (CUT.out.2 j hj) (fun e => hne (by rw [e]; simp))⟩, (Ext.of_below B1.out).set1 1 _⟩

set_option maxRecDepth 100000 in
set_option maxHeartbeats 1600000 in
theorem ref_next (g size : Nat) (L : List UInt8) (w : World) (h : RefRing w g size L) (hl : L.length ≤ size) (hs : size ≤ 4096) (f : Nat) (hf : L.length < f) :
    Calls Try.prog 26 #[.pointer (some ⟨g, 0, none⟩)] w fun e w' => Nexted w.heap.size w' e (nextM size f L).1 (nextM size f L).2.1 (nextM size f L).2.2.1 (nextM size f L).2.2.2.1 ∧ RefRing w' g size (nextM size f L).2.2.2.2 ∧ Ext (OneB g) w w' := by
  have hg := h.lt
  have H := Lib.hid h.at_
  clear h
  go_enter Try.func26, Try.ntmps26
  go_wp2_with fail
  go_loopw [5] (fun i wr => ∃ (d f' : Nat) (L' : List UInt8), i = .int .i64 d ∧ L'.length + d = L.length ∧ L'.length < f' ∧ nextM size f L = ((nextM size f' L').1 + d, (nextM size f' L').2) ∧ RefAt w.heap.size wr g size L' ∧ Ext (OneB g) w wr ∧ wr.heap[w.heap.size]? = some (.cells #[.int .u8 0, .slice none 0 0] 39 (0, 0))) (fun i _ => L.length + 1 - (intOf i).toNat)
  case atStart => exact ⟨0, f, L, rfl, by omega, hf, by simp, H.out.alloc _, (Ext.refl _ _).alloc _, heap_alloc_same _ _⟩
  case round =>
    obtain ⟨d, f', L', rfl, hd, hf', hn, hR, hE, hh⟩ := hrel
    obtain ⟨f', rfl⟩ : ∃ x, f' = x + 1 := ⟨f' - 1, by omega⟩
    have hsz := heap_lt hh
    have hag := ref_agree size L' (by omega)
    have hb := ref_begin g size L' _ hR.ring (by omega) hs
    have h0 : L' = [] → (beginM size L').1 = 0 := by rintro rfl; rfl
    rw [nextM_succ] at hn
    have hb2 : Calls Try.prog 65 #[.pointer (some ⟨g, 0, none⟩)] wr fun e w' => ∃ r, r = refBeginM size L' ∧ RBegun wr.heap.size w' e r ∧ Below wr.heap.size wr w' := hb.mono fun e w' h => ⟨_, rfl, h⟩
    obtain ⟨⟨s', n', k', b'⟩, hrm⟩ : ∃ r, r = refBeginM size L' := ⟨_, rfl⟩
    obtain ⟨⟨s, n, k, b⟩, hbm⟩ : ∃ r, r = beginM size L' := ⟨_, rfl⟩
    rw [← hrm] at hb hag
    rw [← hbm] at hn h0 hag
    obtain ⟨hag1, hag2⟩ := hag
    simp only at hn h0 hag1 hag2
    subst hag1
    simp only [RBegun] at hb
    have HR := Lib.hid hR
    have HE := Lib.hid hE
    have HH := Lib.hid hh
    clear hR hE hh hbm hrm hb2
    by_cases hs0 : s' = 0
    · subst hs0
      rw [if_pos rfl] at hn
      have HB := Lib.hid hb
      have HN := Lib.hid hn
      clear hn h0 hb hag2
      go_wp2_with (first | (go_at_call 65; go_must (refine HB.out.mono ?_; rintro e w1 ⟨⟨v, rfl, hv, fr⟩, hb1⟩; obtain ⟨A, cp, rfl, hnc, hv⟩ := hv.form rfl; have H1 := Lib.hid ((Ext.of_below (S := NoB) hb1).heap HH.out (fun x => x)); have hs1 := heap_lt H1.out; have hc1 := cell_of H1.out 0; have hc2 := cell_of H1.out 1; have hf1 := frozen_of H1.out 0 none; have hf2 := frozen_of H1.out 1 none; have B1 := Lib.hid hb1; have V := Lib.hid hv; have FR := Lib.hid fr; clear hb1 hv fr)))
      have hq := heap_keep (o := .cells #[.int .u8 (k' : Int), .slice A b'.length cp] 39) (fin_cells H1.out (.int .u8 0) (.slice none 0 0))
      have hq0 := cell_of hq 0
      have hq1 := cell_of hq 1
      refine bodyPost_ret (v := .tuple #[.agg #[.int .u8 0, .slice none 0 0], .bool false, .int .i64 (d : Int)]) (by simp [results, Try.results26, go_sem, hq0, hq1]) rfl ?_
      rw [HN.out]
      refine ⟨⟨_, by simp, Bs.nil _, Fresh.nil _ _ _⟩, (((HR.out.below B1.out).box (by omega) (Nat.le_refl _) _ _).alloc _).ring, (((HE.out.same (Ext.of_below B1.out)).setCell (.inl (Nat.le_refl _)) _).setCell (.inl (Nat.le_refl _)) _).alloc _⟩
    · rw [if_neg hs0] at hn
      by_cases hs1 : s' = 1
      · subst hs1
        have hag3 := hag2 rfl
        injection hag3 with _ hag3
        injection hag3 with ha1 hag3
        injection hag3 with ha2 ha3
        subst ha1 ha2 ha3
        rw [if_pos rfl] at hn
        obtain ⟨K, hK⟩ : ∃ K : Nat, (K : Int) = max 0 (min (n' : Int) L'.length) := ⟨min n' L'.length, by omega⟩
        have hdk : L'.drop K = L'.drop n' := by
          rcases Nat.lt_or_ge n' L'.length with h1 | h1
          · rw [show K = n' by omega]
          · rw [List.drop_of_length_le h1, List.drop_of_length_le (by omega)]
        rw [← hdk] at hn
        have HN := Lib.hid hn
        have HKK := Lib.hid hK
        have HB := Lib.hid hb
        clear hn h0 hK hdk hb
        go_wp2_with (first | (go_at_call 65; go_must (refine HB.out.mono ?_; rintro e w1 ⟨⟨v, rfl, hv, fr⟩, hb1⟩; obtain ⟨A, cp, rfl, hnc, hv⟩ := hv.form rfl; have H1 := Lib.hid ((Ext.of_below (S := NoB) hb1).heap HH.out (fun x => x)); have hs1 := heap_lt H1.out; have hc1 := cell_of H1.out 0; have hc2 := cell_of H1.out 1; have hf1 := frozen_of H1.out 0 none; have hf2 := frozen_of H1.out 1 none; have B1 := Lib.hid hb1; have V := Lib.hid hv; have FR := Lib.hid fr; clear hb1 hv fr)) | (go_at_call 66; go_must (refine (ref_drop_at w.heap.size g size L' n' K _ ((HR.out.below B1.out).alloc _) HKK.out (by omega)).mono ?_; rintro e w2 ⟨rfl, hr2, he2⟩; clear hc1 hc2 hf1 hf2; have H2 := Lib.hid (he2.heap (heap_keep H1.out) (by show ¬ w.heap.size = g; omega)); have HC2 := Lib.hid (he2.heap (heap_alloc_same w1 _) (by show ¬ w1.heap.size = g; have := B1.out.size; omega)); have hc1 := cell_of H2.out 0; have hc2 := cell_of H2.out 1; have hf1 := frozen_of H2.out 0 none; have hf2 := frozen_of H2.out 1 none; have hd1 := cell_of HC2.out 0; have hd2 := cell_of HC2.out 1; have R2 := Lib.hid hr2; have E2 := Lib.hid he2; clear hr2 he2)))
        have hq := fin_cells H2.out (.int .u8 (k' : Int)) (.slice A b'.length cp)
        have hq0 := cell_of hq 0
        have hq1 := cell_of hq 1
        refine bodyPost_ret (v := .tuple #[.agg #[.int .u8 (k' : Int), .slice A b'.length cp], .bool true, .int .i64 (d : Int)]) (by simp [results, Try.results26, go_sem, hq0, hq1]) rfl ?_
        rw [HN.out]
        have hfr : Fresh (w.heap.size + 1) (.slice A b'.length cp) := FR.out.low hsz
        have hv2 : Bs w2 (.slice A b'.length cp) b' := (V.out.alloc _).kept E2.out (fun x _ hx e => by have h1 := hfr x hx; have h2 : x = g := e; omega)
        exact ⟨⟨_, by simp, hv2.set2 hfr _ _, hfr.low (by omega)⟩, R2.out.ringM (by omega) (Nat.le_refl _) _ _, (((HE.out.same (Ext.of_below B1.out)).alloc _).same (E2.out)).setCell (.inl (Nat.le_refl _)) _ |>.setCell (.inl (Nat.le_refl _)) _⟩
      · rw [if_neg hs1] at hn
        have hne : L' ≠ [] := fun e => hs0 (h0 e)
        have hpos : 0 < L'.length := List.length_pos_iff.mpr hne
        have g0 : ((s' : Int) == 0) = false := by simp; omega
        have g1 : ((s' : Int) == 1) = false := by simp; omega
        have HN := Lib.hid hn
        have HB := Lib.hid hb
        clear hn h0 hne hs0 hs1 hb hag2
        go_wp2_with (first | (go_at_call 65; go_must (refine HB.out.mono ?_; rintro e w1 ⟨⟨v, rfl, hv, fr⟩, hb1⟩; obtain ⟨A, cp, rfl, hnc, hv⟩ := hv.form rfl; have H1 := Lib.hid ((Ext.of_below (S := NoB) hb1).heap HH.out (fun x => x)); have hs1 := heap_lt H1.out; have hc1 := cell_of H1.out 0; have hc2 := cell_of H1.out 1; have hf1 := frozen_of H1.out 0 none; have hf2 := frozen_of H1.out 1 none; have B1 := Lib.hid hb1; have V := Lib.hid hv; have FR := Lib.hid fr; clear hb1 hv fr)) | (go_at_call 66; go_must (refine (ref_drop_at w.heap.size g size L' 1 1 _ ((HR.out.below B1.out).alloc _) (by omega) (by omega)).mono ?_; rintro e w2 ⟨rfl, hr2, he2⟩; have R2 := Lib.hid hr2; have E2 := Lib.hid he2; clear hr2 he2)))
        go_roundw
        case rel => exact ⟨d + 1, f', L'.drop 1, by go_num, by rw [List.length_drop]; omega, by rw [List.length_drop]; omega, by rw [HN.out]; simp only [Nat.add_assoc, Nat.add_comm 1 d], R2.out, ((HE.out.same (Ext.of_below B1.out)).alloc _).same E2.out, E2.out.heap (heap_keep H1.out) (by show ¬ w.heap.size = g; omega)⟩
        case measure => simp [intOf]; omega
end Go.Proofs.Ytfgglffjigolhaa
