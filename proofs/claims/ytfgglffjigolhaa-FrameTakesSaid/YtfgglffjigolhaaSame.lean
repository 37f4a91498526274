/- The document's frames: Same. -/
import Derived.Test.YtfgglffjigolhaaRefC
import Derived.Test.YtfgglffjigolhaaStr
namespace Go.Proofs.Ytfgglffjigolhaa
open Go.RowKit

theorem Bs.own_lt {w : World} {v : Value} {L : List UInt8} (h : Bs w v L) (hL : 0 < L.length) : ∀ k, v.ownBlock = some k → k < w.heap.size := by
  obtain ⟨A, c, rfl, _, hc⟩ := h
  obtain ⟨g, off, rfl, h1⟩ := hc 0 hL
  intro k hk
  have : g = k := by simpa [Value.ownBlock] using hk
  have := World.block_lt_of_cell? w _ h1
  simp only at this
  omega
theorem Bs.own_nil {w : World} {v : Value} {L : List UInt8} (h : Bs w v L) {g : Nat} (hg : w.heap.size ≤ g) (e : v.ownBlock = some g) : L = [] := by
  rcases L with _ | ⟨x, L⟩
  · rfl
  · have := h.own_lt (by simp) g e
    omega
/-- A slice of frames. -/
def Fss (w : World) (v : Value) (L : List (Nat × List UInt8)) : Prop :=
  ∃ A c, v = .slice A L.length c ∧ L.length ≤ c ∧ ∀ i (h : i < L.length), ∃ g off u, A = some ⟨g, off, none⟩ ∧ w.cell? ⟨g, off + i * 2, none⟩ = some (.int .u8 (L[i].1 : Int)) ∧ w.cell? ⟨g, off + i * 2 + 1, none⟩ = some u ∧ Bs w u L[i].2
theorem Fss.at_ {w : World} {A : Option Addr} {n c j : Nat} {L : List (Nat × List UInt8)} (h : Fss w (.slice A n c) L) (hj : j < L.length) :
    ∃ g off u, A = some ⟨g, off, none⟩ ∧ w.cell? ⟨g, off + j * 2, none⟩ = some (.int .u8 (L[j].1 : Int)) ∧ w.cell? ⟨g, off + j * 2 + 1, none⟩ = some u ∧ Bs w u L[j].2 := by
  obtain ⟨A', c', he, _, hc⟩ := h
  injection he with h1 h2 h3
  subst h1
  exact hc j hj
theorem Fss.below {w w' : World} {v : Value} {L : List (Nat × List UInt8)} (h : Fss w v L) (hE : Below w.heap.size w w') : Fss w' v L := by
  obtain ⟨A, c, rfl, hle, hc⟩ := h
  refine ⟨A, c, rfl, hle, fun i hi => ?_⟩
  obtain ⟨g, off, u, rfl, h0, h1, h2⟩ := hc i hi
  exact ⟨g, off, u, rfl, below_keep hE h0, below_keep hE h1, h2.below hE⟩
theorem Fss.alloc {w : World} {v : Value} {L : List (Nat × List UInt8)} (h : Fss w v L) (o : Obj) : Fss (w.alloc o) v L := h.below ((Below.refl _ _).alloc (Nat.le_refl _) o)
theorem Fss.one {w : World} {k : Nat} {u : Value} {b : List UInt8} (hu : Bs w u b) (t : TypeId) : Fss (w.alloc (.cells #[.int .u8 (k : Int), u] t)) (.slice (some ⟨w.heap.size, 0, none⟩) 1 1) [(k, b)] := by
  refine ⟨_, _, rfl, Nat.le_refl _, fun i hi => ?_⟩
  obtain rfl : i = 0 := by simp at hi; omega
  exact ⟨_, 0, u, rfl, (cell_of (heap_alloc_new w _) 0).trans rfl, (cell_of (heap_alloc_new w _) 1).trans rfl, hu.alloc _⟩

theorem str_eq {a b : List UInt8} : ((⟨a.toArray⟩ : ByteArray) = ⟨b.toArray⟩) ↔ a = b := by
  constructor
  · intro h; injection h with h; injection h
  · rintro rfl; rfl
theorem take_eq_iff {α : Type} [BEq α] {L M : List α} (h : L.length = M.length) : L = M ↔ ∀ i (h1 : i < L.length) (h2 : i < M.length), L[i] = M[i] := by
  constructor
  · rintro rfl; intros; rfl
  · exact fun hh => List.ext_getElem h hh

set_option maxRecDepth 100000 in
set_option maxHeartbeats 1600000 in
theorem ref_same (v1 v2 : Value) (L M : List (Nat × List UInt8)) (w : World) (h1 : Fss w v1 L) (h2 : Fss w v2 M) (hl : L.length ≤ 100000) (hm : M.length ≤ 100000) :
    Calls Try.prog 27 #[v1, v2] w fun e w' => e = .returned (.bool (decide (L = M))) ∧ ∃ n, w' = w.drewN n := by
  obtain ⟨A, c, rfl, hle, hc⟩ := h1
  obtain ⟨A', c', rfl, hle', hc'⟩ := h2
  have HC := Lib.hid hc
  have HC' := Lib.hid hc'
  clear hc hc'
  by_cases hlen : L.length = M.length
  · obtain ⟨n, hn⟩ : ∃ n, n = L.length := ⟨_, rfl⟩
    have hn' : M.length = n := by omega
    rw [← hn, hn']
    have HN := Lib.hid (And.intro hn hn')
    have hle2 : n ≤ c := by omega
    have hle3 : n ≤ c' := by omega
    have hn1 : n ≤ 100000 := by omega
    have hnn : ((n : Int) != (n : Int)) = false := by simp
    clear hlen hn hn' hle hle' hl hm
    go_enter Try.func27, Try.ntmps27
    go_wp2_with fail
    go_loopw [5] (fun i wr => ∃ j : Nat, j ≤ n ∧ i = .int .i64 j ∧ (∃ d, wr = w.drewN d) ∧ ∀ k (h1 : k < L.length) (h2 : k < M.length), k < j → L[k] = M[k]) (fun i _ => n - (intOf i).toNat)
    case atStart => exact ⟨0, Nat.zero_le _, rfl, ⟨0, rfl⟩, fun k _ _ h => absurd h (Nat.not_lt_zero k)⟩
    case round =>
      obtain ⟨j, hj, rfl, ⟨d, rfl⟩, hall⟩ := hrel
      have HALL := Lib.hid hall
      clear hall
      by_cases hlt : j < n
      · have hjl : j < L.length := by rw [← HN.out.1]; exact hlt
        have hjm : j < M.length := by rw [HN.out.2]; exact hlt
        obtain ⟨g, off, u, rfl, c0, c1, hu⟩ := HC.out j hjl
        obtain ⟨g', off', u', rfl, c0', c1', hu'⟩ := HC'.out j hjm
        obtain ⟨⟨k, b⟩, hx⟩ : ∃ x, x = L[j] := ⟨_, rfl⟩
        obtain ⟨⟨k', b'⟩, hx'⟩ : ∃ x, x = M[j] := ⟨_, rfl⟩
        rw [← hx] at c0 hu
        rw [← hx'] at c0' hu'
        simp only at c0 hu c0' hu'
        have kc := fun W (h : Bs W u b) => conv_bs h
        have kc' := fun W (h : Bs W u' b') => conv_bs h
        have kcn := fun n => kc (w.drewN n) hu
        have kcn' := fun n => kc' (w.drewN n) hu'
        have HX := Lib.hid (And.intro hx hx')
        have i0 : (0 : Int) ≤ (j : Int) := by omega
        have i1 : (j : Int) < (n : Int) := by omega
        clear hx hx' kc kc' hu hu'
        by_cases hk : k = k'
        · subst hk
          have hkk : ((k : Int) != (k : Int)) = false := by simp
          by_cases hb : b = b'
          · have HB := Lib.hid hb
            subst hb
            go_wp2_with fail
            go_quiet (fail)
            go_wp2_with fail
            go_roundw
            case rel =>
              refine ⟨j + 1, by omega, by go_num, ⟨d + nq, rfl⟩, fun i h1 h2 hi => ?_⟩
              by_cases hij : i = j
              · subst hij; rw [← HX.out.1, ← HX.out.2]
              · exact HALL.out i h1 h2 (by omega)
            case measure => simp [intOf]; omega
          · have hbb : (b == b') = false := by simp [hb]
            have HB := Lib.hid hb
            clear hb
            go_wp2_with fail
            go_quiet (fail)
            go_wp2_with fail
            go_ret
            refine ⟨ret_bool ?_, d + nq, World.drewN_drewN _ _ _⟩
            symm; rw [decide_eq_false_iff_not]
            intro he
            apply HB.out
            have := HX.out
            subst he
            have := this.1.trans this.2.symm
            injection this
        · have hkk : ((k : Int) != (k' : Int)) = true := by simp; omega
          go_wp2_with fail
          go_quiet (fail)
          go_wp2_with fail
          go_ret
          refine ⟨ret_bool ?_, d + nq, World.drewN_drewN _ _ _⟩
          symm; rw [decide_eq_false_iff_not]
          intro he
          apply hk
          have := HX.out
          subst he
          have := this.1.trans this.2.symm
          injection this
      · obtain rfl : j = n := by omega
        go_wp2_with fail
        go_ret
        refine ⟨ret_bool ?_, d, rfl⟩
        symm; rw [decide_eq_true_iff]
        have hN := HN.out
        exact List.ext_getElem (by omega) (fun i h1 h2 => HALL.out i h1 h2 (by omega))
  · have hnn : ((L.length : Int) != (M.length : Int)) = true := by simp; omega
    have HL := Lib.hid hlen
    clear hlen
    go_enter Try.func27, Try.ntmps27
    go_wp2_with fail
    go_ret
    refine ⟨ret_bool ?_, 0, rfl⟩
    symm; rw [decide_eq_false_iff_not]
    rintro rfl
    exact HL.out rfl
end Go.Proofs.Ytfgglffjigolhaa
