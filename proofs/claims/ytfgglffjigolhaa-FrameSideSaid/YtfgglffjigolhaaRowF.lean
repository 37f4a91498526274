/- Rows of laws: slices of frames. -/
import Derived.Test.YtfgglffjigolhaaRow
import Derived.Test.YtfgglffjigolhaaLawFE
namespace Go.Proofs.Ytfgglffjigolhaa
open Go.ChangeShapes Go.WideShapes Go.ChangeAt Go.RowKit Go.Deep

theorem frameSide_all (v : Value) (L : List (Nat × List UInt8)) (bt : UInt8) (w : World) (hF : Fss w v L) (hk : ∀ x ∈ L, x.1 < 256) :
    Calls Try.prog 7 #[v, bv bt] w fun e w' => e = .returned (.bool true) ∧ Below w.heap.size w w' := by
  by_cases h : 8 < L.length ∨ bt = 36 ∨ bt = 181 ∨ bt = 160
  · exact frameSide_known v L bt w hF h
  · exact frameSide_any v L bt w hF hk (by have := fun h' => h (.inl h'); omega) (fun e => h (.inr (.inl e))) (fun e => h (.inr (.inr (.inl e)))) (fun e => h (.inr (.inr (.inr e))))

section
variable {H : Type} {enc : TypeId × Value → H}
theorem struct_two {P : Program} {w : World} {base : Nat} {sp : Nat → Bool} {held : Bool} {n : Nat} {t : TypeId} {f0 f1 : Field} {cs : List Value} {y : DataW H × List MemPlace} (hs : P.underlying t = some (.struct #[f0, f1]))
    (hone : oneCellFields P #[f0, f1] = true) (hC : P.cellsOf t = 2) (h : DataW.trod enc P w base sp held n t cs = some y) :
    ∃ (v0 v1 : Value) (y0 y1 : DataW H × List MemPlace) (m : Nat), cs = [v0, v1] ∧ DataW.trod enc P w base sp held m f0.type [v0] = some y0 ∧ DataW.trod enc P w base sp held m f1.type [v1] = some y1 := by
  obtain ⟨y0, y1, m, hx, hlen, h0, h1⟩ := trod_struct2 hs h
  rw [hC] at hlen
  match cs, hlen with
  | [c0, c1], _ =>
    obtain ⟨o0, k0⟩ := hone_of hone 0 f0 rfl
    obtain ⟨o1, k1⟩ := hone_of hone 1 f1 rfl
    exact ⟨c0, c1, y0, y1, m, rfl, by simpa [o0, k0] using h0, by simpa [o1, k1] using h1⟩
theorem open_frames {w : World} {base : Nat} {held : Bool} {n : Nat} {cs : List Value} {y : DataW H × List MemPlace} (h : DataW.trod enc Try.prog w base (fun _ => true) held n 53 cs = some y) :
    ∃ v L, cs = [v] ∧ Fss w v L ∧ ∀ x ∈ L, x.1 < 256 := by
  rcases Go.Deep.open_slice Try.underlying53 h with ⟨rfl, _⟩ | ⟨a, len, cap, m, n, D, Pl, rfl, _, hlc, hcm, hm, _, hel⟩
  · exact ⟨_, [], rfl, ⟨none, 0, rfl, Nat.le_refl _, fun i hi => absurd hi (Nat.not_lt_zero i)⟩, fun x hx => by cases hx⟩
  · simp only [if_true] at hm
    subst hm
    have hC : Try.prog.cellsOf 39 = 2 := by kernel_rfl
    have hx : ∀ i, i < len → ∃ x : Nat × List UInt8, ∃ u, w.cell? ⟨a.block, a.off + i * 2, none⟩ = some (.int .u8 (x.1 : Int)) ∧ w.cell? ⟨a.block, a.off + i * 2 + 1, none⟩ = some u ∧ Bs w u x.2 ∧ x.1 < 256 ∧ (i = 0 → a.spot = none) := by
      intro i hi
      obtain ⟨cs', h1, h2⟩ := hel i (by omega)
      rw [hC] at h1
      obtain ⟨hsub, hlen, hat⟩ := World.cells?_some h1
      obtain ⟨v0, v1, y0, y1, m', rfl, r0, r1⟩ := struct_two Try.underlying39 (by kernel_rfl) hC h2
      obtain ⟨k, rfl⟩ := open_u8 r0
      obtain ⟨v, L, hv, hL, _⟩ := open_bytes r1
      obtain rfl : v1 = v := by simpa using hv
      have c0 := hat 0 (by decide)
      have c1 := hat 1 (by decide)
      simp only [List.getElem?_cons_zero, List.getElem?_cons_succ] at c0 c1
      rw [show (a.add (i * 2)).add 0 = a.add (i * 2) from rfl] at c0
      have hs := cell_spot c0
      have e1 : (a.add (i * 2)).block = a.block := by unfold Addr.add; split <;> rfl
      have e2 : (a.add (i * 2)).off = a.off + i * 2 := by
        unfold Addr.add
        by_cases h0 : i * 2 = 0
        · rw [if_pos h0, h0]; rfl
        · rw [if_neg h0]
      rw [e1, e2] at hs
      rw [hs] at c0 c1
      rw [Addr.add_lit] at c1
      refine ⟨(k.toNat, L), v1, c0, c1, hL, UInt8.toNat_lt k, fun h0 => ?_⟩
      subst h0
      have : a = ⟨a.block, a.off + 0 * 2, none⟩ := hs
      rw [this]
    refine ⟨_, List.ofFn (fun i : Fin len => Classical.choose (hx i.val i.isLt)), rfl, ⟨some a, m, by simp, by simpa using hlc, fun i hi => ?_⟩, fun x hxm => ?_⟩
    · have hi' : i < len := by simpa using hi
      obtain ⟨u, h1, h2, h3, _, _⟩ := Classical.choose_spec (hx i hi')
      obtain ⟨_, _, _, _, _, h0⟩ := Classical.choose_spec (hx 0 (by omega))
      refine ⟨a.block, a.off, u, congrArg some (addr_spot (h0 rfl)), ?_, h2, ?_⟩
      · rw [h1]; simp
      · simpa using h3
    · rw [List.mem_ofFn] at hxm
      obtain ⟨i, rfl⟩ := hxm
      obtain ⟨_, _, _, _, h5, _⟩ := Classical.choose_spec (hx i.val i.isLt)
      exact h5
end
end Go.Proofs.Ytfgglffjigolhaa
