/- Rows of laws: a slice of slices of bytes; its reach. -/
import Derived.Test.YtfgglffjigolhaaRow
import Derived.Test.YtfgglffjigolhaaSlicesB
import Derived.SizedLaws
namespace Go.Proofs.Ytfgglffjigolhaa
open Go.ChangeShapes Go.WideShapes Go.ChangeAt Go.RowKit Go.Deep

section
variable {H : Type} {enc : TypeId × Value → H}
theorem open_bytes_sized {w : World} {base : Nat} {held : Bool} {n : Nat} {cs : List Value} {y : DataW H × List MemPlace} (h : DataW.trod enc Try.prog w base (fun _ => true) held n 30 cs = some y) :
    ∃ v L, cs = [v] ∧ Bs w v L ∧ ((∀ k ∈ y.1.weights Try.prog 30, k ≤ reachBytes) → L.length ≤ 140737488351232) := by
  obtain ⟨v, L, rfl, hB, _⟩ := open_bytes h
  refine ⟨v, L, rfl, hB, fun hk => ?_⟩
  rcases Go.Deep.open_slice Try.underlying30 h with ⟨hv, _⟩ | ⟨a, len, cap, m, k, D, Pl, hv, _, hlc, hcm, hm, hy, hel⟩
  · obtain rfl : v = _ := List.cons.inj hv |>.1
    obtain ⟨A', c', hf, _⟩ := hB.form rfl
    have : L.length = 0 := by injection hf with _ e _; exact e.symm
    omega
  · obtain rfl : v = _ := List.cons.inj hv |>.1
    obtain ⟨A', c', hf, _⟩ := hB.form rfl
    have hl : L.length = len := by injection hf with _ e _; exact e.symm
    have h8 : Try.prog.bytesOf 5 = 1 := by kernel_rfl
    subst hy
    have := hk (((List.range len).map D).length + ((List.range (m - len)).map fun j => D (len + j)).length) (by simp [DataW.weights, Try.underlying30, h8])
    simp only [List.length_map, List.length_range, reachBytes] at this
    omega
theorem weightsAll_mem {P : Program} {e : TypeId} : ∀ {ds : List (DataW H)} {d : DataW H}, d ∈ ds → ∀ n ∈ d.weights P e, n ∈ DataW.weightsAll P e ds
  | _ :: _, _, h, n, hn => by
    simp only [DataW.weightsAll, List.mem_append]
    rcases List.mem_cons.1 h with rfl | h
    · exact .inl hn
    · exact .inr (weightsAll_mem h n hn)
theorem open_bytess {w : World} {base : Nat} {held : Bool} {n : Nat} {cs : List Value} {y : DataW H × List MemPlace} (h : DataW.trod enc Try.prog w base (fun _ => true) held n 41 cs = some y) :
    ∃ v Ls, cs = [v] ∧ Bss w v Ls ∧ Ls.length ≤ maxLen ∧ ((∀ k ∈ y.1.weights Try.prog 41, k ≤ reachBytes) → ∀ b ∈ Ls, b.length ≤ 140737488351232) := by
  rcases Go.Deep.open_slice Try.underlying41 h with ⟨rfl, _⟩ | ⟨a, len, cap, m, n, D, Pl, rfl, _, hlc, hcm, hm, hy, hel⟩
  · exact ⟨_, [], rfl, ⟨none, 0, rfl, Nat.le_refl _, fun i hi => absurd hi (Nat.not_lt_zero i)⟩, Nat.zero_le _, fun _ x hx => by cases hx⟩
  · simp only [if_true] at hm
    subst hm
    have hC : Try.prog.cellsOf 30 = 1 := by kernel_rfl
    have hx : ∀ i, i < len → ∃ x : List UInt8, ∃ u, w.cell? ⟨a.block, a.off + i, none⟩ = some u ∧ Bs w u x ∧ ((∀ k ∈ (D i).weights Try.prog 30, k ≤ reachBytes) → x.length ≤ 140737488351232) ∧ (i = 0 → a.spot = none) := by
      intro i hi
      obtain ⟨cs', h1, h2⟩ := hel i (by omega)
      rw [hC] at h1
      obtain ⟨hsub, hlen, hat⟩ := World.cells?_some h1
      obtain ⟨v, rfl⟩ : ∃ v, cs' = [v] := by
        match cs', hlen with
        | [v], _ => exact ⟨v, rfl⟩
      obtain ⟨v', x, hv, hB, hsz⟩ := open_bytes_sized h2
      obtain rfl : v = v' := List.cons.inj hv |>.1
      have hc := hat 0 (by simp)
      rw [Nat.mul_one, show (a.add i).add 0 = a.add i from rfl] at hc
      simp only [List.getElem?_cons_zero] at hc
      have hs := cell_spot hc
      by_cases h0 : i = 0
      · subst h0
        have : a = ⟨a.block, a.off, none⟩ := hs
        exact ⟨x, v, by rw [Nat.add_zero, ← this]; exact hc, hB, hsz, fun _ => by rw [this]⟩
      · refine ⟨x, v, ?_, hB, hsz, fun h => absurd h h0⟩
        unfold Addr.add at hc
        rw [if_neg h0] at hc
        exact hc
    refine ⟨_, List.ofFn (fun i : Fin len => Classical.choose (hx i.val i.isLt)), rfl, ⟨some a, m, by simp, by simpa using hlc, fun i hi => ?_⟩, by rw [List.length_ofFn]; exact Nat.le_trans hlc hcm, fun hk b hb => ?_⟩
    · have hi' : i < len := by simpa using hi
      obtain ⟨u, h1, h2, _, _⟩ := Classical.choose_spec (hx i hi')
      obtain ⟨_, _, _, _, h0⟩ := Classical.choose_spec (hx 0 (by omega))
      refine ⟨a.block, a.off, u, congrArg some (addr_spot (h0 rfl)), h1, ?_⟩
      simpa using h2
    · rw [List.mem_ofFn] at hb
      obtain ⟨i, rfl⟩ := hb
      obtain ⟨_, _, _, h3, _⟩ := Classical.choose_spec (hx i.val i.isLt)
      refine h3 fun k hk' => hk k ?_
      subst hy
      simp only [DataW.weights, Try.underlying41, List.mem_cons, List.mem_append]
      exact .inr (.inl (weightsAll_mem (List.mem_map.2 ⟨i.val, List.mem_range.2 i.isLt, rfl⟩) k hk'))
end
end Go.Proofs.Ytfgglffjigolhaa
