/- FrameTakes: whatever is put into the ring, and whatever is taken from it and when, what comes out is what the document's ring gives. Proved for every input. No condition. -/
import Derived.Test.YtfgglffjigolhaaRow
import Derived.Test.YtfgglffjigolhaaLawFF
import Derived.Test.YtfgglffjigolhaaRowB
import Derived.SizedLaws
namespace Go.Proofs.Ytfgglffjigolhaa
open Go.ChangeShapes Go.WideShapes Go.ChangeAt Go.RowKit

set_option maxRecDepth 100000 in
theorem frameTakes_lifted (os : Os) (started : os.Started) (H : Type) (enc : TypeId × Value → H) :
    ReturnsInHanded {} Try.checked os 4 .any (Rows.frameTakesSpec.pre6 enc Try.prog Try.f4 Rows.frameTakesRow.domain false) (Rows.frameTakesSpec.post enc Try.prog Try.f4 false true false false) := by
  refine returnsInHanded_of_change_sized (C := Try.checked) Try.own started (by kernel_rfl) Try.func4
    (ChangeSpec.witness6 (enc := enc) (C := Try.checked) false ⟨#[], #[.int .i64 0, .slice none 0 0], []⟩ 8 (by kernel_rfl) (by kernel_rfl) (by kernel_rfl) (by kernel_rfl)) ?_
  intro W base args ds gs before hval0 hW hcnd hsz0 _
  have hval : ∀ (j : Nat) t v, Try.f4.params[j]? = some t → args[j]? = some v → Value.okWide Try.prog W .any base t v := hval0
  have hsz : (DataW.weightsEach Try.prog (Try.f4.params.toList ++ Rows.frameTakesSpec.plain.varTypes Try.prog) (ds ++ gs)).all (· ≤ reachBytes) = true := hsz0
  have hW' := hW
  obtain ⟨p, q, hA0, hV, rfl, hfz, hnd⟩ := hW
  have hA : DataW.TrodAll enc Try.prog W 0 (fun _ => true) true Try.f4.params.toList args.toList ds p := hA0
  rw [Try.params4] at hA hval hsz
  obtain ⟨v0, v1, d0, d1, p0, p1, rfl, rfl, rfl, h0, h1⟩ := trodAll_two hA
  obtain ⟨i0, rfl⟩ := okWide_int Try.underlying3 (hval 0 3 v0 rfl rfl)
  obtain ⟨fu0, h0⟩ := h0
  have hb0 : -9223372036854775808 ≤ i0 ∧ i0 ≤ 9223372036854775807 := by
    obtain ⟨i, hc, _, hw⟩ := DataW.trod_int Try.underlying3 h0
    obtain rfl : i0 = i := by simpa [Value.cells] using hc
    exact bounds_i64 hw
  obtain ⟨aA, aL, aC, rfl⟩ := okWide_slice Try.underlying41 (hval 1 41 v1 rfl rfl)
  obtain ⟨fu, h1⟩ := h1
  obtain ⟨x, Ls, hx, hB, hn, hl⟩ := open_bytess h1
  obtain rfl : Value.slice aA aL aC = x := by simpa [Value.cells] using hx
  have hl' := hl fun k hk => by simpa using List.all_eq_true.1 hsz _ (DataW.weights_mem_each (j := 1) (t := 41) rfl rfl k hk)
  refine (frameTakes_any i0 _ Ls W hb0 hB hn hl').mono fun e W' ⟨he, hb⟩ => ?_
  exact ⟨_, he, post_true Try.laidOut (by kernel_rfl) rfl rfl Try.underlying4 (fun ds hd => by rw [Try.params4] at hd; match ds, hd with | [_, _], _ => rfl) hW' hb⟩
theorem frameTakes_holds : Rows.FrameTakesSaid :=
  OpenClaim.holds_of_wide 4 Try.f4 rfl rfl rfl rfl rfl rfl rfl ⟨rfl, rfl, rfl, rfl, rfl⟩ rfl rfl rfl rfl rfl (by kernel_rfl) Try.func4 (by kernel_rfl)
    (of_decide_eq_true (by kernel_rfl)) (by unfold Func.isWrapper; first | (rw [if_pos (by decide +kernel)]; kernel_rfl) | (rw [if_neg (by decide +kernel)]; exact ⟨rfl, rfl⟩))
    (fun os started H enc _ => frameTakes_lifted os started H enc)
end Go.Proofs.Ytfgglffjigolhaa
