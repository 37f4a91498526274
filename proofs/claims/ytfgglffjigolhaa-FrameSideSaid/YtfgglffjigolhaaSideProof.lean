/- FrameSide: frames side by side, with bytes between that begin none, are taken out in their order, if the ring has room for all; just the bytes between are dropped. Proved for every input. No condition. -/
import Derived.Test.YtfgglffjigolhaaRow
import Derived.Test.YtfgglffjigolhaaLawFE
import Derived.Test.YtfgglffjigolhaaRowF
namespace Go.Proofs.Ytfgglffjigolhaa
open Go.ChangeShapes Go.WideShapes Go.ChangeAt Go.RowKit

set_option maxRecDepth 100000 in
theorem frameSide_lifted (os : Os) (started : os.Started) (H : Type) (enc : TypeId × Value → H) :
    ReturnsInHanded {} Try.checked os 7 .any (Rows.frameSideSpec.pre6 enc Try.prog Try.f7 Rows.frameSideRow.domain false) (Rows.frameSideSpec.post enc Try.prog Try.f7 false true false false) := by
  refine returnsInHanded_of_change (C := Try.checked) Try.own started (by kernel_rfl) Try.func7
    (ChangeSpec.witness6 (enc := enc) (C := Try.checked) false ⟨#[], #[.slice none 0 0, .int .u8 0], []⟩ 8 (by kernel_rfl) (by kernel_rfl) (by kernel_rfl) (by kernel_rfl)) ?_
  intro W base args ds gs before hval0 hW hcnd _
  have hval : ∀ (j : Nat) t v, Try.f7.params[j]? = some t → args[j]? = some v → Value.okWide Try.prog W .any base t v := hval0
  have hW' := hW
  obtain ⟨p, q, hA0, hV, rfl, hfz, hnd⟩ := hW
  have hA : DataW.TrodAll enc Try.prog W 0 (fun _ => true) true Try.f7.params.toList args.toList ds p := hA0
  rw [Try.params7] at hA hval
  obtain ⟨v0, v1, d0, d1, p0, p1, rfl, rfl, rfl, h0, h1⟩ := trodAll_two hA
  obtain ⟨aA, aL, aC, rfl⟩ := okWide_slice Try.underlying53 (hval 0 53 v0 rfl rfl)
  obtain ⟨fu, h0⟩ := h0
  obtain ⟨x, L, hx, hL, hk⟩ := open_frames h0
  obtain rfl : Value.slice aA aL aC = x := by simpa [Value.cells] using hx
  obtain ⟨i1, rfl⟩ := okWide_int Try.underlying5 (hval 1 5 v1 rfl rfl)
  obtain ⟨fu1, h1⟩ := h1
  obtain ⟨bt, hbt⟩ := open_u8 h1
  obtain rfl : i1 = (bt.toNat : Int) := by injection hbt
  refine (frameSide_all _ L bt W hL hk).mono fun e W' ⟨he, hb⟩ => ?_
  exact ⟨_, he, post_true Try.laidOut (by kernel_rfl) rfl rfl Try.underlying4 (fun ds hd => by rw [Try.params7] at hd; match ds, hd with | [_, _], _ => rfl) hW' hb⟩
theorem frameSide_holds : Rows.FrameSideSaid :=
  OpenClaim.holds_of_wide 7 Try.f7 rfl rfl rfl rfl rfl rfl rfl ⟨rfl, rfl, rfl, rfl, rfl⟩ rfl rfl rfl rfl rfl (by kernel_rfl) Try.func7 (by kernel_rfl)
    (of_decide_eq_true (by kernel_rfl)) (by unfold Func.isWrapper; first | (rw [if_pos (by decide +kernel)]; kernel_rfl) | (rw [if_neg (by decide +kernel)]; exact ⟨rfl, rfl⟩))
    (fun os started H enc _ => frameSide_lifted os started H enc)
end Go.Proofs.Ytfgglffjigolhaa
