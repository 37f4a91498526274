/- FrameNone: of no ring nothing is taken out; All is Next again and again. Proved for every input. No condition. -/
import Derived.Test.YtfgglffjigolhaaRow
import Derived.Test.YtfgglffjigolhaaLawFD
namespace Go.Proofs.Ytfgglffjigolhaa
open Go.ChangeShapes Go.WideShapes Go.ChangeAt Go.RowKit

set_option maxRecDepth 100000 in
theorem frameNone_lifted (os : Os) (started : os.Started) (H : Type) (enc : TypeId × Value → H) :
    ReturnsInHanded {} Try.checked os 5 .any (Rows.frameNoneSpec.pre6 enc Try.prog Try.f5 Rows.frameNoneRow.domain false) (Rows.frameNoneSpec.post enc Try.prog Try.f5 false true false false) := by
  refine returnsInHanded_of_change (C := Try.checked) Try.own started (by kernel_rfl) Try.func5
    (ChangeSpec.witness6 (enc := enc) (C := Try.checked) false ⟨#[], #[.slice none 0 0], []⟩ 8 (by kernel_rfl) (by kernel_rfl) (by kernel_rfl) (by kernel_rfl)) ?_
  intro W base args ds gs before hval0 hW hcnd _
  have hval : ∀ (j : Nat) t v, Try.f5.params[j]? = some t → args[j]? = some v → Value.okWide Try.prog W .any base t v := hval0
  have hW' := hW
  obtain ⟨p, q, hA0, hV, rfl, hfz, hnd⟩ := hW
  have hA : DataW.TrodAll enc Try.prog W 0 (fun _ => true) true Try.f5.params.toList args.toList ds p := hA0
  rw [Try.params5] at hA hval
  obtain ⟨v0, d0, rfl, rfl, h0⟩ := trodAll_one hA
  obtain ⟨aA, aL, aC, rfl⟩ := okWide_slice Try.underlying30 (hval 0 30 v0 rfl rfl)
  obtain ⟨fu, h0⟩ := h0
  obtain ⟨x, L, hx, hL, hlen⟩ := open_bytes h0
  obtain rfl : Value.slice aA aL aC = x := by simpa [Value.cells] using hx
  refine (frameNone_any _ L W hL hlen).mono fun e W' ⟨he, hb⟩ => ?_
  exact ⟨_, he, post_true Try.laidOut (by kernel_rfl) rfl rfl Try.underlying4 (fun ds hd => by rw [Try.params5] at hd; match ds, hd with | [_], _ => rfl) hW' hb⟩
theorem frameNone_holds : Rows.FrameNoneSaid :=
  OpenClaim.holds_of_wide 5 Try.f5 rfl rfl rfl rfl rfl rfl rfl ⟨rfl, rfl, rfl, rfl, rfl⟩ rfl rfl rfl rfl rfl (by kernel_rfl) Try.func5 (by kernel_rfl)
    (of_decide_eq_true (by kernel_rfl)) (by unfold Func.isWrapper; first | (rw [if_pos (by decide +kernel)]; kernel_rfl) | (rw [if_neg (by decide +kernel)]; exact ⟨rfl, rfl⟩))
    (fun os started H enc _ => frameNone_lifted os started H enc)
end Go.Proofs.Ytfgglffjigolhaa
