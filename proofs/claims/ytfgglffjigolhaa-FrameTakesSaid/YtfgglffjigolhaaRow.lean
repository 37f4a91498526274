/- Rows of laws: whatever reads before the call, reads so behind it. -/
import Derived.Test.YtfgglffjigolhaaRows
import Derived.Test.YtfgglffjigolhaaBase
import Derived.ProofKit
import Derived.SizedLaws
import Derived.ChangeCalls
import Derived.Deep.Slices
import Derived.Lib.SmallJoins
namespace Go.Proofs.Ytfgglffjigolhaa
open Go.ChangeShapes Go.WideShapes Go.ChangeAt Go.RowKit

theorem Try.own : ownKnob Try.prog.godebug = none := by kernel_rfl
theorem Try.laidOut : laidOutB Try.prog = true := by kernel_rfl

section
variable {H : Type} {enc : TypeId × Value → H}
theorem trodAll_stays {P : Program} (hl : laidOutB P = true) {W W' : World} {sp' : Nat → Bool} : ∀ {ts : List TypeId} {vs : List Value} {ds : List (DataW H)} {ps : List MemPlace},
    (∀ t ∈ ts, P.readableRec t = true ∧ t < P.types.size) → DataW.TrodAll enc P W 0 (fun _ => true) true ts vs ds ps → (∀ p ∈ ps, W.sameAt W' p) → (∀ p ∈ ps, sp' p.block = true) → DataW.TrodAll enc P W' 0 sp' true ts vs ds ps
  | [], [], [], ps, _, h, _, _ => h
  | t :: ts, [], ds, ps, _, h, _, _ => by simp [DataW.TrodAll] at h
  | t :: ts, v :: vs, [], ps, _, h, _, _ => by simp [DataW.TrodAll] at h
  | [], v :: vs, ds, ps, _, h, _, _ => by simp [DataW.TrodAll] at h
  | [], [], d :: ds, ps, _, h, _, _ => by simp [DataW.TrodAll] at h
  | t :: ts, v :: vs, d :: ds, ps, hr, h, hs, hsp => by
    obtain ⟨p, q, h1, h2, rfl⟩ := h
    have ht := hr t (by simp)
    exact ⟨p, q, Go.WideElems.Trod_stays hl ht.1 ht.2 h1 (fun x hx => hs x (by simp [hx])) (fun x hx => hsp x (by simp [hx])), trodAll_stays hl (fun t ht => hr t (by simp [ht])) h2 (fun x hx => hs x (by simp [hx])) (fun x hx => hsp x (by simp [hx])), rfl⟩

/-- The end of a law's row: it answered true, and what was there is as it was. -/
theorem post_true {P : Program} {f : Func} {s : ChangeSpec} {apart fresh handsOn again : Bool} {W W' : World} {args : Array Value} {ds gs : List (DataW H)} {before : List MemPlace}
    (hl : laidOutB P = true) (hr0 : (f.params.toList.all fun t => P.readableRec t && decide (t < P.types.size)) = true) (hv : s.vars = []) {tb : TypeId} (hrt : f.resultTypes = #[tb]) (hbt : P.underlying tb = some .bool)
    (hfn : ∀ ds : List (DataW H), ds.length = f.params.size → s.fn H ds = { results := [.lit (.bool true)], args := ds })
    (hW : DataW.Whole enc P f.params.toList s.vars apart W args.toList ds gs before) (hb : Below W.heap.size W W') :
    s.post enc P f apart fresh handsOn again W args (.bool true) W' := by
  have hr : ∀ t ∈ f.params.toList, P.readableRec t = true ∧ t < P.types.size := fun t ht => by
    have := List.all_eq_true.1 hr0 t ht
    simpa using this
  have hlt : ∀ p ∈ before, p.block < W.heap.size := fun p hp => hW.lt p hp
  have hold : ∀ p ∈ before, (fun b => decide (b < W.heap.size)) p.block = true := fun p hp => by simpa using hlt p hp
  have hW0 := hW
  obtain ⟨p, q, hA, hV, rfl, hfz, hnd⟩ := hW
  rw [hv] at hV
  obtain ⟨rfl, rfl⟩ := trodVars_none hV
  have hlen := (Go.trodAll_length hA).2
  have hs : s.fn H (ds ++ []) = { results := [.lit (.bool true)], args := ds } := by rw [List.append_nil]; exact hfn ds (by simpa using hlen)
  have hvars : ∀ sp : Nat → Bool, DataW.TrodVars enc P W' sp s.vars (s.fn H (ds ++ [])).vars [] := fun sp => by rw [hs, hv]; rfl
  have hargs : ∀ sp : Nat → Bool, (∀ x ∈ p ++ [], sp x.block = true) → DataW.TrodAll enc P W' 0 sp true f.params.toList args.toList (s.fn H (ds ++ [])).args p := fun sp hsp => by
    rw [hs]
    exact trodAll_stays hl hr hA (fun x hx => hb.same (hlt x (by simpa using hx))) (fun x hx => hsp x (by simpa using hx))
  have hres : ∀ (b : Nat) (sp : Nat → Bool) (hd : Bool), DataW.TrodAll enc P W' b sp hd f.resultTypes.toList ((Value.bool true).resultList f.resultTypes.size) (s.fn H (ds ++ [])).results [] := fun b sp hd => by
    rw [hs, hrt]
    exact ⟨[], [], ⟨1, by simp [DataW.trod, hbt, Value.cells]⟩, rfl, rfl⟩
  refine ⟨ds, [], p ++ [], [], p, [], hW0, hres _ _ _, hargs _ hold, hvars _, World.keptBut_mono (fun x hx => ⟨hx, Or.inr (by simpa using hx)⟩) (hb.frame (· ∈ p ++ [])), fun _ => ?_⟩
  · refine ⟨?_, _, _, ([] ++ p) ++ [], ⟨[] ++ p, [], trodAll_append (hargs _ (fun _ _ => rfl)) (hres _ _ _), hvars _, rfl, ?_, ?_⟩, ?_⟩
    · intro j t r hj hrr
      rw [hrt] at hj hrr
      match j, hj with
      | 0, hj =>
        simp at hj
        subst hj
        have : r = .bool true := by simpa [Value.resultList] using hrr.symm
        subst this
        exact okWide_bool_mk hbt true
      | j + 1, hj => simp at hj
    · intro b off hp
      have hin : MemPlace.cell b off ∈ p ++ [] := by simpa using hp
      rw [hb.frozen (hlt _ hin)]
      exact hfz b off hin
    · intro ha
      simpa using hnd ha
    · intro x hx _
      simpa using hx

theorem addr_spot {a : Addr} (h : a.spot = none) : a = ⟨a.block, a.off, none⟩ := by
  cases a with
  | mk b o sp => cases h; rfl
theorem cell_spot {w : World} {a : Addr} {v : Value} (h : w.cell? a = some v) : a = ⟨a.block, a.off, none⟩ := by
  unfold World.cell? at h
  split at h
  · split at h
    · cases h
    · rename_i hs
      cases a with
      | mk b o sp =>
        cases sp with
        | none => rfl
        | some x => simp at hs
  · cases h
theorem open_u8 {w : World} {base : Nat} {sp : Nat → Bool} {held : Bool} {n : Nat} {v : Value} {y : DataW H × List MemPlace} (h : DataW.trod enc Try.prog w base sp held n 5 [v] = some y) : ∃ k : UInt8, v = bv k := by
  obtain ⟨i, hc, _, hw⟩ := DataW.trod_int Try.underlying5 h
  have : v = .int .u8 i := by simpa using hc
  subst this
  have hb : 0 ≤ i ∧ i ≤ 255 := by have := hw; simp [Lit.wf, IntKind.min, IntKind.max, show IntKind.u8.signed = false from rfl, show IntKind.u8.bits = 8 from rfl] at this; omega
  refine ⟨UInt8.ofNat i.toNat, ?_⟩
  rw [bv, UInt8.toNat_ofNat']
  congr 1
  omega
theorem open_bytes {w : World} {base : Nat} {held : Bool} {n : Nat} {cs : List Value} {y : DataW H × List MemPlace} (h : DataW.trod enc Try.prog w base (fun _ => true) held n 30 cs = some y) :
    ∃ v L, cs = [v] ∧ Bs w v L ∧ L.length ≤ maxLen := by
  rcases Go.Deep.open_slice Try.underlying30 h with ⟨rfl, _⟩ | ⟨a, len, cap, m, n, D, Pl, rfl, _, hlc, hcm, hm, _, hel⟩
  · exact ⟨_, [], rfl, Bs.nil _, Nat.zero_le _⟩
  · simp only [if_true] at hm
    subst hm
    have hC : Try.prog.cellsOf 5 = 1 := by kernel_rfl
    have hx : ∀ i, i < len → ∃ x : UInt8, w.cell? ⟨a.block, a.off + i, none⟩ = some (bv x) ∧ (i = 0 → a.spot = none) := by
      intro i hi
      obtain ⟨cs', h1, h2⟩ := hel i (by omega)
      rw [hC] at h1
      obtain ⟨hsub, hlen, hat⟩ := World.cells?_some h1
      obtain ⟨v, rfl⟩ : ∃ v, cs' = [v] := by
        match cs', hlen with
        | [v], _ => exact ⟨v, rfl⟩
      obtain ⟨x, rfl⟩ := open_u8 h2
      have hc := hat 0 (by simp)
      rw [Nat.mul_one, show (a.add i).add 0 = a.add i from rfl] at hc
      simp only [List.getElem?_cons_zero] at hc
      have hs := cell_spot hc
      by_cases h0 : i = 0
      · subst h0
        have : a = ⟨a.block, a.off, none⟩ := hs
        exact ⟨x, by rw [Nat.add_zero, ← this]; exact hc, fun _ => by rw [this]⟩
      · refine ⟨x, ?_, fun h => absurd h h0⟩
        unfold Addr.add at hc
        rw [if_neg h0] at hc
        exact hc
    refine ⟨_, List.ofFn (fun i : Fin len => Classical.choose (hx i.val i.isLt)), rfl, ⟨some a, m, by simp, by simpa using hlc, fun i hi => ?_⟩, by rw [List.length_ofFn]; exact Nat.le_trans hlc hcm⟩
    have hi' : i < len := by simpa using hi
    have h1 := Classical.choose_spec (hx i hi')
    have h0 := Classical.choose_spec (hx 0 (by omega))
    refine ⟨a.block, a.off, ?_, ?_⟩
    · exact congrArg some (addr_spot (h0.2 rfl))
    · rw [h1.1]; simp
end
end Go.Proofs.Ytfgglffjigolhaa
