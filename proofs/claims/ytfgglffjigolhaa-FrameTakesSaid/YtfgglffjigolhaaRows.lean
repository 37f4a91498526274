/-
  No cell of these rows narrows 'for every input' (looked for: loops, veiled, ifaces, maps, wideKeys, modest, calm, conditions, laid).
  DERIVED. THE GIVEN ROWS OF THIS SEAT. 9 by the template 'for every input the law returns true; each argument reads behind the call as it read before'; 0 by the template 'total and deterministic' (their statements: YtfgglffjigolhaaTotals.lean).
  GIVEN WITH THE SEED: the statements are not yours to turn. If you find one false, say at which input.
  Laid BY PROGRAM, IN A SANDBOX (cutbox-rows.mjs): the forced cells as the released guide's own fill.sh prints them over the translation ee58b015775000cb… (all of the seat's roots in one cut). By AI agents, Wed Nov 11 2026. No macro, syntax, notation, axiom, sorry.
-/
import Derived.Test.YtfgglffjigolhaaChecked
import GoSem.Claim
import GoSem.ClaimJoined
import GoSem.ClaimMapViews
import Derived.JoinedTies
import Derived.KernelRfl
namespace Go.Proofs.Ytfgglffjigolhaa
/- THE CELL 'sum', in the pinned program and in every row, IS THE sha256 OF THE DUMP (.gsa) THAT YtfgglffjigolhaaProg.lean LOADS. Nothing in Lean hashes anything: it is a label: what it is worth is what the hold of that sum in a sandbox is worth. -/
noncomputable def Try.pinned : Pinned := { name := "ytfgglffjigolhaa", sum := "ee58b015775000cb4a851e4d5d9d339d7b526bd29be3421cc8254ac9ce6fc959", checked := Try.checked }
namespace Rows
def none {H : Type} : Left H := { results := [], args := [] }

/-- 'remontoirelaw14.DialogEnds': WHATEVER THE INPUT: true; the input reads as it did. -/
def dialogEndsSpec : ChangeSpec := { name := "dialogEnds", fn := fun _ => fun
  | [d1, d2, d3] => { results := [.lit (.bool true)], args := [d1, d2, d3] }
  | _ => none }
def dialogEndsRow : OpenClaim := { program := "ytfgglffjigolhaa", sum := "ee58b015775000cb4a851e4d5d9d339d7b526bd29be3421cc8254ac9ce6fc959", func := "remontoire/remontoirelaw14.DialogEnds", spec := "dialogEnds", unfollowed := true, recurses := true, plainKeys := false, apart := false }
def DialogEndsSaid : Prop := dialogEndsRow.holds Try.pinned (OpenSpec.ofChange dialogEndsSpec)

/-- ITS FALSE NEIGHBOUR: 'it returns false'. Refute it at one input. -/
def dialogEndsWrong : ChangeSpec := { name := "dialogEnds", fn := fun _ => fun
  | [d1, d2, d3] => { results := [.lit (.bool false)], args := [d1, d2, d3] }
  | _ => none }
def DialogEndsWrongFalsely : Prop := dialogEndsRow.holds Try.pinned (OpenSpec.ofChange dialogEndsWrong)

/-- 'remontoirelaw08.FrameTakes': WHATEVER THE INPUT: true; the input reads as it did. -/
def frameTakesSpec : ChangeSpec := { name := "frameTakes", fn := fun _ => fun
  | [d1, d2] => { results := [.lit (.bool true)], args := [d1, d2] }
  | _ => none }
def frameTakesRow : OpenClaim := { program := "ytfgglffjigolhaa", sum := "ee58b015775000cb4a851e4d5d9d339d7b526bd29be3421cc8254ac9ce6fc959", func := "remontoire/remontoirelaw08.FrameTakes", spec := "frameTakes", unfollowed := true, recurses := true, plainKeys := false, apart := false }
def FrameTakesSaid : Prop := frameTakesRow.holds Try.pinned (OpenSpec.ofChange frameTakesSpec)

/-- ITS FALSE NEIGHBOUR: 'it returns false'. Refute it at one input. -/
def frameTakesWrong : ChangeSpec := { name := "frameTakes", fn := fun _ => fun
  | [d1, d2] => { results := [.lit (.bool false)], args := [d1, d2] }
  | _ => none }
def FrameTakesWrongFalsely : Prop := frameTakesRow.holds Try.pinned (OpenSpec.ofChange frameTakesWrong)

/-- 'remontoirelaw08.FrameNone': WHATEVER THE INPUT: true; the input reads as it did. -/
def frameNoneSpec : ChangeSpec := { name := "frameNone", fn := fun _ => fun
  | [d] => { results := [.lit (.bool true)], args := [d] }
  | _ => none }
def frameNoneRow : OpenClaim := { program := "ytfgglffjigolhaa", sum := "ee58b015775000cb4a851e4d5d9d339d7b526bd29be3421cc8254ac9ce6fc959", func := "remontoire/remontoirelaw08.FrameNone", spec := "frameNone", unfollowed := true, recurses := true, plainKeys := false, apart := false }
def FrameNoneSaid : Prop := frameNoneRow.holds Try.pinned (OpenSpec.ofChange frameNoneSpec)

/-- ITS FALSE NEIGHBOUR: 'it returns false'. Refute it at one input. -/
def frameNoneWrong : ChangeSpec := { name := "frameNone", fn := fun _ => fun
  | [d] => { results := [.lit (.bool false)], args := [d] }
  | _ => none }
def FrameNoneWrongFalsely : Prop := frameNoneRow.holds Try.pinned (OpenSpec.ofChange frameNoneWrong)

/-- 'remontoirelaw08.FrameBytes': WHATEVER THE INPUT: true; the input reads as it did. -/
def frameBytesSpec : ChangeSpec := { name := "frameBytes", fn := fun _ => fun
  | [d] => { results := [.lit (.bool true)], args := [d] }
  | _ => none }
def frameBytesRow : OpenClaim := { program := "ytfgglffjigolhaa", sum := "ee58b015775000cb4a851e4d5d9d339d7b526bd29be3421cc8254ac9ce6fc959", func := "remontoire/remontoirelaw08.FrameBytes", spec := "frameBytes", unfollowed := true, recurses := true, plainKeys := false, apart := false }
def FrameBytesSaid : Prop := frameBytesRow.holds Try.pinned (OpenSpec.ofChange frameBytesSpec)

/-- ITS FALSE NEIGHBOUR: 'it returns false'. Refute it at one input. -/
def frameBytesWrong : ChangeSpec := { name := "frameBytes", fn := fun _ => fun
  | [d] => { results := [.lit (.bool false)], args := [d] }
  | _ => none }
def FrameBytesWrongFalsely : Prop := frameBytesRow.holds Try.pinned (OpenSpec.ofChange frameBytesWrong)

/-- 'remontoirelaw08.FrameSide': WHATEVER THE INPUT: true; the input reads as it did. -/
def frameSideSpec : ChangeSpec := { name := "frameSide", fn := fun _ => fun
  | [d1, d2] => { results := [.lit (.bool true)], args := [d1, d2] }
  | _ => none }
def frameSideRow : OpenClaim := { program := "ytfgglffjigolhaa", sum := "ee58b015775000cb4a851e4d5d9d339d7b526bd29be3421cc8254ac9ce6fc959", func := "remontoire/remontoirelaw08.FrameSide", spec := "frameSide", unfollowed := true, recurses := true, plainKeys := false, apart := false }
def FrameSideSaid : Prop := frameSideRow.holds Try.pinned (OpenSpec.ofChange frameSideSpec)

/-- ITS FALSE NEIGHBOUR: 'it returns false'. Refute it at one input. -/
def frameSideWrong : ChangeSpec := { name := "frameSide", fn := fun _ => fun
  | [d1, d2] => { results := [.lit (.bool false)], args := [d1, d2] }
  | _ => none }
def FrameSideWrongFalsely : Prop := frameSideRow.holds Try.pinned (OpenSpec.ofChange frameSideWrong)

/-- 'remontoirelaw19.MedianPlays': WHATEVER THE INPUT: true; the input reads as it did. -/
def medianPlaysSpec : ChangeSpec := { name := "medianPlays", fn := fun _ => fun
  | [d1, d2, d3] => { results := [.lit (.bool true)], args := [d1, d2, d3] }
  | _ => none }
def medianPlaysRow : OpenClaim := { program := "ytfgglffjigolhaa", sum := "ee58b015775000cb4a851e4d5d9d339d7b526bd29be3421cc8254ac9ce6fc959", func := "remontoire/remontoirelaw19.MedianPlays", spec := "medianPlays", unfollowed := true, recurses := true, plainKeys := false, apart := false }
def MedianPlaysSaid : Prop := medianPlaysRow.holds Try.pinned (OpenSpec.ofChange medianPlaysSpec)

/-- ITS FALSE NEIGHBOUR: 'it returns false'. Refute it at one input. -/
def medianPlaysWrong : ChangeSpec := { name := "medianPlays", fn := fun _ => fun
  | [d1, d2, d3] => { results := [.lit (.bool false)], args := [d1, d2, d3] }
  | _ => none }
def MedianPlaysWrongFalsely : Prop := medianPlaysRow.holds Try.pinned (OpenSpec.ofChange medianPlaysWrong)

/-- 'remontoirelaw19.MedianMiddle': WHATEVER THE INPUT: true; the input reads as it did. -/
def medianMiddleSpec : ChangeSpec := { name := "medianMiddle", fn := fun _ => fun
  | [d1, d2, d3, d4, d5] => { results := [.lit (.bool true)], args := [d1, d2, d3, d4, d5] }
  | _ => none }
def medianMiddleRow : OpenClaim := { program := "ytfgglffjigolhaa", sum := "ee58b015775000cb4a851e4d5d9d339d7b526bd29be3421cc8254ac9ce6fc959", func := "remontoire/remontoirelaw19.MedianMiddle", spec := "medianMiddle", unfollowed := true, recurses := true, plainKeys := false, apart := false }
def MedianMiddleSaid : Prop := medianMiddleRow.holds Try.pinned (OpenSpec.ofChange medianMiddleSpec)

/-- ITS FALSE NEIGHBOUR: 'it returns false'. Refute it at one input. -/
def medianMiddleWrong : ChangeSpec := { name := "medianMiddle", fn := fun _ => fun
  | [d1, d2, d3, d4, d5] => { results := [.lit (.bool false)], args := [d1, d2, d3, d4, d5] }
  | _ => none }
def MedianMiddleWrongFalsely : Prop := medianMiddleRow.holds Try.pinned (OpenSpec.ofChange medianMiddleWrong)

/-- 'remontoirelaw30.RatePlays': WHATEVER THE INPUT: true; the input reads as it did. -/
def ratePlaysSpec : ChangeSpec := { name := "ratePlays", fn := fun _ => fun
  | [d1, d2] => { results := [.lit (.bool true)], args := [d1, d2] }
  | _ => none }
def ratePlaysRow : OpenClaim := { program := "ytfgglffjigolhaa", sum := "ee58b015775000cb4a851e4d5d9d339d7b526bd29be3421cc8254ac9ce6fc959", func := "remontoire/remontoirelaw30.RatePlays", spec := "ratePlays", inPlace := ["internal/bytealg.Compare", "maps.clone"], unfollowed := true, recurses := true, plainKeys := false, apart := false }
def RatePlaysSaid : Prop := ratePlaysRow.holds Try.pinned (OpenSpec.ofChange ratePlaysSpec)

/-- ITS FALSE NEIGHBOUR: 'it returns false'. Refute it at one input. -/
def ratePlaysWrong : ChangeSpec := { name := "ratePlays", fn := fun _ => fun
  | [d1, d2] => { results := [.lit (.bool false)], args := [d1, d2] }
  | _ => none }
def RatePlaysWrongFalsely : Prop := ratePlaysRow.holds Try.pinned (OpenSpec.ofChange ratePlaysWrong)

/-- 'remontoirelaw30.RateOnce': WHATEVER THE INPUT: true; the input reads as it did. -/
def rateOnceSpec : ChangeSpec := { name := "rateOnce", fn := fun _ => fun
  | [d1, d2, d3] => { results := [.lit (.bool true)], args := [d1, d2, d3] }
  | _ => none }
def rateOnceRow : OpenClaim := { program := "ytfgglffjigolhaa", sum := "ee58b015775000cb4a851e4d5d9d339d7b526bd29be3421cc8254ac9ce6fc959", func := "remontoire/remontoirelaw30.RateOnce", spec := "rateOnce", inPlace := ["internal/bytealg.Compare", "maps.clone"], unfollowed := true, recurses := true, plainKeys := false, apart := false }
def RateOnceSaid : Prop := rateOnceRow.holds Try.pinned (OpenSpec.ofChange rateOnceSpec)

/-- ITS FALSE NEIGHBOUR: 'it returns false'. Refute it at one input. -/
def rateOnceWrong : ChangeSpec := { name := "rateOnce", fn := fun _ => fun
  | [d1, d2, d3] => { results := [.lit (.bool false)], args := [d1, d2, d3] }
  | _ => none }
def RateOnceWrongFalsely : Prop := rateOnceRow.holds Try.pinned (OpenSpec.ofChange rateOnceWrong)

/- THE SECOND FORM. 'bulk': how many values and letters a reading holds, each counted each time it is reached (what is shared counts as often as it is met; a slice's spare places count too). A statement '..UptoSaid' is the law's where the arguments, and the package variables that the reading takes, are together of bulk at most 1048576: NARROWER than '..Said'. Prove '..Said' where nothing that the law and all that it calls make is longer than what came in: it says more and counts as full. Else prove '..UptoSaid'. A law counts once. -/
mutual
def uptoBulk {H : Type} : DataW H → Nat
  | .lit (.string bytes) => bytes.length + 1
  | .lit _ => 1
  | .nil => 1
  | .ptr d => uptoBulk d + 1
  | .slice elems spare => uptoBulkAll elems + uptoBulkAll spare + 1
  | .agg parts => uptoBulkAll parts + 1
  | .iface _ d => uptoBulk d + 1
  | .map entries => uptoBulkEntries entries + 1
  | .held _ => 1
def uptoBulkAll {H : Type} : List (DataW H) → Nat
  | [] => 0
  | d :: r => uptoBulk d + uptoBulkAll r
def uptoBulkEntries {H : Type} : List (Lit × DataW H) → Nat
  | [] => 0
  | x :: r => uptoBulkEntry x + uptoBulkEntries r
def uptoBulkEntry {H : Type} : Lit × DataW H → Nat
  | (.string bytes, d) => bytes.length + uptoBulk d + 1
  | (_, d) => uptoBulk d + 1
 end
def uptoSmall : (H : Type) → List (DataW H) → Bool := fun _ ds => decide (uptoBulkAll ds ≤ 1048576)
def OpenSpec.upto (s : _root_.Go.ChangeSpec) : _root_.Go.OpenSpec := { _root_.Go.OpenSpec.ofChange s with cond := some uptoSmall }

/-- 'remontoirelaw14.DialogEnds', WHERE WHAT IT READS IS OF BULK AT MOST 1048576: true; the input reads as it did. -/
def dialogEndsUptoRow : OpenClaim := { program := "ytfgglffjigolhaa", sum := "ee58b015775000cb4a851e4d5d9d339d7b526bd29be3421cc8254ac9ce6fc959", func := "remontoire/remontoirelaw14.DialogEnds", spec := "dialogEnds", unfollowed := true, recurses := true, plainKeys := false, apart := false, narrowed := true }
def DialogEndsUptoSaid : Prop := dialogEndsUptoRow.holds Try.pinned (OpenSpec.upto dialogEndsSpec)

/-- 'remontoirelaw08.FrameTakes', WHERE WHAT IT READS IS OF BULK AT MOST 1048576: true; the input reads as it did. -/
def frameTakesUptoRow : OpenClaim := { program := "ytfgglffjigolhaa", sum := "ee58b015775000cb4a851e4d5d9d339d7b526bd29be3421cc8254ac9ce6fc959", func := "remontoire/remontoirelaw08.FrameTakes", spec := "frameTakes", unfollowed := true, recurses := true, plainKeys := false, apart := false, narrowed := true }
def FrameTakesUptoSaid : Prop := frameTakesUptoRow.holds Try.pinned (OpenSpec.upto frameTakesSpec)

/-- 'remontoirelaw08.FrameNone', WHERE WHAT IT READS IS OF BULK AT MOST 1048576: true; the input reads as it did. -/
def frameNoneUptoRow : OpenClaim := { program := "ytfgglffjigolhaa", sum := "ee58b015775000cb4a851e4d5d9d339d7b526bd29be3421cc8254ac9ce6fc959", func := "remontoire/remontoirelaw08.FrameNone", spec := "frameNone", unfollowed := true, recurses := true, plainKeys := false, apart := false, narrowed := true }
def FrameNoneUptoSaid : Prop := frameNoneUptoRow.holds Try.pinned (OpenSpec.upto frameNoneSpec)

/-- 'remontoirelaw08.FrameBytes', WHERE WHAT IT READS IS OF BULK AT MOST 1048576: true; the input reads as it did. -/
def frameBytesUptoRow : OpenClaim := { program := "ytfgglffjigolhaa", sum := "ee58b015775000cb4a851e4d5d9d339d7b526bd29be3421cc8254ac9ce6fc959", func := "remontoire/remontoirelaw08.FrameBytes", spec := "frameBytes", unfollowed := true, recurses := true, plainKeys := false, apart := false, narrowed := true }
def FrameBytesUptoSaid : Prop := frameBytesUptoRow.holds Try.pinned (OpenSpec.upto frameBytesSpec)

/-- 'remontoirelaw08.FrameSide', WHERE WHAT IT READS IS OF BULK AT MOST 1048576: true; the input reads as it did. -/
def frameSideUptoRow : OpenClaim := { program := "ytfgglffjigolhaa", sum := "ee58b015775000cb4a851e4d5d9d339d7b526bd29be3421cc8254ac9ce6fc959", func := "remontoire/remontoirelaw08.FrameSide", spec := "frameSide", unfollowed := true, recurses := true, plainKeys := false, apart := false, narrowed := true }
def FrameSideUptoSaid : Prop := frameSideUptoRow.holds Try.pinned (OpenSpec.upto frameSideSpec)

/-- 'remontoirelaw19.MedianPlays', WHERE WHAT IT READS IS OF BULK AT MOST 1048576: true; the input reads as it did. -/
def medianPlaysUptoRow : OpenClaim := { program := "ytfgglffjigolhaa", sum := "ee58b015775000cb4a851e4d5d9d339d7b526bd29be3421cc8254ac9ce6fc959", func := "remontoire/remontoirelaw19.MedianPlays", spec := "medianPlays", unfollowed := true, recurses := true, plainKeys := false, apart := false, narrowed := true }
def MedianPlaysUptoSaid : Prop := medianPlaysUptoRow.holds Try.pinned (OpenSpec.upto medianPlaysSpec)

/-- 'remontoirelaw19.MedianMiddle', WHERE WHAT IT READS IS OF BULK AT MOST 1048576: true; the input reads as it did. -/
def medianMiddleUptoRow : OpenClaim := { program := "ytfgglffjigolhaa", sum := "ee58b015775000cb4a851e4d5d9d339d7b526bd29be3421cc8254ac9ce6fc959", func := "remontoire/remontoirelaw19.MedianMiddle", spec := "medianMiddle", unfollowed := true, recurses := true, plainKeys := false, apart := false, narrowed := true }
def MedianMiddleUptoSaid : Prop := medianMiddleUptoRow.holds Try.pinned (OpenSpec.upto medianMiddleSpec)

/-- 'remontoirelaw30.RatePlays', WHERE WHAT IT READS IS OF BULK AT MOST 1048576: true; the input reads as it did. -/
def ratePlaysUptoRow : OpenClaim := { program := "ytfgglffjigolhaa", sum := "ee58b015775000cb4a851e4d5d9d339d7b526bd29be3421cc8254ac9ce6fc959", func := "remontoire/remontoirelaw30.RatePlays", spec := "ratePlays", inPlace := ["internal/bytealg.Compare", "maps.clone"], unfollowed := true, recurses := true, plainKeys := false, apart := false, narrowed := true }
def RatePlaysUptoSaid : Prop := ratePlaysUptoRow.holds Try.pinned (OpenSpec.upto ratePlaysSpec)

/-- 'remontoirelaw30.RateOnce', WHERE WHAT IT READS IS OF BULK AT MOST 1048576: true; the input reads as it did. -/
def rateOnceUptoRow : OpenClaim := { program := "ytfgglffjigolhaa", sum := "ee58b015775000cb4a851e4d5d9d339d7b526bd29be3421cc8254ac9ce6fc959", func := "remontoire/remontoirelaw30.RateOnce", spec := "rateOnce", inPlace := ["internal/bytealg.Compare", "maps.clone"], unfollowed := true, recurses := true, plainKeys := false, apart := false, narrowed := true }
def RateOnceUptoSaid : Prop := rateOnceUptoRow.holds Try.pinned (OpenSpec.upto rateOnceSpec)

end Rows
end Go.Proofs.Ytfgglffjigolhaa
