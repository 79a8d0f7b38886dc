/-
  No cell of these rows narrows 'for every input' (looked for: loops, veiled, ifaces, maps, wideKeys, modest, calm, conditions, laid).
  DERIVED. THE GIVEN ROWS OF THIS SEAT. 22 by the template 'for every input the law returns true; each argument reads behind the call as it read before'; 0 by the template 'total and deterministic' (their statements: YtljmaicobafgkaaTotals.lean).
  GIVEN WITH THE SEED: the statements are not yours to turn. If you find one false, say at which input.
  Laid BY PROGRAM, IN A SANDBOX (cutbox-rows.mjs): the forced cells as the released guide's own fill.sh prints them over the translation b82fe3561c98cec8… (all of the seat's roots in one cut). By AI agents, Wed Nov 11 2026. No macro, syntax, notation, axiom, sorry.
-/
import Derived.Test.YtljmaicobafgkaaChecked
import GoSem.Claim
import GoSem.ClaimJoined
import GoSem.ClaimMapViews
import Derived.JoinedTies
import Derived.KernelRfl
namespace Go.Proofs.Ytljmaicobafgkaa
/- THE CELL 'sum', in the pinned program and in every row, IS THE sha256 OF THE DUMP (.gsa) THAT YtljmaicobafgkaaProg.lean LOADS. Nothing in Lean hashes anything: it is a label: what it is worth is what the hold of that sum in a sandbox is worth. -/
noncomputable def Try.pinned : Pinned := { name := "ytljmaicobafgkaa", sum := "b82fe3561c98cec8cbd619c902b9f39679b87fce74b2e2744a67c6b324df68c3", checked := Try.checked }
namespace Rows
def none {H : Type} : Left H := { results := [], args := [] }

/-- 'hurdlelaw25.ImapPlays': WHATEVER THE INPUT: true; the input reads as it did. -/
def imapPlaysSpec : ChangeSpec := { name := "imapPlays", fn := fun _ => fun
  | [d] => { results := [.lit (.bool true)], args := [d] }
  | _ => none }
def imapPlaysRow : OpenClaim := { program := "ytljmaicobafgkaa", sum := "b82fe3561c98cec8cbd619c902b9f39679b87fce74b2e2744a67c6b324df68c3", func := "hurdle/hurdlelaw25.ImapPlays", spec := "imapPlays", unfollowed := true, recurses := true, plainKeys := false, apart := false }
def ImapPlaysSaid : Prop := imapPlaysRow.holds Try.pinned (OpenSpec.ofChange imapPlaysSpec)

/-- ITS FALSE NEIGHBOUR: 'it returns false'. Refute it at one input. -/
def imapPlaysWrong : ChangeSpec := { name := "imapPlays", fn := fun _ => fun
  | [d] => { results := [.lit (.bool false)], args := [d] }
  | _ => none }
def ImapPlaysWrongFalsely : Prop := imapPlaysRow.holds Try.pinned (OpenSpec.ofChange imapPlaysWrong)

/-- 'hurdlelaw25.ImapOnce': WHATEVER THE INPUT: true; the input reads as it did. -/
def imapOnceSpec : ChangeSpec := { name := "imapOnce", fn := fun _ => fun
  | [d1, d2, d3] => { results := [.lit (.bool true)], args := [d1, d2, d3] }
  | _ => none }
def imapOnceRow : OpenClaim := { program := "ytljmaicobafgkaa", sum := "b82fe3561c98cec8cbd619c902b9f39679b87fce74b2e2744a67c6b324df68c3", func := "hurdle/hurdlelaw25.ImapOnce", spec := "imapOnce", unfollowed := true, recurses := true, plainKeys := false, apart := false }
def ImapOnceSaid : Prop := imapOnceRow.holds Try.pinned (OpenSpec.ofChange imapOnceSpec)

/-- ITS FALSE NEIGHBOUR: 'it returns false'. Refute it at one input. -/
def imapOnceWrong : ChangeSpec := { name := "imapOnce", fn := fun _ => fun
  | [d1, d2, d3] => { results := [.lit (.bool false)], args := [d1, d2, d3] }
  | _ => none }
def ImapOnceWrongFalsely : Prop := imapOnceRow.holds Try.pinned (OpenSpec.ofChange imapOnceWrong)

/-- 'hurdlelaw25.ImapBack': WHATEVER THE INPUT: true; the input reads as it did. -/
def imapBackSpec : ChangeSpec := { name := "imapBack", fn := fun _ => fun
  | [d1, d2] => { results := [.lit (.bool true)], args := [d1, d2] }
  | _ => none }
def imapBackRow : OpenClaim := { program := "ytljmaicobafgkaa", sum := "b82fe3561c98cec8cbd619c902b9f39679b87fce74b2e2744a67c6b324df68c3", func := "hurdle/hurdlelaw25.ImapBack", spec := "imapBack", unfollowed := true, recurses := true, plainKeys := false, apart := false }
def ImapBackSaid : Prop := imapBackRow.holds Try.pinned (OpenSpec.ofChange imapBackSpec)

/-- ITS FALSE NEIGHBOUR: 'it returns false'. Refute it at one input. -/
def imapBackWrong : ChangeSpec := { name := "imapBack", fn := fun _ => fun
  | [d1, d2] => { results := [.lit (.bool false)], args := [d1, d2] }
  | _ => none }
def ImapBackWrongFalsely : Prop := imapBackRow.holds Try.pinned (OpenSpec.ofChange imapBackWrong)

/-- 'hurdlelaw25.ImapNone': WHATEVER THE INPUT: true; the input reads as it did. -/
def imapNoneSpec : ChangeSpec := { name := "imapNone", fn := fun _ => fun
  | [d] => { results := [.lit (.bool true)], args := [d] }
  | _ => none }
def imapNoneRow : OpenClaim := { program := "ytljmaicobafgkaa", sum := "b82fe3561c98cec8cbd619c902b9f39679b87fce74b2e2744a67c6b324df68c3", func := "hurdle/hurdlelaw25.ImapNone", spec := "imapNone", unfollowed := true, recurses := true, plainKeys := false, apart := false }
def ImapNoneSaid : Prop := imapNoneRow.holds Try.pinned (OpenSpec.ofChange imapNoneSpec)

/-- ITS FALSE NEIGHBOUR: 'it returns false'. Refute it at one input. -/
def imapNoneWrong : ChangeSpec := { name := "imapNone", fn := fun _ => fun
  | [d] => { results := [.lit (.bool false)], args := [d] }
  | _ => none }
def ImapNoneWrongFalsely : Prop := imapNoneRow.holds Try.pinned (OpenSpec.ofChange imapNoneWrong)

/-- 'hurdlelaw12.FramesEncodes': WHATEVER THE INPUT: true; the input reads as it did. -/
def framesEncodesSpec : ChangeSpec := { name := "framesEncodes", fn := fun _ => fun
  | [d] => { results := [.lit (.bool true)], args := [d] }
  | _ => none }
def framesEncodesRow : OpenClaim := { program := "ytljmaicobafgkaa", sum := "b82fe3561c98cec8cbd619c902b9f39679b87fce74b2e2744a67c6b324df68c3", func := "hurdle/hurdlelaw12.FramesEncodes", spec := "framesEncodes", unfollowed := true, recurses := true, plainKeys := false, apart := false }
def FramesEncodesSaid : Prop := framesEncodesRow.holds Try.pinned (OpenSpec.ofChange framesEncodesSpec)

/-- ITS FALSE NEIGHBOUR: 'it returns false'. Refute it at one input. -/
def framesEncodesWrong : ChangeSpec := { name := "framesEncodes", fn := fun _ => fun
  | [d] => { results := [.lit (.bool false)], args := [d] }
  | _ => none }
def FramesEncodesWrongFalsely : Prop := framesEncodesRow.holds Try.pinned (OpenSpec.ofChange framesEncodesWrong)

/-- 'hurdlelaw12.FramesDecodes': WHATEVER THE INPUT: true; the input reads as it did. -/
def framesDecodesSpec : ChangeSpec := { name := "framesDecodes", fn := fun _ => fun
  | [d] => { results := [.lit (.bool true)], args := [d] }
  | _ => none }
def framesDecodesRow : OpenClaim := { program := "ytljmaicobafgkaa", sum := "b82fe3561c98cec8cbd619c902b9f39679b87fce74b2e2744a67c6b324df68c3", func := "hurdle/hurdlelaw12.FramesDecodes", spec := "framesDecodes", unfollowed := true, recurses := true, plainKeys := false, apart := false }
def FramesDecodesSaid : Prop := framesDecodesRow.holds Try.pinned (OpenSpec.ofChange framesDecodesSpec)

/-- ITS FALSE NEIGHBOUR: 'it returns false'. Refute it at one input. -/
def framesDecodesWrong : ChangeSpec := { name := "framesDecodes", fn := fun _ => fun
  | [d] => { results := [.lit (.bool false)], args := [d] }
  | _ => none }
def FramesDecodesWrongFalsely : Prop := framesDecodesRow.holds Try.pinned (OpenSpec.ofChange framesDecodesWrong)

/-- 'hurdlelaw12.FramesBack': WHATEVER THE INPUT: true; the input reads as it did. -/
def framesBackSpec : ChangeSpec := { name := "framesBack", fn := fun _ => fun
  | [d1, d2] => { results := [.lit (.bool true)], args := [d1, d2] }
  | _ => none }
def framesBackRow : OpenClaim := { program := "ytljmaicobafgkaa", sum := "b82fe3561c98cec8cbd619c902b9f39679b87fce74b2e2744a67c6b324df68c3", func := "hurdle/hurdlelaw12.FramesBack", spec := "framesBack", unfollowed := true, recurses := true, plainKeys := false, apart := false }
def FramesBackSaid : Prop := framesBackRow.holds Try.pinned (OpenSpec.ofChange framesBackSpec)

/-- ITS FALSE NEIGHBOUR: 'it returns false'. Refute it at one input. -/
def framesBackWrong : ChangeSpec := { name := "framesBack", fn := fun _ => fun
  | [d1, d2] => { results := [.lit (.bool false)], args := [d1, d2] }
  | _ => none }
def FramesBackWrongFalsely : Prop := framesBackRow.holds Try.pinned (OpenSpec.ofChange framesBackWrong)

/-- 'hurdlelaw12.FramesByte': WHATEVER THE INPUT: true; the input reads as it did. -/
def framesByteSpec : ChangeSpec := { name := "framesByte", fn := fun _ => fun
  | [d1, d2, d3] => { results := [.lit (.bool true)], args := [d1, d2, d3] }
  | _ => none }
def framesByteRow : OpenClaim := { program := "ytljmaicobafgkaa", sum := "b82fe3561c98cec8cbd619c902b9f39679b87fce74b2e2744a67c6b324df68c3", func := "hurdle/hurdlelaw12.FramesByte", spec := "framesByte", unfollowed := true, recurses := true, plainKeys := false, apart := false }
def FramesByteSaid : Prop := framesByteRow.holds Try.pinned (OpenSpec.ofChange framesByteSpec)

/-- ITS FALSE NEIGHBOUR: 'it returns false'. Refute it at one input. -/
def framesByteWrong : ChangeSpec := { name := "framesByte", fn := fun _ => fun
  | [d1, d2, d3] => { results := [.lit (.bool false)], args := [d1, d2, d3] }
  | _ => none }
def FramesByteWrongFalsely : Prop := framesByteRow.holds Try.pinned (OpenSpec.ofChange framesByteWrong)

/-- 'hurdlelaw31.SegmentAdds': WHATEVER THE INPUT: true; the input reads as it did. -/
def segmentAddsSpec : ChangeSpec := { name := "segmentAdds", fn := fun _ => fun
  | [d1, d2] => { results := [.lit (.bool true)], args := [d1, d2] }
  | _ => none }
def segmentAddsRow : OpenClaim := { program := "ytljmaicobafgkaa", sum := "b82fe3561c98cec8cbd619c902b9f39679b87fce74b2e2744a67c6b324df68c3", func := "hurdle/hurdlelaw31.SegmentAdds", spec := "segmentAdds", unfollowed := true, recurses := true, plainKeys := false, apart := false }
def SegmentAddsSaid : Prop := segmentAddsRow.holds Try.pinned (OpenSpec.ofChange segmentAddsSpec)

/-- ITS FALSE NEIGHBOUR: 'it returns false'. Refute it at one input. -/
def segmentAddsWrong : ChangeSpec := { name := "segmentAdds", fn := fun _ => fun
  | [d1, d2] => { results := [.lit (.bool false)], args := [d1, d2] }
  | _ => none }
def SegmentAddsWrongFalsely : Prop := segmentAddsRow.holds Try.pinned (OpenSpec.ofChange segmentAddsWrong)

/-- 'hurdlelaw31.SegmentBack': WHATEVER THE INPUT: true; the input reads as it did. -/
def segmentBackSpec : ChangeSpec := { name := "segmentBack", fn := fun _ => fun
  | [d1, d2] => { results := [.lit (.bool true)], args := [d1, d2] }
  | _ => none }
def segmentBackRow : OpenClaim := { program := "ytljmaicobafgkaa", sum := "b82fe3561c98cec8cbd619c902b9f39679b87fce74b2e2744a67c6b324df68c3", func := "hurdle/hurdlelaw31.SegmentBack", spec := "segmentBack", unfollowed := true, recurses := true, plainKeys := false, apart := false }
def SegmentBackSaid : Prop := segmentBackRow.holds Try.pinned (OpenSpec.ofChange segmentBackSpec)

/-- ITS FALSE NEIGHBOUR: 'it returns false'. Refute it at one input. -/
def segmentBackWrong : ChangeSpec := { name := "segmentBack", fn := fun _ => fun
  | [d1, d2] => { results := [.lit (.bool false)], args := [d1, d2] }
  | _ => none }
def SegmentBackWrongFalsely : Prop := segmentBackRow.holds Try.pinned (OpenSpec.ofChange segmentBackWrong)

/-- 'hurdlelaw31.SegmentByte': WHATEVER THE INPUT: true; the input reads as it did. -/
def segmentByteSpec : ChangeSpec := { name := "segmentByte", fn := fun _ => fun
  | [d1, d2, d3] => { results := [.lit (.bool true)], args := [d1, d2, d3] }
  | _ => none }
def segmentByteRow : OpenClaim := { program := "ytljmaicobafgkaa", sum := "b82fe3561c98cec8cbd619c902b9f39679b87fce74b2e2744a67c6b324df68c3", func := "hurdle/hurdlelaw31.SegmentByte", spec := "segmentByte", unfollowed := true, recurses := true, plainKeys := false, apart := false }
def SegmentByteSaid : Prop := segmentByteRow.holds Try.pinned (OpenSpec.ofChange segmentByteSpec)

/-- ITS FALSE NEIGHBOUR: 'it returns false'. Refute it at one input. -/
def segmentByteWrong : ChangeSpec := { name := "segmentByte", fn := fun _ => fun
  | [d1, d2, d3] => { results := [.lit (.bool false)], args := [d1, d2, d3] }
  | _ => none }
def SegmentByteWrongFalsely : Prop := segmentByteRow.holds Try.pinned (OpenSpec.ofChange segmentByteWrong)

/-- 'hurdlelaw31.SegmentNone': WHATEVER THE INPUT: true; the input reads as it did. -/
def segmentNoneSpec : ChangeSpec := { name := "segmentNone", fn := fun _ => fun
  | [d] => { results := [.lit (.bool true)], args := [d] }
  | _ => none }
def segmentNoneRow : OpenClaim := { program := "ytljmaicobafgkaa", sum := "b82fe3561c98cec8cbd619c902b9f39679b87fce74b2e2744a67c6b324df68c3", func := "hurdle/hurdlelaw31.SegmentNone", spec := "segmentNone", unfollowed := true, recurses := true, plainKeys := false, apart := false }
def SegmentNoneSaid : Prop := segmentNoneRow.holds Try.pinned (OpenSpec.ofChange segmentNoneSpec)

/-- ITS FALSE NEIGHBOUR: 'it returns false'. Refute it at one input. -/
def segmentNoneWrong : ChangeSpec := { name := "segmentNone", fn := fun _ => fun
  | [d] => { results := [.lit (.bool false)], args := [d] }
  | _ => none }
def SegmentNoneWrongFalsely : Prop := segmentNoneRow.holds Try.pinned (OpenSpec.ofChange segmentNoneWrong)

/-- 'hurdlelaw13.NetTrue': WHATEVER THE INPUT: true; the input reads as it did. -/
def netTrueSpec : ChangeSpec := { name := "netTrue", fn := fun _ => fun
  | [d1, d2] => { results := [.lit (.bool true)], args := [d1, d2] }
  | _ => none }
def netTrueRow : OpenClaim := { program := "ytljmaicobafgkaa", sum := "b82fe3561c98cec8cbd619c902b9f39679b87fce74b2e2744a67c6b324df68c3", func := "hurdle/hurdlelaw13.NetTrue", spec := "netTrue", unfollowed := true, recurses := true, plainKeys := false, apart := false }
def NetTrueSaid : Prop := netTrueRow.holds Try.pinned (OpenSpec.ofChange netTrueSpec)

/-- ITS FALSE NEIGHBOUR: 'it returns false'. Refute it at one input. -/
def netTrueWrong : ChangeSpec := { name := "netTrue", fn := fun _ => fun
  | [d1, d2] => { results := [.lit (.bool false)], args := [d1, d2] }
  | _ => none }
def NetTrueWrongFalsely : Prop := netTrueRow.holds Try.pinned (OpenSpec.ofChange netTrueWrong)

/-- 'hurdlelaw13.NetPlays': WHATEVER THE INPUT: true; the input reads as it did. -/
def netPlaysSpec : ChangeSpec := { name := "netPlays", fn := fun _ => fun
  | [d1, d2] => { results := [.lit (.bool true)], args := [d1, d2] }
  | _ => none }
def netPlaysRow : OpenClaim := { program := "ytljmaicobafgkaa", sum := "b82fe3561c98cec8cbd619c902b9f39679b87fce74b2e2744a67c6b324df68c3", func := "hurdle/hurdlelaw13.NetPlays", spec := "netPlays", unfollowed := true, recurses := true, plainKeys := false, apart := false }
def NetPlaysSaid : Prop := netPlaysRow.holds Try.pinned (OpenSpec.ofChange netPlaysSpec)

/-- ITS FALSE NEIGHBOUR: 'it returns false'. Refute it at one input. -/
def netPlaysWrong : ChangeSpec := { name := "netPlays", fn := fun _ => fun
  | [d1, d2] => { results := [.lit (.bool false)], args := [d1, d2] }
  | _ => none }
def NetPlaysWrongFalsely : Prop := netPlaysRow.holds Try.pinned (OpenSpec.ofChange netPlaysWrong)

/-- 'hurdlelaw13.NetByte': WHATEVER THE INPUT: true; the input reads as it did. -/
def netByteSpec : ChangeSpec := { name := "netByte", fn := fun _ => fun
  | [d1, d2, d3] => { results := [.lit (.bool true)], args := [d1, d2, d3] }
  | _ => none }
def netByteRow : OpenClaim := { program := "ytljmaicobafgkaa", sum := "b82fe3561c98cec8cbd619c902b9f39679b87fce74b2e2744a67c6b324df68c3", func := "hurdle/hurdlelaw13.NetByte", spec := "netByte", unfollowed := true, recurses := true, plainKeys := false, apart := false }
def NetByteSaid : Prop := netByteRow.holds Try.pinned (OpenSpec.ofChange netByteSpec)

/-- ITS FALSE NEIGHBOUR: 'it returns false'. Refute it at one input. -/
def netByteWrong : ChangeSpec := { name := "netByte", fn := fun _ => fun
  | [d1, d2, d3] => { results := [.lit (.bool false)], args := [d1, d2, d3] }
  | _ => none }
def NetByteWrongFalsely : Prop := netByteRow.holds Try.pinned (OpenSpec.ofChange netByteWrong)

/-- 'hurdlelaw13.NetNone': WHATEVER THE INPUT: true; the input reads as it did. -/
def netNoneSpec : ChangeSpec := { name := "netNone", fn := fun _ => fun
  | [d] => { results := [.lit (.bool true)], args := [d] }
  | _ => none }
def netNoneRow : OpenClaim := { program := "ytljmaicobafgkaa", sum := "b82fe3561c98cec8cbd619c902b9f39679b87fce74b2e2744a67c6b324df68c3", func := "hurdle/hurdlelaw13.NetNone", spec := "netNone", unfollowed := true, recurses := true, plainKeys := false, apart := false }
def NetNoneSaid : Prop := netNoneRow.holds Try.pinned (OpenSpec.ofChange netNoneSpec)

/-- ITS FALSE NEIGHBOUR: 'it returns false'. Refute it at one input. -/
def netNoneWrong : ChangeSpec := { name := "netNone", fn := fun _ => fun
  | [d] => { results := [.lit (.bool false)], args := [d] }
  | _ => none }
def NetNoneWrongFalsely : Prop := netNoneRow.holds Try.pinned (OpenSpec.ofChange netNoneWrong)

/-- 'hurdlelaw41.CkptParts': WHATEVER THE INPUT: true; the input reads as it did. -/
def ckptPartsSpec : ChangeSpec := { name := "ckptParts", fn := fun _ => fun
  | [d1, d2] => { results := [.lit (.bool true)], args := [d1, d2] }
  | _ => none }
def ckptPartsRow : OpenClaim := { program := "ytljmaicobafgkaa", sum := "b82fe3561c98cec8cbd619c902b9f39679b87fce74b2e2744a67c6b324df68c3", func := "hurdle/hurdlelaw41.CkptParts", spec := "ckptParts", unfollowed := true, recurses := true, plainKeys := false, apart := false }
def CkptPartsSaid : Prop := ckptPartsRow.holds Try.pinned (OpenSpec.ofChange ckptPartsSpec)

/-- ITS FALSE NEIGHBOUR: 'it returns false'. Refute it at one input. -/
def ckptPartsWrong : ChangeSpec := { name := "ckptParts", fn := fun _ => fun
  | [d1, d2] => { results := [.lit (.bool false)], args := [d1, d2] }
  | _ => none }
def CkptPartsWrongFalsely : Prop := ckptPartsRow.holds Try.pinned (OpenSpec.ofChange ckptPartsWrong)

/-- 'hurdlelaw41.CkptOpens': WHATEVER THE INPUT: true; the input reads as it did. -/
def ckptOpensSpec : ChangeSpec := { name := "ckptOpens", fn := fun _ => fun
  | [d] => { results := [.lit (.bool true)], args := [d] }
  | _ => none }
def ckptOpensRow : OpenClaim := { program := "ytljmaicobafgkaa", sum := "b82fe3561c98cec8cbd619c902b9f39679b87fce74b2e2744a67c6b324df68c3", func := "hurdle/hurdlelaw41.CkptOpens", spec := "ckptOpens", unfollowed := true, recurses := true, plainKeys := false, apart := false }
def CkptOpensSaid : Prop := ckptOpensRow.holds Try.pinned (OpenSpec.ofChange ckptOpensSpec)

/-- ITS FALSE NEIGHBOUR: 'it returns false'. Refute it at one input. -/
def ckptOpensWrong : ChangeSpec := { name := "ckptOpens", fn := fun _ => fun
  | [d] => { results := [.lit (.bool false)], args := [d] }
  | _ => none }
def CkptOpensWrongFalsely : Prop := ckptOpensRow.holds Try.pinned (OpenSpec.ofChange ckptOpensWrong)

/-- 'hurdlelaw41.CkptBack': WHATEVER THE INPUT: true; the input reads as it did. -/
def ckptBackSpec : ChangeSpec := { name := "ckptBack", fn := fun _ => fun
  | [d1, d2, d3] => { results := [.lit (.bool true)], args := [d1, d2, d3] }
  | _ => none }
def ckptBackRow : OpenClaim := { program := "ytljmaicobafgkaa", sum := "b82fe3561c98cec8cbd619c902b9f39679b87fce74b2e2744a67c6b324df68c3", func := "hurdle/hurdlelaw41.CkptBack", spec := "ckptBack", unfollowed := true, recurses := true, plainKeys := false, apart := false }
def CkptBackSaid : Prop := ckptBackRow.holds Try.pinned (OpenSpec.ofChange ckptBackSpec)

/-- ITS FALSE NEIGHBOUR: 'it returns false'. Refute it at one input. -/
def ckptBackWrong : ChangeSpec := { name := "ckptBack", fn := fun _ => fun
  | [d1, d2, d3] => { results := [.lit (.bool false)], args := [d1, d2, d3] }
  | _ => none }
def CkptBackWrongFalsely : Prop := ckptBackRow.holds Try.pinned (OpenSpec.ofChange ckptBackWrong)

/-- 'hurdlelaw10.SuperPacks': WHATEVER THE INPUT: true; the input reads as it did. -/
def superPacksSpec : ChangeSpec := { name := "superPacks", fn := fun _ => fun
  | [d1, d2] => { results := [.lit (.bool true)], args := [d1, d2] }
  | _ => none }
def superPacksRow : OpenClaim := { program := "ytljmaicobafgkaa", sum := "b82fe3561c98cec8cbd619c902b9f39679b87fce74b2e2744a67c6b324df68c3", func := "hurdle/hurdlelaw10.SuperPacks", spec := "superPacks", inPlace := ["internal/abi.NoEscape", "internal/bytealg.MakeNoZero"], plainKeys := false, apart := false }
def SuperPacksSaid : Prop := superPacksRow.holds Try.pinned (OpenSpec.ofChange superPacksSpec)

/-- ITS FALSE NEIGHBOUR: 'it returns false'. Refute it at one input. -/
def superPacksWrong : ChangeSpec := { name := "superPacks", fn := fun _ => fun
  | [d1, d2] => { results := [.lit (.bool false)], args := [d1, d2] }
  | _ => none }
def SuperPacksWrongFalsely : Prop := superPacksRow.holds Try.pinned (OpenSpec.ofChange superPacksWrong)

/-- 'hurdlelaw10.SuperLast': WHATEVER THE INPUT: true; the input reads as it did. -/
def superLastSpec : ChangeSpec := { name := "superLast", fn := fun _ => fun
  | [d1, d2] => { results := [.lit (.bool true)], args := [d1, d2] }
  | _ => none }
def superLastRow : OpenClaim := { program := "ytljmaicobafgkaa", sum := "b82fe3561c98cec8cbd619c902b9f39679b87fce74b2e2744a67c6b324df68c3", func := "hurdle/hurdlelaw10.SuperLast", spec := "superLast", inPlace := ["internal/abi.NoEscape", "internal/bytealg.MakeNoZero"], recurses := true, plainKeys := false, apart := false }
def SuperLastSaid : Prop := superLastRow.holds Try.pinned (OpenSpec.ofChange superLastSpec)

/-- ITS FALSE NEIGHBOUR: 'it returns false'. Refute it at one input. -/
def superLastWrong : ChangeSpec := { name := "superLast", fn := fun _ => fun
  | [d1, d2] => { results := [.lit (.bool false)], args := [d1, d2] }
  | _ => none }
def SuperLastWrongFalsely : Prop := superLastRow.holds Try.pinned (OpenSpec.ofChange superLastWrong)

/-- 'hurdlelaw10.SuperCut': WHATEVER THE INPUT: true; the input reads as it did. -/
def superCutSpec : ChangeSpec := { name := "superCut", fn := fun _ => fun
  | [d1, d2, d3] => { results := [.lit (.bool true)], args := [d1, d2, d3] }
  | _ => none }
def superCutRow : OpenClaim := { program := "ytljmaicobafgkaa", sum := "b82fe3561c98cec8cbd619c902b9f39679b87fce74b2e2744a67c6b324df68c3", func := "hurdle/hurdlelaw10.SuperCut", spec := "superCut", inPlace := ["internal/abi.NoEscape", "internal/bytealg.MakeNoZero"], recurses := true, plainKeys := false, apart := false }
def SuperCutSaid : Prop := superCutRow.holds Try.pinned (OpenSpec.ofChange superCutSpec)

/-- ITS FALSE NEIGHBOUR: 'it returns false'. Refute it at one input. -/
def superCutWrong : ChangeSpec := { name := "superCut", fn := fun _ => fun
  | [d1, d2, d3] => { results := [.lit (.bool false)], args := [d1, d2, d3] }
  | _ => none }
def SuperCutWrongFalsely : Prop := superCutRow.holds Try.pinned (OpenSpec.ofChange superCutWrong)

/- THE SECOND FORM. 'bulk': how many values and letters a reading holds, each counted each time it is reached (what is shared counts as often as it is met; a slice's spare places count too). A statement '..UptoSaid' is the law's where the arguments, and the package variables that the reading takes, are together of bulk at most 1048576: NARROWER than '..Said'. Prove '..Said' where nothing that the law and all that it calls make is longer than what came in: it says more and counts as full. Else prove '..UptoSaid'. A law counts once. -/
mutual
def uptoBulk {H : Type} : DataW H → Nat
  | .lit (.string bytes) => bytes.length + 1
  | .lit _ => 1
  | .nil => 1
  | .ptr d => uptoBulk d + 1
  | .slice elems spare => uptoBulkAll elems + uptoBulkAll spare + 1
  | .agg parts => uptoBulkAll parts + 1
  | .iface _ d => uptoBulk d + 1
  | .map entries => uptoBulkEntries entries + 1
  | .held _ => 1
def uptoBulkAll {H : Type} : List (DataW H) → Nat
  | [] => 0
  | d :: r => uptoBulk d + uptoBulkAll r
def uptoBulkEntries {H : Type} : List (Lit × DataW H) → Nat
  | [] => 0
  | x :: r => uptoBulkEntry x + uptoBulkEntries r
def uptoBulkEntry {H : Type} : Lit × DataW H → Nat
  | (.string bytes, d) => bytes.length + uptoBulk d + 1
  | (_, d) => uptoBulk d + 1
 end
def uptoSmall : (H : Type) → List (DataW H) → Bool := fun _ ds => decide (uptoBulkAll ds ≤ 1048576)
def OpenSpec.upto (s : _root_.Go.ChangeSpec) : _root_.Go.OpenSpec := { _root_.Go.OpenSpec.ofChange s with cond := some uptoSmall }

/-- 'hurdlelaw25.ImapPlays', WHERE WHAT IT READS IS OF BULK AT MOST 1048576: true; the input reads as it did. -/
def imapPlaysUptoRow : OpenClaim := { program := "ytljmaicobafgkaa", sum := "b82fe3561c98cec8cbd619c902b9f39679b87fce74b2e2744a67c6b324df68c3", func := "hurdle/hurdlelaw25.ImapPlays", spec := "imapPlays", unfollowed := true, recurses := true, plainKeys := false, apart := false, narrowed := true }
def ImapPlaysUptoSaid : Prop := imapPlaysUptoRow.holds Try.pinned (OpenSpec.upto imapPlaysSpec)

/-- 'hurdlelaw25.ImapOnce', WHERE WHAT IT READS IS OF BULK AT MOST 1048576: true; the input reads as it did. -/
def imapOnceUptoRow : OpenClaim := { program := "ytljmaicobafgkaa", sum := "b82fe3561c98cec8cbd619c902b9f39679b87fce74b2e2744a67c6b324df68c3", func := "hurdle/hurdlelaw25.ImapOnce", spec := "imapOnce", unfollowed := true, recurses := true, plainKeys := false, apart := false, narrowed := true }
def ImapOnceUptoSaid : Prop := imapOnceUptoRow.holds Try.pinned (OpenSpec.upto imapOnceSpec)

/-- 'hurdlelaw25.ImapBack', WHERE WHAT IT READS IS OF BULK AT MOST 1048576: true; the input reads as it did. -/
def imapBackUptoRow : OpenClaim := { program := "ytljmaicobafgkaa", sum := "b82fe3561c98cec8cbd619c902b9f39679b87fce74b2e2744a67c6b324df68c3", func := "hurdle/hurdlelaw25.ImapBack", spec := "imapBack", unfollowed := true, recurses := true, plainKeys := false, apart := false, narrowed := true }
def ImapBackUptoSaid : Prop := imapBackUptoRow.holds Try.pinned (OpenSpec.upto imapBackSpec)

/-- 'hurdlelaw25.ImapNone', WHERE WHAT IT READS IS OF BULK AT MOST 1048576: true; the input reads as it did. -/
def imapNoneUptoRow : OpenClaim := { program := "ytljmaicobafgkaa", sum := "b82fe3561c98cec8cbd619c902b9f39679b87fce74b2e2744a67c6b324df68c3", func := "hurdle/hurdlelaw25.ImapNone", spec := "imapNone", unfollowed := true, recurses := true, plainKeys := false, apart := false, narrowed := true }
def ImapNoneUptoSaid : Prop := imapNoneUptoRow.holds Try.pinned (OpenSpec.upto imapNoneSpec)

/-- 'hurdlelaw12.FramesEncodes', WHERE WHAT IT READS IS OF BULK AT MOST 1048576: true; the input reads as it did. -/
def framesEncodesUptoRow : OpenClaim := { program := "ytljmaicobafgkaa", sum := "b82fe3561c98cec8cbd619c902b9f39679b87fce74b2e2744a67c6b324df68c3", func := "hurdle/hurdlelaw12.FramesEncodes", spec := "framesEncodes", unfollowed := true, recurses := true, plainKeys := false, apart := false, narrowed := true }
def FramesEncodesUptoSaid : Prop := framesEncodesUptoRow.holds Try.pinned (OpenSpec.upto framesEncodesSpec)

/-- 'hurdlelaw12.FramesDecodes', WHERE WHAT IT READS IS OF BULK AT MOST 1048576: true; the input reads as it did. -/
def framesDecodesUptoRow : OpenClaim := { program := "ytljmaicobafgkaa", sum := "b82fe3561c98cec8cbd619c902b9f39679b87fce74b2e2744a67c6b324df68c3", func := "hurdle/hurdlelaw12.FramesDecodes", spec := "framesDecodes", unfollowed := true, recurses := true, plainKeys := false, apart := false, narrowed := true }
def FramesDecodesUptoSaid : Prop := framesDecodesUptoRow.holds Try.pinned (OpenSpec.upto framesDecodesSpec)

/-- 'hurdlelaw12.FramesBack', WHERE WHAT IT READS IS OF BULK AT MOST 1048576: true; the input reads as it did. -/
def framesBackUptoRow : OpenClaim := { program := "ytljmaicobafgkaa", sum := "b82fe3561c98cec8cbd619c902b9f39679b87fce74b2e2744a67c6b324df68c3", func := "hurdle/hurdlelaw12.FramesBack", spec := "framesBack", unfollowed := true, recurses := true, plainKeys := false, apart := false, narrowed := true }
def FramesBackUptoSaid : Prop := framesBackUptoRow.holds Try.pinned (OpenSpec.upto framesBackSpec)

/-- 'hurdlelaw12.FramesByte', WHERE WHAT IT READS IS OF BULK AT MOST 1048576: true; the input reads as it did. -/
def framesByteUptoRow : OpenClaim := { program := "ytljmaicobafgkaa", sum := "b82fe3561c98cec8cbd619c902b9f39679b87fce74b2e2744a67c6b324df68c3", func := "hurdle/hurdlelaw12.FramesByte", spec := "framesByte", unfollowed := true, recurses := true, plainKeys := false, apart := false, narrowed := true }
def FramesByteUptoSaid : Prop := framesByteUptoRow.holds Try.pinned (OpenSpec.upto framesByteSpec)

/-- 'hurdlelaw31.SegmentAdds', WHERE WHAT IT READS IS OF BULK AT MOST 1048576: true; the input reads as it did. -/
def segmentAddsUptoRow : OpenClaim := { program := "ytljmaicobafgkaa", sum := "b82fe3561c98cec8cbd619c902b9f39679b87fce74b2e2744a67c6b324df68c3", func := "hurdle/hurdlelaw31.SegmentAdds", spec := "segmentAdds", unfollowed := true, recurses := true, plainKeys := false, apart := false, narrowed := true }
def SegmentAddsUptoSaid : Prop := segmentAddsUptoRow.holds Try.pinned (OpenSpec.upto segmentAddsSpec)

/-- 'hurdlelaw31.SegmentBack', WHERE WHAT IT READS IS OF BULK AT MOST 1048576: true; the input reads as it did. -/
def segmentBackUptoRow : OpenClaim := { program := "ytljmaicobafgkaa", sum := "b82fe3561c98cec8cbd619c902b9f39679b87fce74b2e2744a67c6b324df68c3", func := "hurdle/hurdlelaw31.SegmentBack", spec := "segmentBack", unfollowed := true, recurses := true, plainKeys := false, apart := false, narrowed := true }
def SegmentBackUptoSaid : Prop := segmentBackUptoRow.holds Try.pinned (OpenSpec.upto segmentBackSpec)

/-- 'hurdlelaw31.SegmentByte', WHERE WHAT IT READS IS OF BULK AT MOST 1048576: true; the input reads as it did. -/
def segmentByteUptoRow : OpenClaim := { program := "ytljmaicobafgkaa", sum := "b82fe3561c98cec8cbd619c902b9f39679b87fce74b2e2744a67c6b324df68c3", func := "hurdle/hurdlelaw31.SegmentByte", spec := "segmentByte", unfollowed := true, recurses := true, plainKeys := false, apart := false, narrowed := true }
def SegmentByteUptoSaid : Prop := segmentByteUptoRow.holds Try.pinned (OpenSpec.upto segmentByteSpec)

/-- 'hurdlelaw31.SegmentNone', WHERE WHAT IT READS IS OF BULK AT MOST 1048576: true; the input reads as it did. -/
def segmentNoneUptoRow : OpenClaim := { program := "ytljmaicobafgkaa", sum := "b82fe3561c98cec8cbd619c902b9f39679b87fce74b2e2744a67c6b324df68c3", func := "hurdle/hurdlelaw31.SegmentNone", spec := "segmentNone", unfollowed := true, recurses := true, plainKeys := false, apart := false, narrowed := true }
def SegmentNoneUptoSaid : Prop := segmentNoneUptoRow.holds Try.pinned (OpenSpec.upto segmentNoneSpec)

/-- 'hurdlelaw13.NetTrue', WHERE WHAT IT READS IS OF BULK AT MOST 1048576: true; the input reads as it did. -/
def netTrueUptoRow : OpenClaim := { program := "ytljmaicobafgkaa", sum := "b82fe3561c98cec8cbd619c902b9f39679b87fce74b2e2744a67c6b324df68c3", func := "hurdle/hurdlelaw13.NetTrue", spec := "netTrue", unfollowed := true, recurses := true, plainKeys := false, apart := false, narrowed := true }
def NetTrueUptoSaid : Prop := netTrueUptoRow.holds Try.pinned (OpenSpec.upto netTrueSpec)

/-- 'hurdlelaw13.NetPlays', WHERE WHAT IT READS IS OF BULK AT MOST 1048576: true; the input reads as it did. -/
def netPlaysUptoRow : OpenClaim := { program := "ytljmaicobafgkaa", sum := "b82fe3561c98cec8cbd619c902b9f39679b87fce74b2e2744a67c6b324df68c3", func := "hurdle/hurdlelaw13.NetPlays", spec := "netPlays", unfollowed := true, recurses := true, plainKeys := false, apart := false, narrowed := true }
def NetPlaysUptoSaid : Prop := netPlaysUptoRow.holds Try.pinned (OpenSpec.upto netPlaysSpec)

/-- 'hurdlelaw13.NetByte', WHERE WHAT IT READS IS OF BULK AT MOST 1048576: true; the input reads as it did. -/
def netByteUptoRow : OpenClaim := { program := "ytljmaicobafgkaa", sum := "b82fe3561c98cec8cbd619c902b9f39679b87fce74b2e2744a67c6b324df68c3", func := "hurdle/hurdlelaw13.NetByte", spec := "netByte", unfollowed := true, recurses := true, plainKeys := false, apart := false, narrowed := true }
def NetByteUptoSaid : Prop := netByteUptoRow.holds Try.pinned (OpenSpec.upto netByteSpec)

/-- 'hurdlelaw13.NetNone', WHERE WHAT IT READS IS OF BULK AT MOST 1048576: true; the input reads as it did. -/
def netNoneUptoRow : OpenClaim := { program := "ytljmaicobafgkaa", sum := "b82fe3561c98cec8cbd619c902b9f39679b87fce74b2e2744a67c6b324df68c3", func := "hurdle/hurdlelaw13.NetNone", spec := "netNone", unfollowed := true, recurses := true, plainKeys := false, apart := false, narrowed := true }
def NetNoneUptoSaid : Prop := netNoneUptoRow.holds Try.pinned (OpenSpec.upto netNoneSpec)

/-- 'hurdlelaw41.CkptParts', WHERE WHAT IT READS IS OF BULK AT MOST 1048576: true; the input reads as it did. -/
def ckptPartsUptoRow : OpenClaim := { program := "ytljmaicobafgkaa", sum := "b82fe3561c98cec8cbd619c902b9f39679b87fce74b2e2744a67c6b324df68c3", func := "hurdle/hurdlelaw41.CkptParts", spec := "ckptParts", unfollowed := true, recurses := true, plainKeys := false, apart := false, narrowed := true }
def CkptPartsUptoSaid : Prop := ckptPartsUptoRow.holds Try.pinned (OpenSpec.upto ckptPartsSpec)

/-- 'hurdlelaw41.CkptOpens', WHERE WHAT IT READS IS OF BULK AT MOST 1048576: true; the input reads as it did. -/
def ckptOpensUptoRow : OpenClaim := { program := "ytljmaicobafgkaa", sum := "b82fe3561c98cec8cbd619c902b9f39679b87fce74b2e2744a67c6b324df68c3", func := "hurdle/hurdlelaw41.CkptOpens", spec := "ckptOpens", unfollowed := true, recurses := true, plainKeys := false, apart := false, narrowed := true }
def CkptOpensUptoSaid : Prop := ckptOpensUptoRow.holds Try.pinned (OpenSpec.upto ckptOpensSpec)

/-- 'hurdlelaw41.CkptBack', WHERE WHAT IT READS IS OF BULK AT MOST 1048576: true; the input reads as it did. -/
def ckptBackUptoRow : OpenClaim := { program := "ytljmaicobafgkaa", sum := "b82fe3561c98cec8cbd619c902b9f39679b87fce74b2e2744a67c6b324df68c3", func := "hurdle/hurdlelaw41.CkptBack", spec := "ckptBack", unfollowed := true, recurses := true, plainKeys := false, apart := false, narrowed := true }
def CkptBackUptoSaid : Prop := ckptBackUptoRow.holds Try.pinned (OpenSpec.upto ckptBackSpec)

/-- 'hurdlelaw10.SuperPacks', WHERE WHAT IT READS IS OF BULK AT MOST 1048576: true; the input reads as it did. -/
def superPacksUptoRow : OpenClaim := { program := "ytljmaicobafgkaa", sum := "b82fe3561c98cec8cbd619c902b9f39679b87fce74b2e2744a67c6b324df68c3", func := "hurdle/hurdlelaw10.SuperPacks", spec := "superPacks", inPlace := ["internal/abi.NoEscape", "internal/bytealg.MakeNoZero"], plainKeys := false, apart := false, narrowed := true }
def SuperPacksUptoSaid : Prop := superPacksUptoRow.holds Try.pinned (OpenSpec.upto superPacksSpec)

/-- 'hurdlelaw10.SuperLast', WHERE WHAT IT READS IS OF BULK AT MOST 1048576: true; the input reads as it did. -/
def superLastUptoRow : OpenClaim := { program := "ytljmaicobafgkaa", sum := "b82fe3561c98cec8cbd619c902b9f39679b87fce74b2e2744a67c6b324df68c3", func := "hurdle/hurdlelaw10.SuperLast", spec := "superLast", inPlace := ["internal/abi.NoEscape", "internal/bytealg.MakeNoZero"], recurses := true, plainKeys := false, apart := false, narrowed := true }
def SuperLastUptoSaid : Prop := superLastUptoRow.holds Try.pinned (OpenSpec.upto superLastSpec)

/-- 'hurdlelaw10.SuperCut', WHERE WHAT IT READS IS OF BULK AT MOST 1048576: true; the input reads as it did. -/
def superCutUptoRow : OpenClaim := { program := "ytljmaicobafgkaa", sum := "b82fe3561c98cec8cbd619c902b9f39679b87fce74b2e2744a67c6b324df68c3", func := "hurdle/hurdlelaw10.SuperCut", spec := "superCut", inPlace := ["internal/abi.NoEscape", "internal/bytealg.MakeNoZero"], recurses := true, plainKeys := false, apart := false, narrowed := true }
def SuperCutUptoSaid : Prop := superCutUptoRow.holds Try.pinned (OpenSpec.upto superCutSpec)

end Rows
end Go.Proofs.Ytljmaicobafgkaa
