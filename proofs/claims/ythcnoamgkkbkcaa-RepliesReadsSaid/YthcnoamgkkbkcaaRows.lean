/-
  No cell of these rows narrows 'for every input' (looked for: loops, veiled, ifaces, maps, wideKeys, modest, calm, conditions, laid).
  DERIVED. THE GIVEN ROWS OF THIS SEAT. 9 by the template 'for every input the law returns true; each argument reads behind the call as it read before'; 0 by the template 'total and deterministic' (their statements: YthcnoamgkkbkcaaTotals.lean).
  GIVEN WITH THE SEED: the statements are not yours to turn. If you find one false, say at which input.
  Laid BY PROGRAM, IN A SANDBOX (cutbox-rows.mjs): the forced cells as the released guide's own fill.sh prints them over the translation 94bb0ef931ca3038… (all of the seat's roots in one cut). By AI agents, Wed Nov 11 2026. No macro, syntax, notation, axiom, sorry.
-/
import Derived.Test.YthcnoamgkkbkcaaChecked
import GoSem.Claim
import GoSem.ClaimJoined
import GoSem.ClaimMapViews
import Derived.JoinedTies
import Derived.KernelRfl
namespace Go.Proofs.Ythcnoamgkkbkcaa
/- THE CELL 'sum', in the pinned program and in every row, IS THE sha256 OF THE DUMP (.gsa) THAT YthcnoamgkkbkcaaProg.lean LOADS. Nothing in Lean hashes anything: it is a label: what it is worth is what the hold of that sum in a sandbox is worth. -/
noncomputable def Try.pinned : Pinned := { name := "ythcnoamgkkbkcaa", sum := "94bb0ef931ca3038ffd1cda0258a6a10bf038642a0aaf4123997386d68984d19", checked := Try.checked }
namespace Rows
def none {H : Type} : Left H := { results := [], args := [] }

/-- 'hurdlelaw14.CallsPlays': WHATEVER THE INPUT: true; the input reads as it did. -/
def callsPlaysSpec : ChangeSpec := { name := "callsPlays", fn := fun _ => fun
  | [d1, d2, d3] => { results := [.lit (.bool true)], args := [d1, d2, d3] }
  | _ => none }
def callsPlaysRow : OpenClaim := { program := "ythcnoamgkkbkcaa", sum := "94bb0ef931ca3038ffd1cda0258a6a10bf038642a0aaf4123997386d68984d19", func := "hurdle/hurdlelaw14.CallsPlays", spec := "callsPlays", unfollowed := true, recurses := true, apart := false }
def CallsPlaysSaid : Prop := callsPlaysRow.holds Try.pinned (OpenSpec.ofChange callsPlaysSpec)

/-- ITS FALSE NEIGHBOUR: 'it returns false'. Refute it at one input. -/
def callsPlaysWrong : ChangeSpec := { name := "callsPlays", fn := fun _ => fun
  | [d1, d2, d3] => { results := [.lit (.bool false)], args := [d1, d2, d3] }
  | _ => none }
def CallsPlaysWrongFalsely : Prop := callsPlaysRow.holds Try.pinned (OpenSpec.ofChange callsPlaysWrong)

/-- 'hurdlelaw14.CallsTries': WHATEVER THE INPUT: true; the input reads as it did. -/
def callsTriesSpec : ChangeSpec := { name := "callsTries", fn := fun _ => fun
  | [d1, d2] => { results := [.lit (.bool true)], args := [d1, d2] }
  | _ => none }
def callsTriesRow : OpenClaim := { program := "ythcnoamgkkbkcaa", sum := "94bb0ef931ca3038ffd1cda0258a6a10bf038642a0aaf4123997386d68984d19", func := "hurdle/hurdlelaw14.CallsTries", spec := "callsTries", unfollowed := true, recurses := true, apart := false }
def CallsTriesSaid : Prop := callsTriesRow.holds Try.pinned (OpenSpec.ofChange callsTriesSpec)

/-- ITS FALSE NEIGHBOUR: 'it returns false'. Refute it at one input. -/
def callsTriesWrong : ChangeSpec := { name := "callsTries", fn := fun _ => fun
  | [d1, d2] => { results := [.lit (.bool false)], args := [d1, d2] }
  | _ => none }
def CallsTriesWrongFalsely : Prop := callsTriesRow.holds Try.pinned (OpenSpec.ofChange callsTriesWrong)

/-- 'hurdlelaw14.CallsOnce': WHATEVER THE INPUT: true; the input reads as it did. -/
def callsOnceSpec : ChangeSpec := { name := "callsOnce", fn := fun _ => fun
  | [d] => { results := [.lit (.bool true)], args := [d] }
  | _ => none }
def callsOnceRow : OpenClaim := { program := "ythcnoamgkkbkcaa", sum := "94bb0ef931ca3038ffd1cda0258a6a10bf038642a0aaf4123997386d68984d19", func := "hurdle/hurdlelaw14.CallsOnce", spec := "callsOnce", unfollowed := true, recurses := true, apart := false }
def CallsOnceSaid : Prop := callsOnceRow.holds Try.pinned (OpenSpec.ofChange callsOnceSpec)

/-- ITS FALSE NEIGHBOUR: 'it returns false'. Refute it at one input. -/
def callsOnceWrong : ChangeSpec := { name := "callsOnce", fn := fun _ => fun
  | [d] => { results := [.lit (.bool false)], args := [d] }
  | _ => none }
def CallsOnceWrongFalsely : Prop := callsOnceRow.holds Try.pinned (OpenSpec.ofChange callsOnceWrong)

/-- 'hurdlelaw14.CallsNone': WHATEVER THE INPUT: true; the input reads as it did. -/
def callsNoneSpec : ChangeSpec := { name := "callsNone", fn := fun _ => fun
  | [d] => { results := [.lit (.bool true)], args := [d] }
  | _ => none }
def callsNoneRow : OpenClaim := { program := "ythcnoamgkkbkcaa", sum := "94bb0ef931ca3038ffd1cda0258a6a10bf038642a0aaf4123997386d68984d19", func := "hurdle/hurdlelaw14.CallsNone", spec := "callsNone", unfollowed := true, recurses := true, apart := false }
def CallsNoneSaid : Prop := callsNoneRow.holds Try.pinned (OpenSpec.ofChange callsNoneSpec)

/-- ITS FALSE NEIGHBOUR: 'it returns false'. Refute it at one input. -/
def callsNoneWrong : ChangeSpec := { name := "callsNone", fn := fun _ => fun
  | [d] => { results := [.lit (.bool false)], args := [d] }
  | _ => none }
def CallsNoneWrongFalsely : Prop := callsNoneRow.holds Try.pinned (OpenSpec.ofChange callsNoneWrong)

/-- 'hurdlelaw15.RepliesPlays': WHATEVER THE INPUT: true; the input reads as it did. -/
def repliesPlaysSpec : ChangeSpec := { name := "repliesPlays", fn := fun _ => fun
  | [d1, d2] => { results := [.lit (.bool true)], args := [d1, d2] }
  | _ => none }
def repliesPlaysRow : OpenClaim := { program := "ythcnoamgkkbkcaa", sum := "94bb0ef931ca3038ffd1cda0258a6a10bf038642a0aaf4123997386d68984d19", func := "hurdle/hurdlelaw15.RepliesPlays", spec := "repliesPlays", inPlace := ["slices.overlaps[hurdle/replies.entry]"], unfollowed := true, recurses := true, apart := false }
def RepliesPlaysSaid : Prop := repliesPlaysRow.holds Try.pinned (OpenSpec.ofChange repliesPlaysSpec)

/-- ITS FALSE NEIGHBOUR: 'it returns false'. Refute it at one input. -/
def repliesPlaysWrong : ChangeSpec := { name := "repliesPlays", fn := fun _ => fun
  | [d1, d2] => { results := [.lit (.bool false)], args := [d1, d2] }
  | _ => none }
def RepliesPlaysWrongFalsely : Prop := repliesPlaysRow.holds Try.pinned (OpenSpec.ofChange repliesPlaysWrong)

/-- 'hurdlelaw15.RepliesOnce': WHATEVER THE INPUT: true; the input reads as it did. -/
def repliesOnceSpec : ChangeSpec := { name := "repliesOnce", fn := fun _ => fun
  | [d1, d2] => { results := [.lit (.bool true)], args := [d1, d2] }
  | _ => none }
def repliesOnceRow : OpenClaim := { program := "ythcnoamgkkbkcaa", sum := "94bb0ef931ca3038ffd1cda0258a6a10bf038642a0aaf4123997386d68984d19", func := "hurdle/hurdlelaw15.RepliesOnce", spec := "repliesOnce", inPlace := ["slices.overlaps[hurdle/replies.entry]"], unfollowed := true, recurses := true, apart := false }
def RepliesOnceSaid : Prop := repliesOnceRow.holds Try.pinned (OpenSpec.ofChange repliesOnceSpec)

/-- ITS FALSE NEIGHBOUR: 'it returns false'. Refute it at one input. -/
def repliesOnceWrong : ChangeSpec := { name := "repliesOnce", fn := fun _ => fun
  | [d1, d2] => { results := [.lit (.bool false)], args := [d1, d2] }
  | _ => none }
def RepliesOnceWrongFalsely : Prop := repliesOnceRow.holds Try.pinned (OpenSpec.ofChange repliesOnceWrong)

/-- 'hurdlelaw15.RepliesBack': WHATEVER THE INPUT: true; the input reads as it did. -/
def repliesBackSpec : ChangeSpec := { name := "repliesBack", fn := fun _ => fun
  | [d1, d2] => { results := [.lit (.bool true)], args := [d1, d2] }
  | _ => none }
def repliesBackRow : OpenClaim := { program := "ythcnoamgkkbkcaa", sum := "94bb0ef931ca3038ffd1cda0258a6a10bf038642a0aaf4123997386d68984d19", func := "hurdle/hurdlelaw15.RepliesBack", spec := "repliesBack", inPlace := ["slices.overlaps[hurdle/replies.entry]"], unfollowed := true, recurses := true, apart := false }
def RepliesBackSaid : Prop := repliesBackRow.holds Try.pinned (OpenSpec.ofChange repliesBackSpec)

/-- ITS FALSE NEIGHBOUR: 'it returns false'. Refute it at one input. -/
def repliesBackWrong : ChangeSpec := { name := "repliesBack", fn := fun _ => fun
  | [d1, d2] => { results := [.lit (.bool false)], args := [d1, d2] }
  | _ => none }
def RepliesBackWrongFalsely : Prop := repliesBackRow.holds Try.pinned (OpenSpec.ofChange repliesBackWrong)

/-- 'hurdlelaw15.RepliesReads': WHATEVER THE INPUT: true; the input reads as it did. -/
def repliesReadsSpec : ChangeSpec := { name := "repliesReads", fn := fun _ => fun
  | [d] => { results := [.lit (.bool true)], args := [d] }
  | _ => none }
def repliesReadsRow : OpenClaim := { program := "ythcnoamgkkbkcaa", sum := "94bb0ef931ca3038ffd1cda0258a6a10bf038642a0aaf4123997386d68984d19", func := "hurdle/hurdlelaw15.RepliesReads", spec := "repliesReads", inPlace := ["slices.overlaps[hurdle/replies.entry]"], unfollowed := true, recurses := true, apart := false }
def RepliesReadsSaid : Prop := repliesReadsRow.holds Try.pinned (OpenSpec.ofChange repliesReadsSpec)

/-- ITS FALSE NEIGHBOUR: 'it returns false'. Refute it at one input. -/
def repliesReadsWrong : ChangeSpec := { name := "repliesReads", fn := fun _ => fun
  | [d] => { results := [.lit (.bool false)], args := [d] }
  | _ => none }
def RepliesReadsWrongFalsely : Prop := repliesReadsRow.holds Try.pinned (OpenSpec.ofChange repliesReadsWrong)

/-- 'hurdlelaw15.RepliesNone': WHATEVER THE INPUT: true; the input reads as it did. -/
def repliesNoneSpec : ChangeSpec := { name := "repliesNone", fn := fun _ => fun
  | [d] => { results := [.lit (.bool true)], args := [d] }
  | _ => none }
def repliesNoneRow : OpenClaim := { program := "ythcnoamgkkbkcaa", sum := "94bb0ef931ca3038ffd1cda0258a6a10bf038642a0aaf4123997386d68984d19", func := "hurdle/hurdlelaw15.RepliesNone", spec := "repliesNone", inPlace := ["slices.overlaps[hurdle/replies.entry]"], unfollowed := true, recurses := true, apart := false }
def RepliesNoneSaid : Prop := repliesNoneRow.holds Try.pinned (OpenSpec.ofChange repliesNoneSpec)

/-- ITS FALSE NEIGHBOUR: 'it returns false'. Refute it at one input. -/
def repliesNoneWrong : ChangeSpec := { name := "repliesNone", fn := fun _ => fun
  | [d] => { results := [.lit (.bool false)], args := [d] }
  | _ => none }
def RepliesNoneWrongFalsely : Prop := repliesNoneRow.holds Try.pinned (OpenSpec.ofChange repliesNoneWrong)

/- THE SECOND FORM. 'bulk': how many values and letters a reading holds, each counted each time it is reached (what is shared counts as often as it is met; a slice's spare places count too). A statement '..UptoSaid' is the law's where the arguments, and the package variables that the reading takes, are together of bulk at most 1048576: NARROWER than '..Said'. Prove '..Said' where nothing that the law and all that it calls make is longer than what came in: it says more and counts as full. Else prove '..UptoSaid'. A law counts once. -/
mutual
def uptoBulk {H : Type} : DataW H → Nat
  | .lit (.string bytes) => bytes.length + 1
  | .lit _ => 1
  | .nil => 1
  | .ptr d => uptoBulk d + 1
  | .slice elems spare => uptoBulkAll elems + uptoBulkAll spare + 1
  | .agg parts => uptoBulkAll parts + 1
  | .iface _ d => uptoBulk d + 1
  | .map entries => uptoBulkEntries entries + 1
  | .held _ => 1
def uptoBulkAll {H : Type} : List (DataW H) → Nat
  | [] => 0
  | d :: r => uptoBulk d + uptoBulkAll r
def uptoBulkEntries {H : Type} : List (Lit × DataW H) → Nat
  | [] => 0
  | x :: r => uptoBulkEntry x + uptoBulkEntries r
def uptoBulkEntry {H : Type} : Lit × DataW H → Nat
  | (.string bytes, d) => bytes.length + uptoBulk d + 1
  | (_, d) => uptoBulk d + 1
 end
def uptoSmall : (H : Type) → List (DataW H) → Bool := fun _ ds => decide (uptoBulkAll ds ≤ 1048576)
def OpenSpec.upto (s : _root_.Go.ChangeSpec) : _root_.Go.OpenSpec := { _root_.Go.OpenSpec.ofChange s with cond := some uptoSmall }

/-- 'hurdlelaw14.CallsPlays', WHERE WHAT IT READS IS OF BULK AT MOST 1048576: true; the input reads as it did. -/
def callsPlaysUptoRow : OpenClaim := { program := "ythcnoamgkkbkcaa", sum := "94bb0ef931ca3038ffd1cda0258a6a10bf038642a0aaf4123997386d68984d19", func := "hurdle/hurdlelaw14.CallsPlays", spec := "callsPlays", unfollowed := true, recurses := true, apart := false, narrowed := true }
def CallsPlaysUptoSaid : Prop := callsPlaysUptoRow.holds Try.pinned (OpenSpec.upto callsPlaysSpec)

/-- 'hurdlelaw14.CallsTries', WHERE WHAT IT READS IS OF BULK AT MOST 1048576: true; the input reads as it did. -/
def callsTriesUptoRow : OpenClaim := { program := "ythcnoamgkkbkcaa", sum := "94bb0ef931ca3038ffd1cda0258a6a10bf038642a0aaf4123997386d68984d19", func := "hurdle/hurdlelaw14.CallsTries", spec := "callsTries", unfollowed := true, recurses := true, apart := false, narrowed := true }
def CallsTriesUptoSaid : Prop := callsTriesUptoRow.holds Try.pinned (OpenSpec.upto callsTriesSpec)

/-- 'hurdlelaw14.CallsOnce', WHERE WHAT IT READS IS OF BULK AT MOST 1048576: true; the input reads as it did. -/
def callsOnceUptoRow : OpenClaim := { program := "ythcnoamgkkbkcaa", sum := "94bb0ef931ca3038ffd1cda0258a6a10bf038642a0aaf4123997386d68984d19", func := "hurdle/hurdlelaw14.CallsOnce", spec := "callsOnce", unfollowed := true, recurses := true, apart := false, narrowed := true }
def CallsOnceUptoSaid : Prop := callsOnceUptoRow.holds Try.pinned (OpenSpec.upto callsOnceSpec)

/-- 'hurdlelaw14.CallsNone', WHERE WHAT IT READS IS OF BULK AT MOST 1048576: true; the input reads as it did. -/
def callsNoneUptoRow : OpenClaim := { program := "ythcnoamgkkbkcaa", sum := "94bb0ef931ca3038ffd1cda0258a6a10bf038642a0aaf4123997386d68984d19", func := "hurdle/hurdlelaw14.CallsNone", spec := "callsNone", unfollowed := true, recurses := true, apart := false, narrowed := true }
def CallsNoneUptoSaid : Prop := callsNoneUptoRow.holds Try.pinned (OpenSpec.upto callsNoneSpec)

/-- 'hurdlelaw15.RepliesPlays', WHERE WHAT IT READS IS OF BULK AT MOST 1048576: true; the input reads as it did. -/
def repliesPlaysUptoRow : OpenClaim := { program := "ythcnoamgkkbkcaa", sum := "94bb0ef931ca3038ffd1cda0258a6a10bf038642a0aaf4123997386d68984d19", func := "hurdle/hurdlelaw15.RepliesPlays", spec := "repliesPlays", inPlace := ["slices.overlaps[hurdle/replies.entry]"], unfollowed := true, recurses := true, apart := false, narrowed := true }
def RepliesPlaysUptoSaid : Prop := repliesPlaysUptoRow.holds Try.pinned (OpenSpec.upto repliesPlaysSpec)

/-- 'hurdlelaw15.RepliesOnce', WHERE WHAT IT READS IS OF BULK AT MOST 1048576: true; the input reads as it did. -/
def repliesOnceUptoRow : OpenClaim := { program := "ythcnoamgkkbkcaa", sum := "94bb0ef931ca3038ffd1cda0258a6a10bf038642a0aaf4123997386d68984d19", func := "hurdle/hurdlelaw15.RepliesOnce", spec := "repliesOnce", inPlace := ["slices.overlaps[hurdle/replies.entry]"], unfollowed := true, recurses := true, apart := false, narrowed := true }
def RepliesOnceUptoSaid : Prop := repliesOnceUptoRow.holds Try.pinned (OpenSpec.upto repliesOnceSpec)

/-- 'hurdlelaw15.RepliesBack', WHERE WHAT IT READS IS OF BULK AT MOST 1048576: true; the input reads as it did. -/
def repliesBackUptoRow : OpenClaim := { program := "ythcnoamgkkbkcaa", sum := "94bb0ef931ca3038ffd1cda0258a6a10bf038642a0aaf4123997386d68984d19", func := "hurdle/hurdlelaw15.RepliesBack", spec := "repliesBack", inPlace := ["slices.overlaps[hurdle/replies.entry]"], unfollowed := true, recurses := true, apart := false, narrowed := true }
def RepliesBackUptoSaid : Prop := repliesBackUptoRow.holds Try.pinned (OpenSpec.upto repliesBackSpec)

/-- 'hurdlelaw15.RepliesReads', WHERE WHAT IT READS IS OF BULK AT MOST 1048576: true; the input reads as it did. -/
def repliesReadsUptoRow : OpenClaim := { program := "ythcnoamgkkbkcaa", sum := "94bb0ef931ca3038ffd1cda0258a6a10bf038642a0aaf4123997386d68984d19", func := "hurdle/hurdlelaw15.RepliesReads", spec := "repliesReads", inPlace := ["slices.overlaps[hurdle/replies.entry]"], unfollowed := true, recurses := true, apart := false, narrowed := true }
def RepliesReadsUptoSaid : Prop := repliesReadsUptoRow.holds Try.pinned (OpenSpec.upto repliesReadsSpec)

/-- 'hurdlelaw15.RepliesNone', WHERE WHAT IT READS IS OF BULK AT MOST 1048576: true; the input reads as it did. -/
def repliesNoneUptoRow : OpenClaim := { program := "ythcnoamgkkbkcaa", sum := "94bb0ef931ca3038ffd1cda0258a6a10bf038642a0aaf4123997386d68984d19", func := "hurdle/hurdlelaw15.RepliesNone", spec := "repliesNone", inPlace := ["slices.overlaps[hurdle/replies.entry]"], unfollowed := true, recurses := true, apart := false, narrowed := true }
def RepliesNoneUptoSaid : Prop := repliesNoneUptoRow.holds Try.pinned (OpenSpec.upto repliesNoneSpec)

end Rows
end Go.Proofs.Ythcnoamgkkbkcaa
