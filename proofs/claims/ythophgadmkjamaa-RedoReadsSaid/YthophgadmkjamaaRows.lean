/-
  No cell of these rows narrows 'for every input' (looked for: loops, veiled, ifaces, maps, wideKeys, modest, calm, conditions, laid).
  DERIVED. THE GIVEN ROWS OF THIS SEAT. 10 by the template 'for every input the law returns true; each argument reads behind the call as it read before'; 0 by the template 'total and deterministic' (their statements: YthophgadmkjamaaTotals.lean).
  GIVEN WITH THE SEED: the statements are not yours to turn. If you find one false, say at which input.
  Laid BY PROGRAM, IN A SANDBOX (cutbox-rows.mjs): the forced cells as the released guide's own fill.sh prints them over the translation 412fea9e59ecc2ab… (all of the seat's roots in one cut). By AI agents, Wed Nov 11 2026. No macro, syntax, notation, axiom, sorry.
-/
import Derived.Test.YthophgadmkjamaaChecked
import GoSem.Claim
import GoSem.ClaimJoined
import GoSem.ClaimMapViews
import Derived.JoinedTies
import Derived.KernelRfl
namespace Go.Proofs.Ythophgadmkjamaa
/- THE CELL 'sum', in the pinned program and in every row, IS THE sha256 OF THE DUMP (.gsa) THAT YthophgadmkjamaaProg.lean LOADS. Nothing in Lean hashes anything: it is a label: what it is worth is what the hold of that sum in a sandbox is worth. -/
noncomputable def Try.pinned : Pinned := { name := "ythophgadmkjamaa", sum := "412fea9e59ecc2ab4bfd5088a2ff8a29a396b43a83aea77e42c4f82f9120be87", checked := Try.checked }
namespace Rows
def none {H : Type} : Left H := { results := [], args := [] }

/-- 'millpondlaw06.RedoReads': WHATEVER THE INPUT: true; the input reads as it did. -/
def redoReadsSpec : ChangeSpec := { name := "redoReads", fn := fun _ => fun
  | [d1, d2, d3] => { results := [.lit (.bool true)], args := [d1, d2, d3] }
  | _ => none }
def redoReadsRow : OpenClaim := { program := "ythophgadmkjamaa", sum := "412fea9e59ecc2ab4bfd5088a2ff8a29a396b43a83aea77e42c4f82f9120be87", func := "millpond/millpondlaw06.RedoReads", spec := "redoReads", unfollowed := true, recurses := true, plainKeys := false, apart := false }
def RedoReadsSaid : Prop := redoReadsRow.holds Try.pinned (OpenSpec.ofChange redoReadsSpec)

/-- ITS FALSE NEIGHBOUR: 'it returns false'. Refute it at one input. -/
def redoReadsWrong : ChangeSpec := { name := "redoReads", fn := fun _ => fun
  | [d1, d2, d3] => { results := [.lit (.bool false)], args := [d1, d2, d3] }
  | _ => none }
def RedoReadsWrongFalsely : Prop := redoReadsRow.holds Try.pinned (OpenSpec.ofChange redoReadsWrong)

/-- 'millpondlaw06.RedoAny': WHATEVER THE INPUT: true; the input reads as it did. -/
def redoAnySpec : ChangeSpec := { name := "redoAny", fn := fun _ => fun
  | [d1, d2, d3] => { results := [.lit (.bool true)], args := [d1, d2, d3] }
  | _ => none }
def redoAnyRow : OpenClaim := { program := "ythophgadmkjamaa", sum := "412fea9e59ecc2ab4bfd5088a2ff8a29a396b43a83aea77e42c4f82f9120be87", func := "millpond/millpondlaw06.RedoAny", spec := "redoAny", unfollowed := true, recurses := true, plainKeys := false, apart := false }
def RedoAnySaid : Prop := redoAnyRow.holds Try.pinned (OpenSpec.ofChange redoAnySpec)

/-- ITS FALSE NEIGHBOUR: 'it returns false'. Refute it at one input. -/
def redoAnyWrong : ChangeSpec := { name := "redoAny", fn := fun _ => fun
  | [d1, d2, d3] => { results := [.lit (.bool false)], args := [d1, d2, d3] }
  | _ => none }
def RedoAnyWrongFalsely : Prop := redoAnyRow.holds Try.pinned (OpenSpec.ofChange redoAnyWrong)

/-- 'millpondlaw06.RedoPlays': WHATEVER THE INPUT: true; the input reads as it did. -/
def redoPlaysSpec : ChangeSpec := { name := "redoPlays", fn := fun _ => fun
  | [d1, d2, d3, d4] => { results := [.lit (.bool true)], args := [d1, d2, d3, d4] }
  | _ => none }
def redoPlaysRow : OpenClaim := { program := "ythophgadmkjamaa", sum := "412fea9e59ecc2ab4bfd5088a2ff8a29a396b43a83aea77e42c4f82f9120be87", func := "millpond/millpondlaw06.RedoPlays", spec := "redoPlays", unfollowed := true, recurses := true, plainKeys := false, apart := false }
def RedoPlaysSaid : Prop := redoPlaysRow.holds Try.pinned (OpenSpec.ofChange redoPlaysSpec)

/-- ITS FALSE NEIGHBOUR: 'it returns false'. Refute it at one input. -/
def redoPlaysWrong : ChangeSpec := { name := "redoPlays", fn := fun _ => fun
  | [d1, d2, d3, d4] => { results := [.lit (.bool false)], args := [d1, d2, d3, d4] }
  | _ => none }
def RedoPlaysWrongFalsely : Prop := redoPlaysRow.holds Try.pinned (OpenSpec.ofChange redoPlaysWrong)

/-- 'millpondlaw12.RebuildSays': WHATEVER THE INPUT: true; the input reads as it did. -/
def rebuildSaysSpec : ChangeSpec := { name := "rebuildSays", fn := fun _ => fun
  | [d1, d2, d3] => { results := [.lit (.bool true)], args := [d1, d2, d3] }
  | _ => none }
def rebuildSaysRow : OpenClaim := { program := "ythophgadmkjamaa", sum := "412fea9e59ecc2ab4bfd5088a2ff8a29a396b43a83aea77e42c4f82f9120be87", func := "millpond/millpondlaw12.RebuildSays", spec := "rebuildSays", unfollowed := true, recurses := true, plainKeys := false, apart := false }
def RebuildSaysSaid : Prop := rebuildSaysRow.holds Try.pinned (OpenSpec.ofChange rebuildSaysSpec)

/-- ITS FALSE NEIGHBOUR: 'it returns false'. Refute it at one input. -/
def rebuildSaysWrong : ChangeSpec := { name := "rebuildSays", fn := fun _ => fun
  | [d1, d2, d3] => { results := [.lit (.bool false)], args := [d1, d2, d3] }
  | _ => none }
def RebuildSaysWrongFalsely : Prop := rebuildSaysRow.holds Try.pinned (OpenSpec.ofChange rebuildSaysWrong)

/-- 'millpondlaw12.RebuildLays': WHATEVER THE INPUT: true; the input reads as it did. -/
def rebuildLaysSpec : ChangeSpec := { name := "rebuildLays", fn := fun _ => fun
  | [d1, d2, d3] => { results := [.lit (.bool true)], args := [d1, d2, d3] }
  | _ => none }
def rebuildLaysRow : OpenClaim := { program := "ythophgadmkjamaa", sum := "412fea9e59ecc2ab4bfd5088a2ff8a29a396b43a83aea77e42c4f82f9120be87", func := "millpond/millpondlaw12.RebuildLays", spec := "rebuildLays", unfollowed := true, recurses := true, plainKeys := false, apart := false }
def RebuildLaysSaid : Prop := rebuildLaysRow.holds Try.pinned (OpenSpec.ofChange rebuildLaysSpec)

/-- ITS FALSE NEIGHBOUR: 'it returns false'. Refute it at one input. -/
def rebuildLaysWrong : ChangeSpec := { name := "rebuildLays", fn := fun _ => fun
  | [d1, d2, d3] => { results := [.lit (.bool false)], args := [d1, d2, d3] }
  | _ => none }
def RebuildLaysWrongFalsely : Prop := rebuildLaysRow.holds Try.pinned (OpenSpec.ofChange rebuildLaysWrong)

/-- 'millpondlaw16.PastBound': WHATEVER THE INPUT: true; the input reads as it did. -/
def pastBoundSpec : ChangeSpec := { name := "pastBound", fn := fun _ => fun
  | [d1, d2] => { results := [.lit (.bool true)], args := [d1, d2] }
  | _ => none }
def pastBoundRow : OpenClaim := { program := "ythophgadmkjamaa", sum := "412fea9e59ecc2ab4bfd5088a2ff8a29a396b43a83aea77e42c4f82f9120be87", func := "millpond/millpondlaw16.PastBound", spec := "pastBound", unfollowed := true, recurses := true, plainKeys := false, apart := false }
def PastBoundSaid : Prop := pastBoundRow.holds Try.pinned (OpenSpec.ofChange pastBoundSpec)

/-- ITS FALSE NEIGHBOUR: 'it returns false'. Refute it at one input. -/
def pastBoundWrong : ChangeSpec := { name := "pastBound", fn := fun _ => fun
  | [d1, d2] => { results := [.lit (.bool false)], args := [d1, d2] }
  | _ => none }
def PastBoundWrongFalsely : Prop := pastBoundRow.holds Try.pinned (OpenSpec.ofChange pastBoundWrong)

/-- 'millpondlaw16.PastSteps': WHATEVER THE INPUT: true; the input reads as it did. -/
def pastStepsSpec : ChangeSpec := { name := "pastSteps", fn := fun _ => fun
  | [d1, d2, d3] => { results := [.lit (.bool true)], args := [d1, d2, d3] }
  | _ => none }
def pastStepsRow : OpenClaim := { program := "ythophgadmkjamaa", sum := "412fea9e59ecc2ab4bfd5088a2ff8a29a396b43a83aea77e42c4f82f9120be87", func := "millpond/millpondlaw16.PastSteps", spec := "pastSteps", unfollowed := true, recurses := true, plainKeys := false, apart := false }
def PastStepsSaid : Prop := pastStepsRow.holds Try.pinned (OpenSpec.ofChange pastStepsSpec)

/-- ITS FALSE NEIGHBOUR: 'it returns false'. Refute it at one input. -/
def pastStepsWrong : ChangeSpec := { name := "pastSteps", fn := fun _ => fun
  | [d1, d2, d3] => { results := [.lit (.bool false)], args := [d1, d2, d3] }
  | _ => none }
def PastStepsWrongFalsely : Prop := pastStepsRow.holds Try.pinned (OpenSpec.ofChange pastStepsWrong)

/-- 'millpondlaw16.PastSame': WHATEVER THE INPUT: true; the input reads as it did. -/
def pastSameSpec : ChangeSpec := { name := "pastSame", fn := fun _ => fun
  | [d1, d2] => { results := [.lit (.bool true)], args := [d1, d2] }
  | _ => none }
def pastSameRow : OpenClaim := { program := "ythophgadmkjamaa", sum := "412fea9e59ecc2ab4bfd5088a2ff8a29a396b43a83aea77e42c4f82f9120be87", func := "millpond/millpondlaw16.PastSame", spec := "pastSame", unfollowed := true, recurses := true, plainKeys := false, apart := false }
def PastSameSaid : Prop := pastSameRow.holds Try.pinned (OpenSpec.ofChange pastSameSpec)

/-- ITS FALSE NEIGHBOUR: 'it returns false'. Refute it at one input. -/
def pastSameWrong : ChangeSpec := { name := "pastSame", fn := fun _ => fun
  | [d1, d2] => { results := [.lit (.bool false)], args := [d1, d2] }
  | _ => none }
def PastSameWrongFalsely : Prop := pastSameRow.holds Try.pinned (OpenSpec.ofChange pastSameWrong)

/-- 'millpondlaw16.PastNil': WHATEVER THE INPUT: true; the input reads as it did. -/
def pastNilSpec : ChangeSpec := { name := "pastNil", fn := fun _ => fun
  | [] => { results := [.lit (.bool true)], args := [] }
  | _ => none }
def pastNilRow : OpenClaim := { program := "ythophgadmkjamaa", sum := "412fea9e59ecc2ab4bfd5088a2ff8a29a396b43a83aea77e42c4f82f9120be87", func := "millpond/millpondlaw16.PastNil", spec := "pastNil", unfollowed := true, recurses := true, plainKeys := false, apart := false }
def PastNilSaid : Prop := pastNilRow.holds Try.pinned (OpenSpec.ofChange pastNilSpec)

/-- ITS FALSE NEIGHBOUR: 'it returns false'. Refute it at one input. -/
def pastNilWrong : ChangeSpec := { name := "pastNil", fn := fun _ => fun
  | [] => { results := [.lit (.bool false)], args := [] }
  | _ => none }
def PastNilWrongFalsely : Prop := pastNilRow.holds Try.pinned (OpenSpec.ofChange pastNilWrong)

/-- 'millpondlaw14.DirectoryApart': WHATEVER THE INPUT: true; the input reads as it did. -/
def directoryApartSpec : ChangeSpec := { name := "directoryApart", fn := fun _ => fun
  | [d1, d2] => { results := [.lit (.bool true)], args := [d1, d2] }
  | _ => none }
def directoryApartRow : OpenClaim := { program := "ythophgadmkjamaa", sum := "412fea9e59ecc2ab4bfd5088a2ff8a29a396b43a83aea77e42c4f82f9120be87", func := "millpond/millpondlaw14.DirectoryApart", spec := "directoryApart", unfollowed := true, recurses := true, plainKeys := false, apart := false }
def DirectoryApartSaid : Prop := directoryApartRow.holds Try.pinned (OpenSpec.ofChange directoryApartSpec)

/-- ITS FALSE NEIGHBOUR: 'it returns false'. Refute it at one input. -/
def directoryApartWrong : ChangeSpec := { name := "directoryApart", fn := fun _ => fun
  | [d1, d2] => { results := [.lit (.bool false)], args := [d1, d2] }
  | _ => none }
def DirectoryApartWrongFalsely : Prop := directoryApartRow.holds Try.pinned (OpenSpec.ofChange directoryApartWrong)

/- THE SECOND FORM. 'bulk': how many values and letters a reading holds, each counted each time it is reached (what is shared counts as often as it is met; a slice's spare places count too). A statement '..UptoSaid' is the law's where the arguments, and the package variables that the reading takes, are together of bulk at most 1048576: NARROWER than '..Said'. Prove '..Said' where nothing that the law and all that it calls make is longer than what came in: it says more and counts as full. Else prove '..UptoSaid'. A law counts once. -/
mutual
def uptoBulk {H : Type} : DataW H → Nat
  | .lit (.string bytes) => bytes.length + 1
  | .lit _ => 1
  | .nil => 1
  | .ptr d => uptoBulk d + 1
  | .slice elems spare => uptoBulkAll elems + uptoBulkAll spare + 1
  | .agg parts => uptoBulkAll parts + 1
  | .iface _ d => uptoBulk d + 1
  | .map entries => uptoBulkEntries entries + 1
  | .held _ => 1
def uptoBulkAll {H : Type} : List (DataW H) → Nat
  | [] => 0
  | d :: r => uptoBulk d + uptoBulkAll r
def uptoBulkEntries {H : Type} : List (Lit × DataW H) → Nat
  | [] => 0
  | x :: r => uptoBulkEntry x + uptoBulkEntries r
def uptoBulkEntry {H : Type} : Lit × DataW H → Nat
  | (.string bytes, d) => bytes.length + uptoBulk d + 1
  | (_, d) => uptoBulk d + 1
 end
def uptoSmall : (H : Type) → List (DataW H) → Bool := fun _ ds => decide (uptoBulkAll ds ≤ 1048576)
def OpenSpec.upto (s : _root_.Go.ChangeSpec) : _root_.Go.OpenSpec := { _root_.Go.OpenSpec.ofChange s with cond := some uptoSmall }

/-- 'millpondlaw06.RedoReads', WHERE WHAT IT READS IS OF BULK AT MOST 1048576: true; the input reads as it did. -/
def redoReadsUptoRow : OpenClaim := { program := "ythophgadmkjamaa", sum := "412fea9e59ecc2ab4bfd5088a2ff8a29a396b43a83aea77e42c4f82f9120be87", func := "millpond/millpondlaw06.RedoReads", spec := "redoReads", unfollowed := true, recurses := true, plainKeys := false, apart := false, narrowed := true }
def RedoReadsUptoSaid : Prop := redoReadsUptoRow.holds Try.pinned (OpenSpec.upto redoReadsSpec)

/-- 'millpondlaw06.RedoAny', WHERE WHAT IT READS IS OF BULK AT MOST 1048576: true; the input reads as it did. -/
def redoAnyUptoRow : OpenClaim := { program := "ythophgadmkjamaa", sum := "412fea9e59ecc2ab4bfd5088a2ff8a29a396b43a83aea77e42c4f82f9120be87", func := "millpond/millpondlaw06.RedoAny", spec := "redoAny", unfollowed := true, recurses := true, plainKeys := false, apart := false, narrowed := true }
def RedoAnyUptoSaid : Prop := redoAnyUptoRow.holds Try.pinned (OpenSpec.upto redoAnySpec)

/-- 'millpondlaw06.RedoPlays', WHERE WHAT IT READS IS OF BULK AT MOST 1048576: true; the input reads as it did. -/
def redoPlaysUptoRow : OpenClaim := { program := "ythophgadmkjamaa", sum := "412fea9e59ecc2ab4bfd5088a2ff8a29a396b43a83aea77e42c4f82f9120be87", func := "millpond/millpondlaw06.RedoPlays", spec := "redoPlays", unfollowed := true, recurses := true, plainKeys := false, apart := false, narrowed := true }
def RedoPlaysUptoSaid : Prop := redoPlaysUptoRow.holds Try.pinned (OpenSpec.upto redoPlaysSpec)

/-- 'millpondlaw12.RebuildSays', WHERE WHAT IT READS IS OF BULK AT MOST 1048576: true; the input reads as it did. -/
def rebuildSaysUptoRow : OpenClaim := { program := "ythophgadmkjamaa", sum := "412fea9e59ecc2ab4bfd5088a2ff8a29a396b43a83aea77e42c4f82f9120be87", func := "millpond/millpondlaw12.RebuildSays", spec := "rebuildSays", unfollowed := true, recurses := true, plainKeys := false, apart := false, narrowed := true }
def RebuildSaysUptoSaid : Prop := rebuildSaysUptoRow.holds Try.pinned (OpenSpec.upto rebuildSaysSpec)

/-- 'millpondlaw12.RebuildLays', WHERE WHAT IT READS IS OF BULK AT MOST 1048576: true; the input reads as it did. -/
def rebuildLaysUptoRow : OpenClaim := { program := "ythophgadmkjamaa", sum := "412fea9e59ecc2ab4bfd5088a2ff8a29a396b43a83aea77e42c4f82f9120be87", func := "millpond/millpondlaw12.RebuildLays", spec := "rebuildLays", unfollowed := true, recurses := true, plainKeys := false, apart := false, narrowed := true }
def RebuildLaysUptoSaid : Prop := rebuildLaysUptoRow.holds Try.pinned (OpenSpec.upto rebuildLaysSpec)

/-- 'millpondlaw16.PastBound', WHERE WHAT IT READS IS OF BULK AT MOST 1048576: true; the input reads as it did. -/
def pastBoundUptoRow : OpenClaim := { program := "ythophgadmkjamaa", sum := "412fea9e59ecc2ab4bfd5088a2ff8a29a396b43a83aea77e42c4f82f9120be87", func := "millpond/millpondlaw16.PastBound", spec := "pastBound", unfollowed := true, recurses := true, plainKeys := false, apart := false, narrowed := true }
def PastBoundUptoSaid : Prop := pastBoundUptoRow.holds Try.pinned (OpenSpec.upto pastBoundSpec)

/-- 'millpondlaw16.PastSteps', WHERE WHAT IT READS IS OF BULK AT MOST 1048576: true; the input reads as it did. -/
def pastStepsUptoRow : OpenClaim := { program := "ythophgadmkjamaa", sum := "412fea9e59ecc2ab4bfd5088a2ff8a29a396b43a83aea77e42c4f82f9120be87", func := "millpond/millpondlaw16.PastSteps", spec := "pastSteps", unfollowed := true, recurses := true, plainKeys := false, apart := false, narrowed := true }
def PastStepsUptoSaid : Prop := pastStepsUptoRow.holds Try.pinned (OpenSpec.upto pastStepsSpec)

/-- 'millpondlaw16.PastSame', WHERE WHAT IT READS IS OF BULK AT MOST 1048576: true; the input reads as it did. -/
def pastSameUptoRow : OpenClaim := { program := "ythophgadmkjamaa", sum := "412fea9e59ecc2ab4bfd5088a2ff8a29a396b43a83aea77e42c4f82f9120be87", func := "millpond/millpondlaw16.PastSame", spec := "pastSame", unfollowed := true, recurses := true, plainKeys := false, apart := false, narrowed := true }
def PastSameUptoSaid : Prop := pastSameUptoRow.holds Try.pinned (OpenSpec.upto pastSameSpec)

/-- 'millpondlaw16.PastNil', WHERE WHAT IT READS IS OF BULK AT MOST 1048576: true; the input reads as it did. -/
def pastNilUptoRow : OpenClaim := { program := "ythophgadmkjamaa", sum := "412fea9e59ecc2ab4bfd5088a2ff8a29a396b43a83aea77e42c4f82f9120be87", func := "millpond/millpondlaw16.PastNil", spec := "pastNil", unfollowed := true, recurses := true, plainKeys := false, apart := false, narrowed := true }
def PastNilUptoSaid : Prop := pastNilUptoRow.holds Try.pinned (OpenSpec.upto pastNilSpec)

/-- 'millpondlaw14.DirectoryApart', WHERE WHAT IT READS IS OF BULK AT MOST 1048576: true; the input reads as it did. -/
def directoryApartUptoRow : OpenClaim := { program := "ythophgadmkjamaa", sum := "412fea9e59ecc2ab4bfd5088a2ff8a29a396b43a83aea77e42c4f82f9120be87", func := "millpond/millpondlaw14.DirectoryApart", spec := "directoryApart", unfollowed := true, recurses := true, plainKeys := false, apart := false, narrowed := true }
def DirectoryApartUptoSaid : Prop := directoryApartUptoRow.holds Try.pinned (OpenSpec.upto directoryApartSpec)

end Rows
end Go.Proofs.Ythophgadmkjamaa
