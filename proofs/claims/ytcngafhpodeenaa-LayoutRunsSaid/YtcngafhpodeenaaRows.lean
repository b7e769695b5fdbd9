/-
  No cell of these rows narrows 'for every input' (looked for: loops, veiled, ifaces, maps, wideKeys, modest, calm, conditions, laid).
  DERIVED. THE GIVEN ROWS OF THIS SEAT. 9 by the template 'for every input the law returns true; each argument reads behind the call as it read before'; 0 by the template 'total and deterministic' (their statements: YtcngafhpodeenaaTotals.lean).
  GIVEN WITH THE SEED: the statements are not yours to turn. If you find one false, say at which input.
  Laid BY PROGRAM, IN A SANDBOX (cutbox-rows.mjs): the forced cells as the released guide's own fill.sh prints them over the translation d8496309a39560ab… (all of the seat's roots in one cut). By AI agents, Wed Nov 11 2026. No macro, syntax, notation, axiom, sorry.
-/
import Derived.Test.YtcngafhpodeenaaChecked
import GoSem.Claim
import GoSem.ClaimJoined
import GoSem.ClaimMapViews
import Derived.JoinedTies
import Derived.KernelRfl
namespace Go.Proofs.Ytcngafhpodeenaa
/- THE CELL 'sum', in the pinned program and in every row, IS THE sha256 OF THE DUMP (.gsa) THAT YtcngafhpodeenaaProg.lean LOADS. Nothing in Lean hashes anything: it is a label: what it is worth is what the hold of that sum in a sandbox is worth. -/
noncomputable def Try.pinned : Pinned := { name := "ytcngafhpodeenaa", sum := "d8496309a39560abdcde4a23325c08c6a1d2c6bfe5ffaa8261637a55d2b473f7", checked := Try.checked }
namespace Rows
def none {H : Type} : Left H := { results := [], args := [] }

/-- 'lathelaw18.LowerRuns': WHATEVER THE INPUT: true; the input reads as it did. -/
def lowerRunsSpec : ChangeSpec := { name := "lowerRuns", fn := fun _ => fun
  | [d] => { results := [.lit (.bool true)], args := [d] }
  | _ => none }
def lowerRunsRow : OpenClaim := { program := "ytcngafhpodeenaa", sum := "d8496309a39560abdcde4a23325c08c6a1d2c6bfe5ffaa8261637a55d2b473f7", func := "lathe/lathelaw18.LowerRuns", spec := "lowerRuns", unfollowed := true, recurses := true, apart := false }
def LowerRunsSaid : Prop := lowerRunsRow.holds Try.pinned (OpenSpec.ofChange lowerRunsSpec)

/-- ITS FALSE NEIGHBOUR: 'it returns false'. Refute it at one input. -/
def lowerRunsWrong : ChangeSpec := { name := "lowerRuns", fn := fun _ => fun
  | [d] => { results := [.lit (.bool false)], args := [d] }
  | _ => none }
def LowerRunsWrongFalsely : Prop := lowerRunsRow.holds Try.pinned (OpenSpec.ofChange lowerRunsWrong)

/-- 'lathelaw13.EncodeReads': WHATEVER THE INPUT: true; the input reads as it did. -/
def encodeReadsSpec : ChangeSpec := { name := "encodeReads", fn := fun _ => fun
  | [d] => { results := [.lit (.bool true)], args := [d] }
  | _ => none }
def encodeReadsRow : OpenClaim := { program := "ytcngafhpodeenaa", sum := "d8496309a39560abdcde4a23325c08c6a1d2c6bfe5ffaa8261637a55d2b473f7", func := "lathe/lathelaw13.EncodeReads", spec := "encodeReads", unfollowed := true, recurses := true, apart := false }
def EncodeReadsSaid : Prop := encodeReadsRow.holds Try.pinned (OpenSpec.ofChange encodeReadsSpec)

/-- ITS FALSE NEIGHBOUR: 'it returns false'. Refute it at one input. -/
def encodeReadsWrong : ChangeSpec := { name := "encodeReads", fn := fun _ => fun
  | [d] => { results := [.lit (.bool false)], args := [d] }
  | _ => none }
def EncodeReadsWrongFalsely : Prop := encodeReadsRow.holds Try.pinned (OpenSpec.ofChange encodeReadsWrong)

/-- 'lathelaw13.EncodeBack': WHATEVER THE INPUT: true; the input reads as it did. -/
def encodeBackSpec : ChangeSpec := { name := "encodeBack", fn := fun _ => fun
  | [d1, d2] => { results := [.lit (.bool true)], args := [d1, d2] }
  | _ => none }
def encodeBackRow : OpenClaim := { program := "ytcngafhpodeenaa", sum := "d8496309a39560abdcde4a23325c08c6a1d2c6bfe5ffaa8261637a55d2b473f7", func := "lathe/lathelaw13.EncodeBack", spec := "encodeBack", unfollowed := true, recurses := true, apart := false }
def EncodeBackSaid : Prop := encodeBackRow.holds Try.pinned (OpenSpec.ofChange encodeBackSpec)

/-- ITS FALSE NEIGHBOUR: 'it returns false'. Refute it at one input. -/
def encodeBackWrong : ChangeSpec := { name := "encodeBack", fn := fun _ => fun
  | [d1, d2] => { results := [.lit (.bool false)], args := [d1, d2] }
  | _ => none }
def EncodeBackWrongFalsely : Prop := encodeBackRow.holds Try.pinned (OpenSpec.ofChange encodeBackWrong)

/-- 'lathelaw13.EncodeRows': WHATEVER THE INPUT: true; the input reads as it did. -/
def encodeRowsSpec : ChangeSpec := { name := "encodeRows", fn := fun _ => fun
  | [d1, d2] => { results := [.lit (.bool true)], args := [d1, d2] }
  | _ => none }
def encodeRowsRow : OpenClaim := { program := "ytcngafhpodeenaa", sum := "d8496309a39560abdcde4a23325c08c6a1d2c6bfe5ffaa8261637a55d2b473f7", func := "lathe/lathelaw13.EncodeRows", spec := "encodeRows", unfollowed := true, recurses := true, apart := false }
def EncodeRowsSaid : Prop := encodeRowsRow.holds Try.pinned (OpenSpec.ofChange encodeRowsSpec)

/-- ITS FALSE NEIGHBOUR: 'it returns false'. Refute it at one input. -/
def encodeRowsWrong : ChangeSpec := { name := "encodeRows", fn := fun _ => fun
  | [d1, d2] => { results := [.lit (.bool false)], args := [d1, d2] }
  | _ => none }
def EncodeRowsWrongFalsely : Prop := encodeRowsRow.holds Try.pinned (OpenSpec.ofChange encodeRowsWrong)

/-- 'lathelaw24.LayoutRuns': WHATEVER THE INPUT: true; the input reads as it did. -/
def layoutRunsSpec : ChangeSpec := { name := "layoutRuns", fn := fun _ => fun
  | [d1, d2] => { results := [.lit (.bool true)], args := [d1, d2] }
  | _ => none }
def layoutRunsRow : OpenClaim := { program := "ytcngafhpodeenaa", sum := "d8496309a39560abdcde4a23325c08c6a1d2c6bfe5ffaa8261637a55d2b473f7", func := "lathe/lathelaw24.LayoutRuns", spec := "layoutRuns", unfollowed := true, recurses := true, apart := false }
def LayoutRunsSaid : Prop := layoutRunsRow.holds Try.pinned (OpenSpec.ofChange layoutRunsSpec)

/-- ITS FALSE NEIGHBOUR: 'it returns false'. Refute it at one input. -/
def layoutRunsWrong : ChangeSpec := { name := "layoutRuns", fn := fun _ => fun
  | [d1, d2] => { results := [.lit (.bool false)], args := [d1, d2] }
  | _ => none }
def LayoutRunsWrongFalsely : Prop := layoutRunsRow.holds Try.pinned (OpenSpec.ofChange layoutRunsWrong)

/-- 'lathelaw18.LowerMay': WHATEVER THE INPUT: true; the input reads as it did. -/
def lowerMaySpec : ChangeSpec := { name := "lowerMay", fn := fun _ => fun
  | [d] => { results := [.lit (.bool true)], args := [d] }
  | _ => none }
def lowerMayRow : OpenClaim := { program := "ytcngafhpodeenaa", sum := "d8496309a39560abdcde4a23325c08c6a1d2c6bfe5ffaa8261637a55d2b473f7", func := "lathe/lathelaw18.LowerMay", spec := "lowerMay", unfollowed := true, recurses := true, apart := false }
def LowerMaySaid : Prop := lowerMayRow.holds Try.pinned (OpenSpec.ofChange lowerMaySpec)

/-- ITS FALSE NEIGHBOUR: 'it returns false'. Refute it at one input. -/
def lowerMayWrong : ChangeSpec := { name := "lowerMay", fn := fun _ => fun
  | [d] => { results := [.lit (.bool false)], args := [d] }
  | _ => none }
def LowerMayWrongFalsely : Prop := lowerMayRow.holds Try.pinned (OpenSpec.ofChange lowerMayWrong)

/-- 'lathelaw24.LayoutJumps': WHATEVER THE INPUT: true; the input reads as it did. -/
def layoutJumpsSpec : ChangeSpec := { name := "layoutJumps", fn := fun _ => fun
  | [d1, d2] => { results := [.lit (.bool true)], args := [d1, d2] }
  | _ => none }
def layoutJumpsRow : OpenClaim := { program := "ytcngafhpodeenaa", sum := "d8496309a39560abdcde4a23325c08c6a1d2c6bfe5ffaa8261637a55d2b473f7", func := "lathe/lathelaw24.LayoutJumps", spec := "layoutJumps", unfollowed := true, recurses := true, apart := false }
def LayoutJumpsSaid : Prop := layoutJumpsRow.holds Try.pinned (OpenSpec.ofChange layoutJumpsSpec)

/-- ITS FALSE NEIGHBOUR: 'it returns false'. Refute it at one input. -/
def layoutJumpsWrong : ChangeSpec := { name := "layoutJumps", fn := fun _ => fun
  | [d1, d2] => { results := [.lit (.bool false)], args := [d1, d2] }
  | _ => none }
def LayoutJumpsWrongFalsely : Prop := layoutJumpsRow.holds Try.pinned (OpenSpec.ofChange layoutJumpsWrong)

/-- 'lathelaw24.LayoutMoved': WHATEVER THE INPUT: true; the input reads as it did. -/
def layoutMovedSpec : ChangeSpec := { name := "layoutMoved", fn := fun _ => fun
  | [d1, d2] => { results := [.lit (.bool true)], args := [d1, d2] }
  | _ => none }
def layoutMovedRow : OpenClaim := { program := "ytcngafhpodeenaa", sum := "d8496309a39560abdcde4a23325c08c6a1d2c6bfe5ffaa8261637a55d2b473f7", func := "lathe/lathelaw24.LayoutMoved", spec := "layoutMoved", unfollowed := true, recurses := true, apart := false }
def LayoutMovedSaid : Prop := layoutMovedRow.holds Try.pinned (OpenSpec.ofChange layoutMovedSpec)

/-- ITS FALSE NEIGHBOUR: 'it returns false'. Refute it at one input. -/
def layoutMovedWrong : ChangeSpec := { name := "layoutMoved", fn := fun _ => fun
  | [d1, d2] => { results := [.lit (.bool false)], args := [d1, d2] }
  | _ => none }
def LayoutMovedWrongFalsely : Prop := layoutMovedRow.holds Try.pinned (OpenSpec.ofChange layoutMovedWrong)

/-- 'lathelaw24.LayoutShort': WHATEVER THE INPUT: true; the input reads as it did. -/
def layoutShortSpec : ChangeSpec := { name := "layoutShort", fn := fun _ => fun
  | [d1, d2] => { results := [.lit (.bool true)], args := [d1, d2] }
  | _ => none }
def layoutShortRow : OpenClaim := { program := "ytcngafhpodeenaa", sum := "d8496309a39560abdcde4a23325c08c6a1d2c6bfe5ffaa8261637a55d2b473f7", func := "lathe/lathelaw24.LayoutShort", spec := "layoutShort", unfollowed := true, recurses := true, apart := false }
def LayoutShortSaid : Prop := layoutShortRow.holds Try.pinned (OpenSpec.ofChange layoutShortSpec)

/-- ITS FALSE NEIGHBOUR: 'it returns false'. Refute it at one input. -/
def layoutShortWrong : ChangeSpec := { name := "layoutShort", fn := fun _ => fun
  | [d1, d2] => { results := [.lit (.bool false)], args := [d1, d2] }
  | _ => none }
def LayoutShortWrongFalsely : Prop := layoutShortRow.holds Try.pinned (OpenSpec.ofChange layoutShortWrong)

/- THE SECOND FORM. 'bulk': how many values and letters a reading holds, each counted each time it is reached (what is shared counts as often as it is met; a slice's spare places count too). A statement '..UptoSaid' is the law's where the arguments, and the package variables that the reading takes, are together of bulk at most 1048576: NARROWER than '..Said'. Prove '..Said' where nothing that the law and all that it calls make is longer than what came in: it says more and counts as full. Else prove '..UptoSaid'. A law counts once. -/
mutual
def uptoBulk {H : Type} : DataW H → Nat
  | .lit (.string bytes) => bytes.length + 1
  | .lit _ => 1
  | .nil => 1
  | .ptr d => uptoBulk d + 1
  | .slice elems spare => uptoBulkAll elems + uptoBulkAll spare + 1
  | .agg parts => uptoBulkAll parts + 1
  | .iface _ d => uptoBulk d + 1
  | .map entries => uptoBulkEntries entries + 1
  | .held _ => 1
def uptoBulkAll {H : Type} : List (DataW H) → Nat
  | [] => 0
  | d :: r => uptoBulk d + uptoBulkAll r
def uptoBulkEntries {H : Type} : List (Lit × DataW H) → Nat
  | [] => 0
  | x :: r => uptoBulkEntry x + uptoBulkEntries r
def uptoBulkEntry {H : Type} : Lit × DataW H → Nat
  | (.string bytes, d) => bytes.length + uptoBulk d + 1
  | (_, d) => uptoBulk d + 1
 end
def uptoSmall : (H : Type) → List (DataW H) → Bool := fun _ ds => decide (uptoBulkAll ds ≤ 1048576)
def OpenSpec.upto (s : _root_.Go.ChangeSpec) : _root_.Go.OpenSpec := { _root_.Go.OpenSpec.ofChange s with cond := some uptoSmall }

/-- 'lathelaw18.LowerRuns', WHERE WHAT IT READS IS OF BULK AT MOST 1048576: true; the input reads as it did. -/
def lowerRunsUptoRow : OpenClaim := { program := "ytcngafhpodeenaa", sum := "d8496309a39560abdcde4a23325c08c6a1d2c6bfe5ffaa8261637a55d2b473f7", func := "lathe/lathelaw18.LowerRuns", spec := "lowerRuns", unfollowed := true, recurses := true, apart := false, narrowed := true }
def LowerRunsUptoSaid : Prop := lowerRunsUptoRow.holds Try.pinned (OpenSpec.upto lowerRunsSpec)

/-- 'lathelaw13.EncodeReads', WHERE WHAT IT READS IS OF BULK AT MOST 1048576: true; the input reads as it did. -/
def encodeReadsUptoRow : OpenClaim := { program := "ytcngafhpodeenaa", sum := "d8496309a39560abdcde4a23325c08c6a1d2c6bfe5ffaa8261637a55d2b473f7", func := "lathe/lathelaw13.EncodeReads", spec := "encodeReads", unfollowed := true, recurses := true, apart := false, narrowed := true }
def EncodeReadsUptoSaid : Prop := encodeReadsUptoRow.holds Try.pinned (OpenSpec.upto encodeReadsSpec)

/-- 'lathelaw13.EncodeBack', WHERE WHAT IT READS IS OF BULK AT MOST 1048576: true; the input reads as it did. -/
def encodeBackUptoRow : OpenClaim := { program := "ytcngafhpodeenaa", sum := "d8496309a39560abdcde4a23325c08c6a1d2c6bfe5ffaa8261637a55d2b473f7", func := "lathe/lathelaw13.EncodeBack", spec := "encodeBack", unfollowed := true, recurses := true, apart := false, narrowed := true }
def EncodeBackUptoSaid : Prop := encodeBackUptoRow.holds Try.pinned (OpenSpec.upto encodeBackSpec)

/-- 'lathelaw13.EncodeRows', WHERE WHAT IT READS IS OF BULK AT MOST 1048576: true; the input reads as it did. -/
def encodeRowsUptoRow : OpenClaim := { program := "ytcngafhpodeenaa", sum := "d8496309a39560abdcde4a23325c08c6a1d2c6bfe5ffaa8261637a55d2b473f7", func := "lathe/lathelaw13.EncodeRows", spec := "encodeRows", unfollowed := true, recurses := true, apart := false, narrowed := true }
def EncodeRowsUptoSaid : Prop := encodeRowsUptoRow.holds Try.pinned (OpenSpec.upto encodeRowsSpec)

/-- 'lathelaw24.LayoutRuns', WHERE WHAT IT READS IS OF BULK AT MOST 1048576: true; the input reads as it did. -/
def layoutRunsUptoRow : OpenClaim := { program := "ytcngafhpodeenaa", sum := "d8496309a39560abdcde4a23325c08c6a1d2c6bfe5ffaa8261637a55d2b473f7", func := "lathe/lathelaw24.LayoutRuns", spec := "layoutRuns", unfollowed := true, recurses := true, apart := false, narrowed := true }
def LayoutRunsUptoSaid : Prop := layoutRunsUptoRow.holds Try.pinned (OpenSpec.upto layoutRunsSpec)

/-- 'lathelaw18.LowerMay', WHERE WHAT IT READS IS OF BULK AT MOST 1048576: true; the input reads as it did. -/
def lowerMayUptoRow : OpenClaim := { program := "ytcngafhpodeenaa", sum := "d8496309a39560abdcde4a23325c08c6a1d2c6bfe5ffaa8261637a55d2b473f7", func := "lathe/lathelaw18.LowerMay", spec := "lowerMay", unfollowed := true, recurses := true, apart := false, narrowed := true }
def LowerMayUptoSaid : Prop := lowerMayUptoRow.holds Try.pinned (OpenSpec.upto lowerMaySpec)

/-- 'lathelaw24.LayoutJumps', WHERE WHAT IT READS IS OF BULK AT MOST 1048576: true; the input reads as it did. -/
def layoutJumpsUptoRow : OpenClaim := { program := "ytcngafhpodeenaa", sum := "d8496309a39560abdcde4a23325c08c6a1d2c6bfe5ffaa8261637a55d2b473f7", func := "lathe/lathelaw24.LayoutJumps", spec := "layoutJumps", unfollowed := true, recurses := true, apart := false, narrowed := true }
def LayoutJumpsUptoSaid : Prop := layoutJumpsUptoRow.holds Try.pinned (OpenSpec.upto layoutJumpsSpec)

/-- 'lathelaw24.LayoutMoved', WHERE WHAT IT READS IS OF BULK AT MOST 1048576: true; the input reads as it did. -/
def layoutMovedUptoRow : OpenClaim := { program := "ytcngafhpodeenaa", sum := "d8496309a39560abdcde4a23325c08c6a1d2c6bfe5ffaa8261637a55d2b473f7", func := "lathe/lathelaw24.LayoutMoved", spec := "layoutMoved", unfollowed := true, recurses := true, apart := false, narrowed := true }
def LayoutMovedUptoSaid : Prop := layoutMovedUptoRow.holds Try.pinned (OpenSpec.upto layoutMovedSpec)

/-- 'lathelaw24.LayoutShort', WHERE WHAT IT READS IS OF BULK AT MOST 1048576: true; the input reads as it did. -/
def layoutShortUptoRow : OpenClaim := { program := "ytcngafhpodeenaa", sum := "d8496309a39560abdcde4a23325c08c6a1d2c6bfe5ffaa8261637a55d2b473f7", func := "lathe/lathelaw24.LayoutShort", spec := "layoutShort", unfollowed := true, recurses := true, apart := false, narrowed := true }
def LayoutShortUptoSaid : Prop := layoutShortUptoRow.holds Try.pinned (OpenSpec.upto layoutShortSpec)

end Rows
end Go.Proofs.Ytcngafhpodeenaa
