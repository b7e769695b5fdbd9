/-
  No cell of these rows narrows 'for every input' (looked for: loops, veiled, ifaces, maps, wideKeys, modest, calm, conditions, laid).
  DERIVED. THE GIVEN ROWS OF THIS SEAT. 7 by the template 'for every input the law returns true; each argument reads behind the call as it read before'; 0 by the template 'total and deterministic' (their statements: YtojgmjfcfpclbaaTotals.lean).
  GIVEN WITH THE SEED: the statements are not yours to turn. If you find one false, say at which input.
  Laid BY PROGRAM, IN A SANDBOX (cutbox-rows.mjs): the forced cells as the released guide's own fill.sh prints them over the translation ae99e9e49516ae5b… (all of the seat's roots in one cut). By AI agents, Wed Nov 11 2026. No macro, syntax, notation, axiom, sorry.
-/
import Derived.Test.YtojgmjfcfpclbaaChecked
import GoSem.Claim
import GoSem.ClaimJoined
import GoSem.ClaimMapViews
import Derived.JoinedTies
import Derived.KernelRfl
namespace Go.Proofs.Ytojgmjfcfpclbaa
/- THE CELL 'sum', in the pinned program and in every row, IS THE sha256 OF THE DUMP (.gsa) THAT YtojgmjfcfpclbaaProg.lean LOADS. Nothing in Lean hashes anything: it is a label: what it is worth is what the hold of that sum in a sandbox is worth. -/
noncomputable def Try.pinned : Pinned := { name := "ytojgmjfcfpclbaa", sum := "ae99e9e49516ae5b561f96fc94edb18692bc0ca3c50f2c82c5481afdf1f8c6ff", checked := Try.checked }
namespace Rows
def none {H : Type} : Left H := { results := [], args := [] }

/-- 'lathelaw17.IrParts': WHATEVER THE INPUT: true; the input reads as it did. -/
def irPartsSpec : ChangeSpec := { name := "irParts", fn := fun _ => fun
  | [d1, d2, d3] => { results := [.lit (.bool true)], args := [d1, d2, d3] }
  | _ => none }
def irPartsRow : OpenClaim := { program := "ytojgmjfcfpclbaa", sum := "ae99e9e49516ae5b561f96fc94edb18692bc0ca3c50f2c82c5481afdf1f8c6ff", func := "lathe/lathelaw17.IrParts", spec := "irParts", unfollowed := true, recurses := true, apart := false }
def IrPartsSaid : Prop := irPartsRow.holds Try.pinned (OpenSpec.ofChange irPartsSpec)

/-- ITS FALSE NEIGHBOUR: 'it returns false'. Refute it at one input. -/
def irPartsWrong : ChangeSpec := { name := "irParts", fn := fun _ => fun
  | [d1, d2, d3] => { results := [.lit (.bool false)], args := [d1, d2, d3] }
  | _ => none }
def IrPartsWrongFalsely : Prop := irPartsRow.holds Try.pinned (OpenSpec.ofChange irPartsWrong)

/-- 'lathelaw17.IrBehind': WHATEVER THE INPUT: true; the input reads as it did. -/
def irBehindSpec : ChangeSpec := { name := "irBehind", fn := fun _ => fun
  | [d1, d2, d3] => { results := [.lit (.bool true)], args := [d1, d2, d3] }
  | _ => none }
def irBehindRow : OpenClaim := { program := "ytojgmjfcfpclbaa", sum := "ae99e9e49516ae5b561f96fc94edb18692bc0ca3c50f2c82c5481afdf1f8c6ff", func := "lathe/lathelaw17.IrBehind", spec := "irBehind", unfollowed := true, recurses := true, apart := false }
def IrBehindSaid : Prop := irBehindRow.holds Try.pinned (OpenSpec.ofChange irBehindSpec)

/-- ITS FALSE NEIGHBOUR: 'it returns false'. Refute it at one input. -/
def irBehindWrong : ChangeSpec := { name := "irBehind", fn := fun _ => fun
  | [d1, d2, d3] => { results := [.lit (.bool false)], args := [d1, d2, d3] }
  | _ => none }
def IrBehindWrongFalsely : Prop := irBehindRow.holds Try.pinned (OpenSpec.ofChange irBehindWrong)

/-- 'lathelaw17.IrOne': WHATEVER THE INPUT: true; the input reads as it did. -/
def irOneSpec : ChangeSpec := { name := "irOne", fn := fun _ => fun
  | [d1, d2] => { results := [.lit (.bool true)], args := [d1, d2] }
  | _ => none }
def irOneRow : OpenClaim := { program := "ytojgmjfcfpclbaa", sum := "ae99e9e49516ae5b561f96fc94edb18692bc0ca3c50f2c82c5481afdf1f8c6ff", func := "lathe/lathelaw17.IrOne", spec := "irOne", unfollowed := true, recurses := true, apart := false }
def IrOneSaid : Prop := irOneRow.holds Try.pinned (OpenSpec.ofChange irOneSpec)

/-- ITS FALSE NEIGHBOUR: 'it returns false'. Refute it at one input. -/
def irOneWrong : ChangeSpec := { name := "irOne", fn := fun _ => fun
  | [d1, d2] => { results := [.lit (.bool false)], args := [d1, d2] }
  | _ => none }
def IrOneWrongFalsely : Prop := irOneRow.holds Try.pinned (OpenSpec.ofChange irOneWrong)

/-- 'lathelaw17.IrKeeps': WHATEVER THE INPUT: true; the input reads as it did. -/
def irKeepsSpec : ChangeSpec := { name := "irKeeps", fn := fun _ => fun
  | [d1, d2, d3, d4] => { results := [.lit (.bool true)], args := [d1, d2, d3, d4] }
  | _ => none }
def irKeepsRow : OpenClaim := { program := "ytojgmjfcfpclbaa", sum := "ae99e9e49516ae5b561f96fc94edb18692bc0ca3c50f2c82c5481afdf1f8c6ff", func := "lathe/lathelaw17.IrKeeps", spec := "irKeeps", unfollowed := true, recurses := true, apart := false }
def IrKeepsSaid : Prop := irKeepsRow.holds Try.pinned (OpenSpec.ofChange irKeepsSpec)

/-- ITS FALSE NEIGHBOUR: 'it returns false'. Refute it at one input. -/
def irKeepsWrong : ChangeSpec := { name := "irKeeps", fn := fun _ => fun
  | [d1, d2, d3, d4] => { results := [.lit (.bool false)], args := [d1, d2, d3, d4] }
  | _ => none }
def IrKeepsWrongFalsely : Prop := irKeepsRow.holds Try.pinned (OpenSpec.ofChange irKeepsWrong)

/-- 'lathelaw18.LowerRuns': WHATEVER THE INPUT: true; the input reads as it did. -/
def lowerRunsSpec : ChangeSpec := { name := "lowerRuns", fn := fun _ => fun
  | [d] => { results := [.lit (.bool true)], args := [d] }
  | _ => none }
def lowerRunsRow : OpenClaim := { program := "ytojgmjfcfpclbaa", sum := "ae99e9e49516ae5b561f96fc94edb18692bc0ca3c50f2c82c5481afdf1f8c6ff", func := "lathe/lathelaw18.LowerRuns", spec := "lowerRuns", unfollowed := true, recurses := true, apart := false }
def LowerRunsSaid : Prop := lowerRunsRow.holds Try.pinned (OpenSpec.ofChange lowerRunsSpec)

/-- ITS FALSE NEIGHBOUR: 'it returns false'. Refute it at one input. -/
def lowerRunsWrong : ChangeSpec := { name := "lowerRuns", fn := fun _ => fun
  | [d] => { results := [.lit (.bool false)], args := [d] }
  | _ => none }
def LowerRunsWrongFalsely : Prop := lowerRunsRow.holds Try.pinned (OpenSpec.ofChange lowerRunsWrong)

/-- 'lathelaw18.LowerMay': WHATEVER THE INPUT: true; the input reads as it did. -/
def lowerMaySpec : ChangeSpec := { name := "lowerMay", fn := fun _ => fun
  | [d] => { results := [.lit (.bool true)], args := [d] }
  | _ => none }
def lowerMayRow : OpenClaim := { program := "ytojgmjfcfpclbaa", sum := "ae99e9e49516ae5b561f96fc94edb18692bc0ca3c50f2c82c5481afdf1f8c6ff", func := "lathe/lathelaw18.LowerMay", spec := "lowerMay", unfollowed := true, recurses := true, apart := false }
def LowerMaySaid : Prop := lowerMayRow.holds Try.pinned (OpenSpec.ofChange lowerMaySpec)

/-- ITS FALSE NEIGHBOUR: 'it returns false'. Refute it at one input. -/
def lowerMayWrong : ChangeSpec := { name := "lowerMay", fn := fun _ => fun
  | [d] => { results := [.lit (.bool false)], args := [d] }
  | _ => none }
def LowerMayWrongFalsely : Prop := lowerMayRow.holds Try.pinned (OpenSpec.ofChange lowerMayWrong)

/-- 'lathelaw23.FrameNowhere': WHATEVER THE INPUT: true; the input reads as it did. -/
def frameNowhereSpec : ChangeSpec := { name := "frameNowhere", fn := fun _ => fun
  | [d1, d2, d3] => { results := [.lit (.bool true)], args := [d1, d2, d3] }
  | _ => none }
def frameNowhereRow : OpenClaim := { program := "ytojgmjfcfpclbaa", sum := "ae99e9e49516ae5b561f96fc94edb18692bc0ca3c50f2c82c5481afdf1f8c6ff", func := "lathe/lathelaw23.FrameNowhere", spec := "frameNowhere", unfollowed := true, recurses := true, apart := false }
def FrameNowhereSaid : Prop := frameNowhereRow.holds Try.pinned (OpenSpec.ofChange frameNowhereSpec)

/-- ITS FALSE NEIGHBOUR: 'it returns false'. Refute it at one input. -/
def frameNowhereWrong : ChangeSpec := { name := "frameNowhere", fn := fun _ => fun
  | [d1, d2, d3] => { results := [.lit (.bool false)], args := [d1, d2, d3] }
  | _ => none }
def FrameNowhereWrongFalsely : Prop := frameNowhereRow.holds Try.pinned (OpenSpec.ofChange frameNowhereWrong)

/- THE SECOND FORM. 'bulk': how many values and letters a reading holds, each counted each time it is reached (what is shared counts as often as it is met; a slice's spare places count too). A statement '..UptoSaid' is the law's where the arguments, and the package variables that the reading takes, are together of bulk at most 1048576: NARROWER than '..Said'. Prove '..Said' where nothing that the law and all that it calls make is longer than what came in: it says more and counts as full. Else prove '..UptoSaid'. A law counts once. -/
mutual
def uptoBulk {H : Type} : DataW H → Nat
  | .lit (.string bytes) => bytes.length + 1
  | .lit _ => 1
  | .nil => 1
  | .ptr d => uptoBulk d + 1
  | .slice elems spare => uptoBulkAll elems + uptoBulkAll spare + 1
  | .agg parts => uptoBulkAll parts + 1
  | .iface _ d => uptoBulk d + 1
  | .map entries => uptoBulkEntries entries + 1
  | .held _ => 1
def uptoBulkAll {H : Type} : List (DataW H) → Nat
  | [] => 0
  | d :: r => uptoBulk d + uptoBulkAll r
def uptoBulkEntries {H : Type} : List (Lit × DataW H) → Nat
  | [] => 0
  | x :: r => uptoBulkEntry x + uptoBulkEntries r
def uptoBulkEntry {H : Type} : Lit × DataW H → Nat
  | (.string bytes, d) => bytes.length + uptoBulk d + 1
  | (_, d) => uptoBulk d + 1
 end
def uptoSmall : (H : Type) → List (DataW H) → Bool := fun _ ds => decide (uptoBulkAll ds ≤ 1048576)
def OpenSpec.upto (s : _root_.Go.ChangeSpec) : _root_.Go.OpenSpec := { _root_.Go.OpenSpec.ofChange s with cond := some uptoSmall }

/-- 'lathelaw17.IrParts', WHERE WHAT IT READS IS OF BULK AT MOST 1048576: true; the input reads as it did. -/
def irPartsUptoRow : OpenClaim := { program := "ytojgmjfcfpclbaa", sum := "ae99e9e49516ae5b561f96fc94edb18692bc0ca3c50f2c82c5481afdf1f8c6ff", func := "lathe/lathelaw17.IrParts", spec := "irParts", unfollowed := true, recurses := true, apart := false, narrowed := true }
def IrPartsUptoSaid : Prop := irPartsUptoRow.holds Try.pinned (OpenSpec.upto irPartsSpec)

/-- 'lathelaw17.IrBehind', WHERE WHAT IT READS IS OF BULK AT MOST 1048576: true; the input reads as it did. -/
def irBehindUptoRow : OpenClaim := { program := "ytojgmjfcfpclbaa", sum := "ae99e9e49516ae5b561f96fc94edb18692bc0ca3c50f2c82c5481afdf1f8c6ff", func := "lathe/lathelaw17.IrBehind", spec := "irBehind", unfollowed := true, recurses := true, apart := false, narrowed := true }
def IrBehindUptoSaid : Prop := irBehindUptoRow.holds Try.pinned (OpenSpec.upto irBehindSpec)

/-- 'lathelaw17.IrOne', WHERE WHAT IT READS IS OF BULK AT MOST 1048576: true; the input reads as it did. -/
def irOneUptoRow : OpenClaim := { program := "ytojgmjfcfpclbaa", sum := "ae99e9e49516ae5b561f96fc94edb18692bc0ca3c50f2c82c5481afdf1f8c6ff", func := "lathe/lathelaw17.IrOne", spec := "irOne", unfollowed := true, recurses := true, apart := false, narrowed := true }
def IrOneUptoSaid : Prop := irOneUptoRow.holds Try.pinned (OpenSpec.upto irOneSpec)

/-- 'lathelaw17.IrKeeps', WHERE WHAT IT READS IS OF BULK AT MOST 1048576: true; the input reads as it did. -/
def irKeepsUptoRow : OpenClaim := { program := "ytojgmjfcfpclbaa", sum := "ae99e9e49516ae5b561f96fc94edb18692bc0ca3c50f2c82c5481afdf1f8c6ff", func := "lathe/lathelaw17.IrKeeps", spec := "irKeeps", unfollowed := true, recurses := true, apart := false, narrowed := true }
def IrKeepsUptoSaid : Prop := irKeepsUptoRow.holds Try.pinned (OpenSpec.upto irKeepsSpec)

/-- 'lathelaw18.LowerRuns', WHERE WHAT IT READS IS OF BULK AT MOST 1048576: true; the input reads as it did. -/
def lowerRunsUptoRow : OpenClaim := { program := "ytojgmjfcfpclbaa", sum := "ae99e9e49516ae5b561f96fc94edb18692bc0ca3c50f2c82c5481afdf1f8c6ff", func := "lathe/lathelaw18.LowerRuns", spec := "lowerRuns", unfollowed := true, recurses := true, apart := false, narrowed := true }
def LowerRunsUptoSaid : Prop := lowerRunsUptoRow.holds Try.pinned (OpenSpec.upto lowerRunsSpec)

/-- 'lathelaw18.LowerMay', WHERE WHAT IT READS IS OF BULK AT MOST 1048576: true; the input reads as it did. -/
def lowerMayUptoRow : OpenClaim := { program := "ytojgmjfcfpclbaa", sum := "ae99e9e49516ae5b561f96fc94edb18692bc0ca3c50f2c82c5481afdf1f8c6ff", func := "lathe/lathelaw18.LowerMay", spec := "lowerMay", unfollowed := true, recurses := true, apart := false, narrowed := true }
def LowerMayUptoSaid : Prop := lowerMayUptoRow.holds Try.pinned (OpenSpec.upto lowerMaySpec)

/-- 'lathelaw23.FrameNowhere', WHERE WHAT IT READS IS OF BULK AT MOST 1048576: true; the input reads as it did. -/
def frameNowhereUptoRow : OpenClaim := { program := "ytojgmjfcfpclbaa", sum := "ae99e9e49516ae5b561f96fc94edb18692bc0ca3c50f2c82c5481afdf1f8c6ff", func := "lathe/lathelaw23.FrameNowhere", spec := "frameNowhere", unfollowed := true, recurses := true, apart := false, narrowed := true }
def FrameNowhereUptoSaid : Prop := frameNowhereUptoRow.holds Try.pinned (OpenSpec.upto frameNowhereSpec)

end Rows
end Go.Proofs.Ytojgmjfcfpclbaa
