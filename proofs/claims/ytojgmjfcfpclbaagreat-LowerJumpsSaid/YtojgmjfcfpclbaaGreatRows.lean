/-
  No cell of these rows narrows 'for every input' (looked for: loops, veiled, ifaces, maps, wideKeys, modest, calm, conditions, laid).
  DERIVED. THE GIVEN ROWS OF THIS SEAT. 5 by the template 'for every input the law returns true; each argument reads behind the call as it read before'; 0 by the template 'total and deterministic' (their statements: YtojgmjfcfpclbaaGreatTotals.lean).
  GIVEN WITH THE SEED: the statements are not yours to turn. If you find one false, say at which input.
  Laid BY PROGRAM, IN A SANDBOX (cutbox-rows.mjs): the forced cells as the released guide's own fill.sh prints them over the translation 9840f6f77c392139… (all of the seat's roots in one cut). By AI agents, Wed Nov 11 2026. No macro, syntax, notation, axiom, sorry.
-/
import Derived.Test.YtojgmjfcfpclbaaGreatChecked
import GoSem.Claim
import GoSem.ClaimJoined
import GoSem.ClaimMapViews
import Derived.JoinedTies
import Derived.KernelRfl
namespace Go.Proofs.YtojgmjfcfpclbaaGreat
/- THE CELL 'sum', in the pinned program and in every row, IS THE sha256 OF THE DUMP (.gsa) THAT YtojgmjfcfpclbaaGreatProg.lean LOADS. Nothing in Lean hashes anything: it is a label: what it is worth is what the hold of that sum in a sandbox is worth. -/
noncomputable def Tryz.pinned : Pinned := { name := "ytojgmjfcfpclbaagreat", sum := "9840f6f77c3921399ae0f12b4b86828dc0cd8feb4ef56ef0711e5cd44a902270", checked := Tryz.checked }
namespace Rows
def none {H : Type} : Left H := { results := [], args := [] }

/-- 'lathelaw15.ExecTells': WHATEVER THE INPUT: true; the input reads as it did. -/
def execTellsSpec : ChangeSpec := { name := "execTells", fn := fun _ => fun
  | [d1, d2, d3, d4] => { results := [.lit (.bool true)], args := [d1, d2, d3, d4] }
  | _ => none }
def execTellsRow : OpenClaim := { program := "ytojgmjfcfpclbaagreat", sum := "9840f6f77c3921399ae0f12b4b86828dc0cd8feb4ef56ef0711e5cd44a902270", func := "lathe/lathelaw15.ExecTells", spec := "execTells", unfollowed := true, recurses := true, apart := false }
def ExecTellsSaid : Prop := execTellsRow.holds Tryz.pinned (OpenSpec.ofChange execTellsSpec)

/-- ITS FALSE NEIGHBOUR: 'it returns false'. Refute it at one input. -/
def execTellsWrong : ChangeSpec := { name := "execTells", fn := fun _ => fun
  | [d1, d2, d3, d4] => { results := [.lit (.bool false)], args := [d1, d2, d3, d4] }
  | _ => none }
def ExecTellsWrongFalsely : Prop := execTellsRow.holds Tryz.pinned (OpenSpec.ofChange execTellsWrong)

/-- 'lathelaw17.IrTells': WHATEVER THE INPUT: true; the input reads as it did. -/
def irTellsSpec : ChangeSpec := { name := "irTells", fn := fun _ => fun
  | [d1, d2, d3] => { results := [.lit (.bool true)], args := [d1, d2, d3] }
  | _ => none }
def irTellsRow : OpenClaim := { program := "ytojgmjfcfpclbaagreat", sum := "9840f6f77c3921399ae0f12b4b86828dc0cd8feb4ef56ef0711e5cd44a902270", func := "lathe/lathelaw17.IrTells", spec := "irTells", unfollowed := true, recurses := true, apart := false }
def IrTellsSaid : Prop := irTellsRow.holds Tryz.pinned (OpenSpec.ofChange irTellsSpec)

/-- ITS FALSE NEIGHBOUR: 'it returns false'. Refute it at one input. -/
def irTellsWrong : ChangeSpec := { name := "irTells", fn := fun _ => fun
  | [d1, d2, d3] => { results := [.lit (.bool false)], args := [d1, d2, d3] }
  | _ => none }
def IrTellsWrongFalsely : Prop := irTellsRow.holds Tryz.pinned (OpenSpec.ofChange irTellsWrong)

/-- 'lathelaw18.LowerRight': WHATEVER THE INPUT: true; the input reads as it did. -/
def lowerRightSpec : ChangeSpec := { name := "lowerRight", fn := fun _ => fun
  | [d1, d2] => { results := [.lit (.bool true)], args := [d1, d2] }
  | _ => none }
def lowerRightRow : OpenClaim := { program := "ytojgmjfcfpclbaagreat", sum := "9840f6f77c3921399ae0f12b4b86828dc0cd8feb4ef56ef0711e5cd44a902270", func := "lathe/lathelaw18.LowerRight", spec := "lowerRight", unfollowed := true, recurses := true, apart := false }
def LowerRightSaid : Prop := lowerRightRow.holds Tryz.pinned (OpenSpec.ofChange lowerRightSpec)

/-- ITS FALSE NEIGHBOUR: 'it returns false'. Refute it at one input. -/
def lowerRightWrong : ChangeSpec := { name := "lowerRight", fn := fun _ => fun
  | [d1, d2] => { results := [.lit (.bool false)], args := [d1, d2] }
  | _ => none }
def LowerRightWrongFalsely : Prop := lowerRightRow.holds Tryz.pinned (OpenSpec.ofChange lowerRightWrong)

/-- 'lathelaw18.LowerTwo': WHATEVER THE INPUT: true; the input reads as it did. -/
def lowerTwoSpec : ChangeSpec := { name := "lowerTwo", fn := fun _ => fun
  | [d1, d2, d3] => { results := [.lit (.bool true)], args := [d1, d2, d3] }
  | _ => none }
def lowerTwoRow : OpenClaim := { program := "ytojgmjfcfpclbaagreat", sum := "9840f6f77c3921399ae0f12b4b86828dc0cd8feb4ef56ef0711e5cd44a902270", func := "lathe/lathelaw18.LowerTwo", spec := "lowerTwo", unfollowed := true, recurses := true, apart := false }
def LowerTwoSaid : Prop := lowerTwoRow.holds Tryz.pinned (OpenSpec.ofChange lowerTwoSpec)

/-- ITS FALSE NEIGHBOUR: 'it returns false'. Refute it at one input. -/
def lowerTwoWrong : ChangeSpec := { name := "lowerTwo", fn := fun _ => fun
  | [d1, d2, d3] => { results := [.lit (.bool false)], args := [d1, d2, d3] }
  | _ => none }
def LowerTwoWrongFalsely : Prop := lowerTwoRow.holds Tryz.pinned (OpenSpec.ofChange lowerTwoWrong)

/-- 'lathelaw18.LowerJumps': WHATEVER THE INPUT: true; the input reads as it did. -/
def lowerJumpsSpec : ChangeSpec := { name := "lowerJumps", fn := fun _ => fun
  | [d1, d2] => { results := [.lit (.bool true)], args := [d1, d2] }
  | _ => none }
def lowerJumpsRow : OpenClaim := { program := "ytojgmjfcfpclbaagreat", sum := "9840f6f77c3921399ae0f12b4b86828dc0cd8feb4ef56ef0711e5cd44a902270", func := "lathe/lathelaw18.LowerJumps", spec := "lowerJumps", unfollowed := true, recurses := true, apart := false }
def LowerJumpsSaid : Prop := lowerJumpsRow.holds Tryz.pinned (OpenSpec.ofChange lowerJumpsSpec)

/-- ITS FALSE NEIGHBOUR: 'it returns false'. Refute it at one input. -/
def lowerJumpsWrong : ChangeSpec := { name := "lowerJumps", fn := fun _ => fun
  | [d1, d2] => { results := [.lit (.bool false)], args := [d1, d2] }
  | _ => none }
def LowerJumpsWrongFalsely : Prop := lowerJumpsRow.holds Tryz.pinned (OpenSpec.ofChange lowerJumpsWrong)

/- THE SECOND FORM. 'bulk': how many values and letters a reading holds, each counted each time it is reached (what is shared counts as often as it is met; a slice's spare places count too). A statement '..UptoSaid' is the law's where the arguments, and the package variables that the reading takes, are together of bulk at most 1048576: NARROWER than '..Said'. Prove '..Said' where nothing that the law and all that it calls make is longer than what came in: it says more and counts as full. Else prove '..UptoSaid'. A law counts once. -/
mutual
def uptoBulk {H : Type} : DataW H → Nat
  | .lit (.string bytes) => bytes.length + 1
  | .lit _ => 1
  | .nil => 1
  | .ptr d => uptoBulk d + 1
  | .slice elems spare => uptoBulkAll elems + uptoBulkAll spare + 1
  | .agg parts => uptoBulkAll parts + 1
  | .iface _ d => uptoBulk d + 1
  | .map entries => uptoBulkEntries entries + 1
  | .held _ => 1
def uptoBulkAll {H : Type} : List (DataW H) → Nat
  | [] => 0
  | d :: r => uptoBulk d + uptoBulkAll r
def uptoBulkEntries {H : Type} : List (Lit × DataW H) → Nat
  | [] => 0
  | x :: r => uptoBulkEntry x + uptoBulkEntries r
def uptoBulkEntry {H : Type} : Lit × DataW H → Nat
  | (.string bytes, d) => bytes.length + uptoBulk d + 1
  | (_, d) => uptoBulk d + 1
 end
def uptoSmall : (H : Type) → List (DataW H) → Bool := fun _ ds => decide (uptoBulkAll ds ≤ 1048576)
def OpenSpec.upto (s : _root_.Go.ChangeSpec) : _root_.Go.OpenSpec := { _root_.Go.OpenSpec.ofChange s with cond := some uptoSmall }

/-- 'lathelaw15.ExecTells', WHERE WHAT IT READS IS OF BULK AT MOST 1048576: true; the input reads as it did. -/
def execTellsUptoRow : OpenClaim := { program := "ytojgmjfcfpclbaagreat", sum := "9840f6f77c3921399ae0f12b4b86828dc0cd8feb4ef56ef0711e5cd44a902270", func := "lathe/lathelaw15.ExecTells", spec := "execTells", unfollowed := true, recurses := true, apart := false, narrowed := true }
def ExecTellsUptoSaid : Prop := execTellsUptoRow.holds Tryz.pinned (OpenSpec.upto execTellsSpec)

/-- 'lathelaw17.IrTells', WHERE WHAT IT READS IS OF BULK AT MOST 1048576: true; the input reads as it did. -/
def irTellsUptoRow : OpenClaim := { program := "ytojgmjfcfpclbaagreat", sum := "9840f6f77c3921399ae0f12b4b86828dc0cd8feb4ef56ef0711e5cd44a902270", func := "lathe/lathelaw17.IrTells", spec := "irTells", unfollowed := true, recurses := true, apart := false, narrowed := true }
def IrTellsUptoSaid : Prop := irTellsUptoRow.holds Tryz.pinned (OpenSpec.upto irTellsSpec)

/-- 'lathelaw18.LowerRight', WHERE WHAT IT READS IS OF BULK AT MOST 1048576: true; the input reads as it did. -/
def lowerRightUptoRow : OpenClaim := { program := "ytojgmjfcfpclbaagreat", sum := "9840f6f77c3921399ae0f12b4b86828dc0cd8feb4ef56ef0711e5cd44a902270", func := "lathe/lathelaw18.LowerRight", spec := "lowerRight", unfollowed := true, recurses := true, apart := false, narrowed := true }
def LowerRightUptoSaid : Prop := lowerRightUptoRow.holds Tryz.pinned (OpenSpec.upto lowerRightSpec)

/-- 'lathelaw18.LowerTwo', WHERE WHAT IT READS IS OF BULK AT MOST 1048576: true; the input reads as it did. -/
def lowerTwoUptoRow : OpenClaim := { program := "ytojgmjfcfpclbaagreat", sum := "9840f6f77c3921399ae0f12b4b86828dc0cd8feb4ef56ef0711e5cd44a902270", func := "lathe/lathelaw18.LowerTwo", spec := "lowerTwo", unfollowed := true, recurses := true, apart := false, narrowed := true }
def LowerTwoUptoSaid : Prop := lowerTwoUptoRow.holds Tryz.pinned (OpenSpec.upto lowerTwoSpec)

/-- 'lathelaw18.LowerJumps', WHERE WHAT IT READS IS OF BULK AT MOST 1048576: true; the input reads as it did. -/
def lowerJumpsUptoRow : OpenClaim := { program := "ytojgmjfcfpclbaagreat", sum := "9840f6f77c3921399ae0f12b4b86828dc0cd8feb4ef56ef0711e5cd44a902270", func := "lathe/lathelaw18.LowerJumps", spec := "lowerJumps", unfollowed := true, recurses := true, apart := false, narrowed := true }
def LowerJumpsUptoSaid : Prop := lowerJumpsUptoRow.holds Tryz.pinned (OpenSpec.upto lowerJumpsSpec)

end Rows
end Go.Proofs.YtojgmjfcfpclbaaGreat
