/-
  No cell of these rows narrows 'for every input' (looked for: loops, veiled, ifaces, maps, wideKeys, modest, calm, conditions, laid).
  DERIVED. THE GIVEN ROWS OF THIS SEAT. 4 by the template 'for every input the law returns true; each argument reads behind the call as it read before'; 0 by the template 'total and deterministic' (their statements: YteakhlhhmgpidaaTotals.lean).
  GIVEN WITH THE SEED: the statements are not yours to turn. If you find one false, say at which input.
  Laid BY PROGRAM, IN A SANDBOX (cutbox-rows.mjs): the forced cells as the released guide's own fill.sh prints them over the translation c2be74d3cda7e5be… (all of the seat's roots in one cut). By AI agents, Wed Nov 11 2026. No macro, syntax, notation, axiom, sorry.
-/
import Derived.Test.YteakhlhhmgpidaaChecked
import GoSem.Claim
import GoSem.ClaimJoined
import GoSem.ClaimMapViews
import Derived.JoinedTies
import Derived.KernelRfl
namespace Go.Proofs.Yteakhlhhmgpidaa
/- THE CELL 'sum', in the pinned program and in every row, IS THE sha256 OF THE DUMP (.gsa) THAT YteakhlhhmgpidaaProg.lean LOADS. Nothing in Lean hashes anything: it is a label: what it is worth is what the hold of that sum in a sandbox is worth. -/
noncomputable def Try.pinned : Pinned := { name := "yteakhlhhmgpidaa", sum := "c2be74d3cda7e5be0ce1d3abe1a4c38864355df86c38b39075ef76c280d73a0d", checked := Try.checked }
namespace Rows
def none {H : Type} : Left H := { results := [], args := [] }

/-- 'lathelaw18.LowerOne': WHATEVER THE INPUT: true; the input reads as it did. -/
def lowerOneSpec : ChangeSpec := { name := "lowerOne", fn := fun _ => fun
  | [d] => { results := [.lit (.bool true)], args := [d] }
  | _ => none }
def lowerOneRow : OpenClaim := { program := "yteakhlhhmgpidaa", sum := "c2be74d3cda7e5be0ce1d3abe1a4c38864355df86c38b39075ef76c280d73a0d", func := "lathe/lathelaw18.LowerOne", spec := "lowerOne", unfollowed := true, recurses := true, apart := false }
def LowerOneSaid : Prop := lowerOneRow.holds Try.pinned (OpenSpec.ofChange lowerOneSpec)

/-- ITS FALSE NEIGHBOUR: 'it returns false'. Refute it at one input. -/
def lowerOneWrong : ChangeSpec := { name := "lowerOne", fn := fun _ => fun
  | [d] => { results := [.lit (.bool false)], args := [d] }
  | _ => none }
def LowerOneWrongFalsely : Prop := lowerOneRow.holds Try.pinned (OpenSpec.ofChange lowerOneWrong)

/-- 'lathelaw18.LowerGives': WHATEVER THE INPUT: true; the input reads as it did. -/
def lowerGivesSpec : ChangeSpec := { name := "lowerGives", fn := fun _ => fun
  | [d] => { results := [.lit (.bool true)], args := [d] }
  | _ => none }
def lowerGivesRow : OpenClaim := { program := "yteakhlhhmgpidaa", sum := "c2be74d3cda7e5be0ce1d3abe1a4c38864355df86c38b39075ef76c280d73a0d", func := "lathe/lathelaw18.LowerGives", spec := "lowerGives", unfollowed := true, recurses := true, apart := false }
def LowerGivesSaid : Prop := lowerGivesRow.holds Try.pinned (OpenSpec.ofChange lowerGivesSpec)

/-- ITS FALSE NEIGHBOUR: 'it returns false'. Refute it at one input. -/
def lowerGivesWrong : ChangeSpec := { name := "lowerGives", fn := fun _ => fun
  | [d] => { results := [.lit (.bool false)], args := [d] }
  | _ => none }
def LowerGivesWrongFalsely : Prop := lowerGivesRow.holds Try.pinned (OpenSpec.ofChange lowerGivesWrong)

/-- 'lathelaw18.LowerRuns': WHATEVER THE INPUT: true; the input reads as it did. -/
def lowerRunsSpec : ChangeSpec := { name := "lowerRuns", fn := fun _ => fun
  | [d] => { results := [.lit (.bool true)], args := [d] }
  | _ => none }
def lowerRunsRow : OpenClaim := { program := "yteakhlhhmgpidaa", sum := "c2be74d3cda7e5be0ce1d3abe1a4c38864355df86c38b39075ef76c280d73a0d", func := "lathe/lathelaw18.LowerRuns", spec := "lowerRuns", unfollowed := true, recurses := true, apart := false }
def LowerRunsSaid : Prop := lowerRunsRow.holds Try.pinned (OpenSpec.ofChange lowerRunsSpec)

/-- ITS FALSE NEIGHBOUR: 'it returns false'. Refute it at one input. -/
def lowerRunsWrong : ChangeSpec := { name := "lowerRuns", fn := fun _ => fun
  | [d] => { results := [.lit (.bool false)], args := [d] }
  | _ => none }
def LowerRunsWrongFalsely : Prop := lowerRunsRow.holds Try.pinned (OpenSpec.ofChange lowerRunsWrong)

/-- 'lathelaw18.LowerMay': WHATEVER THE INPUT: true; the input reads as it did. -/
def lowerMaySpec : ChangeSpec := { name := "lowerMay", fn := fun _ => fun
  | [d] => { results := [.lit (.bool true)], args := [d] }
  | _ => none }
def lowerMayRow : OpenClaim := { program := "yteakhlhhmgpidaa", sum := "c2be74d3cda7e5be0ce1d3abe1a4c38864355df86c38b39075ef76c280d73a0d", func := "lathe/lathelaw18.LowerMay", spec := "lowerMay", unfollowed := true, recurses := true, apart := false }
def LowerMaySaid : Prop := lowerMayRow.holds Try.pinned (OpenSpec.ofChange lowerMaySpec)

/-- ITS FALSE NEIGHBOUR: 'it returns false'. Refute it at one input. -/
def lowerMayWrong : ChangeSpec := { name := "lowerMay", fn := fun _ => fun
  | [d] => { results := [.lit (.bool false)], args := [d] }
  | _ => none }
def LowerMayWrongFalsely : Prop := lowerMayRow.holds Try.pinned (OpenSpec.ofChange lowerMayWrong)

/- THE SECOND FORM. 'bulk': how many values and letters a reading holds, each counted each time it is reached (what is shared counts as often as it is met; a slice's spare places count too). A statement '..UptoSaid' is the law's where the arguments, and the package variables that the reading takes, are together of bulk at most 1048576: NARROWER than '..Said'. Prove '..Said' where nothing that the law and all that it calls make is longer than what came in: it says more and counts as full. Else prove '..UptoSaid'. A law counts once. -/
mutual
def uptoBulk {H : Type} : DataW H → Nat
  | .lit (.string bytes) => bytes.length + 1
  | .lit _ => 1
  | .nil => 1
  | .ptr d => uptoBulk d + 1
  | .slice elems spare => uptoBulkAll elems + uptoBulkAll spare + 1
  | .agg parts => uptoBulkAll parts + 1
  | .iface _ d => uptoBulk d + 1
  | .map entries => uptoBulkEntries entries + 1
  | .held _ => 1
def uptoBulkAll {H : Type} : List (DataW H) → Nat
  | [] => 0
  | d :: r => uptoBulk d + uptoBulkAll r
def uptoBulkEntries {H : Type} : List (Lit × DataW H) → Nat
  | [] => 0
  | x :: r => uptoBulkEntry x + uptoBulkEntries r
def uptoBulkEntry {H : Type} : Lit × DataW H → Nat
  | (.string bytes, d) => bytes.length + uptoBulk d + 1
  | (_, d) => uptoBulk d + 1
 end
def uptoSmall : (H : Type) → List (DataW H) → Bool := fun _ ds => decide (uptoBulkAll ds ≤ 1048576)
def OpenSpec.upto (s : _root_.Go.ChangeSpec) : _root_.Go.OpenSpec := { _root_.Go.OpenSpec.ofChange s with cond := some uptoSmall }

/-- 'lathelaw18.LowerOne', WHERE WHAT IT READS IS OF BULK AT MOST 1048576: true; the input reads as it did. -/
def lowerOneUptoRow : OpenClaim := { program := "yteakhlhhmgpidaa", sum := "c2be74d3cda7e5be0ce1d3abe1a4c38864355df86c38b39075ef76c280d73a0d", func := "lathe/lathelaw18.LowerOne", spec := "lowerOne", unfollowed := true, recurses := true, apart := false, narrowed := true }
def LowerOneUptoSaid : Prop := lowerOneUptoRow.holds Try.pinned (OpenSpec.upto lowerOneSpec)

/-- 'lathelaw18.LowerGives', WHERE WHAT IT READS IS OF BULK AT MOST 1048576: true; the input reads as it did. -/
def lowerGivesUptoRow : OpenClaim := { program := "yteakhlhhmgpidaa", sum := "c2be74d3cda7e5be0ce1d3abe1a4c38864355df86c38b39075ef76c280d73a0d", func := "lathe/lathelaw18.LowerGives", spec := "lowerGives", unfollowed := true, recurses := true, apart := false, narrowed := true }
def LowerGivesUptoSaid : Prop := lowerGivesUptoRow.holds Try.pinned (OpenSpec.upto lowerGivesSpec)

/-- 'lathelaw18.LowerRuns', WHERE WHAT IT READS IS OF BULK AT MOST 1048576: true; the input reads as it did. -/
def lowerRunsUptoRow : OpenClaim := { program := "yteakhlhhmgpidaa", sum := "c2be74d3cda7e5be0ce1d3abe1a4c38864355df86c38b39075ef76c280d73a0d", func := "lathe/lathelaw18.LowerRuns", spec := "lowerRuns", unfollowed := true, recurses := true, apart := false, narrowed := true }
def LowerRunsUptoSaid : Prop := lowerRunsUptoRow.holds Try.pinned (OpenSpec.upto lowerRunsSpec)

/-- 'lathelaw18.LowerMay', WHERE WHAT IT READS IS OF BULK AT MOST 1048576: true; the input reads as it did. -/
def lowerMayUptoRow : OpenClaim := { program := "yteakhlhhmgpidaa", sum := "c2be74d3cda7e5be0ce1d3abe1a4c38864355df86c38b39075ef76c280d73a0d", func := "lathe/lathelaw18.LowerMay", spec := "lowerMay", unfollowed := true, recurses := true, apart := false, narrowed := true }
def LowerMayUptoSaid : Prop := lowerMayUptoRow.holds Try.pinned (OpenSpec.upto lowerMaySpec)

end Rows
end Go.Proofs.Yteakhlhhmgpidaa
