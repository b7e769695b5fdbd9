/-
  No cell of these rows narrows 'for every input' (looked for: loops, veiled, ifaces, maps, wideKeys, modest, calm, conditions, laid).
  DERIVED. THE GIVEN ROWS OF THIS SEAT. 4 by the template 'for every input the law returns true; each argument reads behind the call as it read before'; 0 by the template 'total and deterministic' (their statements: YtkannibhndjgeaaTotals.lean).
  GIVEN WITH THE SEED: the statements are not yours to turn. If you find one false, say at which input.
  Laid BY PROGRAM, IN A SANDBOX (cutbox-rows.mjs): the forced cells as the released guide's own fill.sh prints them over the translation 3004e96825644c54… (all of the seat's roots in one cut). By AI agents, Wed Nov 11 2026. No macro, syntax, notation, axiom, sorry.
-/
import Derived.Test.YtkannibhndjgeaaChecked
import GoSem.Claim
import GoSem.ClaimJoined
import GoSem.ClaimMapViews
import Derived.JoinedTies
import Derived.KernelRfl
namespace Go.Proofs.Ytkannibhndjgeaa
/- THE CELL 'sum', in the pinned program and in every row, IS THE sha256 OF THE DUMP (.gsa) THAT YtkannibhndjgeaaProg.lean LOADS. Nothing in Lean hashes anything: it is a label: what it is worth is what the hold of that sum in a sandbox is worth. -/
noncomputable def Try.pinned : Pinned := { name := "ytkannibhndjgeaa", sum := "3004e96825644c540f58f7d65fbb4c8ee6601a8045235362fd38d06126cabb22", checked := Try.checked }
namespace Rows
def none {H : Type} : Left H := { results := [], args := [] }

/-- 'lathelaw15.ExecFlags': WHATEVER THE INPUT: true; the input reads as it did. -/
def execFlagsSpec : ChangeSpec := { name := "execFlags", fn := fun _ => fun
  | [d1, d2, d3, d4] => { results := [.lit (.bool true)], args := [d1, d2, d3, d4] }
  | _ => none }
def execFlagsRow : OpenClaim := { program := "ytkannibhndjgeaa", sum := "3004e96825644c540f58f7d65fbb4c8ee6601a8045235362fd38d06126cabb22", func := "lathe/lathelaw15.ExecFlags", spec := "execFlags", unfollowed := true, recurses := true, apart := false }
def ExecFlagsSaid : Prop := execFlagsRow.holds Try.pinned (OpenSpec.ofChange execFlagsSpec)

/-- ITS FALSE NEIGHBOUR: 'it returns false'. Refute it at one input. -/
def execFlagsWrong : ChangeSpec := { name := "execFlags", fn := fun _ => fun
  | [d1, d2, d3, d4] => { results := [.lit (.bool false)], args := [d1, d2, d3, d4] }
  | _ => none }
def ExecFlagsWrongFalsely : Prop := execFlagsRow.holds Try.pinned (OpenSpec.ofChange execFlagsWrong)

/-- 'lathelaw15.ExecDiv': WHATEVER THE INPUT: true; the input reads as it did. -/
def execDivSpec : ChangeSpec := { name := "execDiv", fn := fun _ => fun
  | [d1, d2, d3] => { results := [.lit (.bool true)], args := [d1, d2, d3] }
  | _ => none }
def execDivRow : OpenClaim := { program := "ytkannibhndjgeaa", sum := "3004e96825644c540f58f7d65fbb4c8ee6601a8045235362fd38d06126cabb22", func := "lathe/lathelaw15.ExecDiv", spec := "execDiv", unfollowed := true, recurses := true, apart := false }
def ExecDivSaid : Prop := execDivRow.holds Try.pinned (OpenSpec.ofChange execDivSpec)

/-- ITS FALSE NEIGHBOUR: 'it returns false'. Refute it at one input. -/
def execDivWrong : ChangeSpec := { name := "execDiv", fn := fun _ => fun
  | [d1, d2, d3] => { results := [.lit (.bool false)], args := [d1, d2, d3] }
  | _ => none }
def ExecDivWrongFalsely : Prop := execDivRow.holds Try.pinned (OpenSpec.ofChange execDivWrong)

/-- 'lathelaw15.ExecLoads': WHATEVER THE INPUT: true; the input reads as it did. -/
def execLoadsSpec : ChangeSpec := { name := "execLoads", fn := fun _ => fun
  | [d1, d2, d3, d4, d5, d6] => { results := [.lit (.bool true)], args := [d1, d2, d3, d4, d5, d6] }
  | _ => none }
def execLoadsRow : OpenClaim := { program := "ytkannibhndjgeaa", sum := "3004e96825644c540f58f7d65fbb4c8ee6601a8045235362fd38d06126cabb22", func := "lathe/lathelaw15.ExecLoads", spec := "execLoads", unfollowed := true, recurses := true, apart := false }
def ExecLoadsSaid : Prop := execLoadsRow.holds Try.pinned (OpenSpec.ofChange execLoadsSpec)

/-- ITS FALSE NEIGHBOUR: 'it returns false'. Refute it at one input. -/
def execLoadsWrong : ChangeSpec := { name := "execLoads", fn := fun _ => fun
  | [d1, d2, d3, d4, d5, d6] => { results := [.lit (.bool false)], args := [d1, d2, d3, d4, d5, d6] }
  | _ => none }
def ExecLoadsWrongFalsely : Prop := execLoadsRow.holds Try.pinned (OpenSpec.ofChange execLoadsWrong)

/-- 'lathelaw15.ExecApart': WHATEVER THE INPUT: true; the input reads as it did. -/
def execApartSpec : ChangeSpec := { name := "execApart", fn := fun _ => fun
  | [d1, d2, d3, d4, d5] => { results := [.lit (.bool true)], args := [d1, d2, d3, d4, d5] }
  | _ => none }
def execApartRow : OpenClaim := { program := "ytkannibhndjgeaa", sum := "3004e96825644c540f58f7d65fbb4c8ee6601a8045235362fd38d06126cabb22", func := "lathe/lathelaw15.ExecApart", spec := "execApart", unfollowed := true, recurses := true, apart := false }
def ExecApartSaid : Prop := execApartRow.holds Try.pinned (OpenSpec.ofChange execApartSpec)

/-- ITS FALSE NEIGHBOUR: 'it returns false'. Refute it at one input. -/
def execApartWrong : ChangeSpec := { name := "execApart", fn := fun _ => fun
  | [d1, d2, d3, d4, d5] => { results := [.lit (.bool false)], args := [d1, d2, d3, d4, d5] }
  | _ => none }
def ExecApartWrongFalsely : Prop := execApartRow.holds Try.pinned (OpenSpec.ofChange execApartWrong)

/- THE SECOND FORM. 'bulk': how many values and letters a reading holds, each counted each time it is reached (what is shared counts as often as it is met; a slice's spare places count too). A statement '..UptoSaid' is the law's where the arguments, and the package variables that the reading takes, are together of bulk at most 1048576: NARROWER than '..Said'. Prove '..Said' where nothing that the law and all that it calls make is longer than what came in: it says more and counts as full. Else prove '..UptoSaid'. A law counts once. -/
mutual
def uptoBulk {H : Type} : DataW H → Nat
  | .lit (.string bytes) => bytes.length + 1
  | .lit _ => 1
  | .nil => 1
  | .ptr d => uptoBulk d + 1
  | .slice elems spare => uptoBulkAll elems + uptoBulkAll spare + 1
  | .agg parts => uptoBulkAll parts + 1
  | .iface _ d => uptoBulk d + 1
  | .map entries => uptoBulkEntries entries + 1
  | .held _ => 1
def uptoBulkAll {H : Type} : List (DataW H) → Nat
  | [] => 0
  | d :: r => uptoBulk d + uptoBulkAll r
def uptoBulkEntries {H : Type} : List (Lit × DataW H) → Nat
  | [] => 0
  | x :: r => uptoBulkEntry x + uptoBulkEntries r
def uptoBulkEntry {H : Type} : Lit × DataW H → Nat
  | (.string bytes, d) => bytes.length + uptoBulk d + 1
  | (_, d) => uptoBulk d + 1
 end
def uptoSmall : (H : Type) → List (DataW H) → Bool := fun _ ds => decide (uptoBulkAll ds ≤ 1048576)
def OpenSpec.upto (s : _root_.Go.ChangeSpec) : _root_.Go.OpenSpec := { _root_.Go.OpenSpec.ofChange s with cond := some uptoSmall }

/-- 'lathelaw15.ExecFlags', WHERE WHAT IT READS IS OF BULK AT MOST 1048576: true; the input reads as it did. -/
def execFlagsUptoRow : OpenClaim := { program := "ytkannibhndjgeaa", sum := "3004e96825644c540f58f7d65fbb4c8ee6601a8045235362fd38d06126cabb22", func := "lathe/lathelaw15.ExecFlags", spec := "execFlags", unfollowed := true, recurses := true, apart := false, narrowed := true }
def ExecFlagsUptoSaid : Prop := execFlagsUptoRow.holds Try.pinned (OpenSpec.upto execFlagsSpec)

/-- 'lathelaw15.ExecDiv', WHERE WHAT IT READS IS OF BULK AT MOST 1048576: true; the input reads as it did. -/
def execDivUptoRow : OpenClaim := { program := "ytkannibhndjgeaa", sum := "3004e96825644c540f58f7d65fbb4c8ee6601a8045235362fd38d06126cabb22", func := "lathe/lathelaw15.ExecDiv", spec := "execDiv", unfollowed := true, recurses := true, apart := false, narrowed := true }
def ExecDivUptoSaid : Prop := execDivUptoRow.holds Try.pinned (OpenSpec.upto execDivSpec)

/-- 'lathelaw15.ExecLoads', WHERE WHAT IT READS IS OF BULK AT MOST 1048576: true; the input reads as it did. -/
def execLoadsUptoRow : OpenClaim := { program := "ytkannibhndjgeaa", sum := "3004e96825644c540f58f7d65fbb4c8ee6601a8045235362fd38d06126cabb22", func := "lathe/lathelaw15.ExecLoads", spec := "execLoads", unfollowed := true, recurses := true, apart := false, narrowed := true }
def ExecLoadsUptoSaid : Prop := execLoadsUptoRow.holds Try.pinned (OpenSpec.upto execLoadsSpec)

/-- 'lathelaw15.ExecApart', WHERE WHAT IT READS IS OF BULK AT MOST 1048576: true; the input reads as it did. -/
def execApartUptoRow : OpenClaim := { program := "ytkannibhndjgeaa", sum := "3004e96825644c540f58f7d65fbb4c8ee6601a8045235362fd38d06126cabb22", func := "lathe/lathelaw15.ExecApart", spec := "execApart", unfollowed := true, recurses := true, apart := false, narrowed := true }
def ExecApartUptoSaid : Prop := execApartUptoRow.holds Try.pinned (OpenSpec.upto execApartSpec)

end Rows
end Go.Proofs.Ytkannibhndjgeaa
