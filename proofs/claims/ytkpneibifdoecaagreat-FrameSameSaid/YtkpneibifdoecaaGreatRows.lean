/-
  No cell of these rows narrows 'for every input' (looked for: loops, veiled, ifaces, maps, wideKeys, modest, calm, conditions, laid).
  DERIVED. THE GIVEN ROWS OF THIS SEAT. 5 by the template 'for every input the law returns true; each argument reads behind the call as it read before'; 0 by the template 'total and deterministic' (their statements: YtkpneibifdoecaaGreatTotals.lean).
  GIVEN WITH THE SEED: the statements are not yours to turn. If you find one false, say at which input.
  Laid BY PROGRAM, IN A SANDBOX (cutbox-rows.mjs): the forced cells as the released guide's own fill.sh prints them over the translation 33864ea73ec510f7… (all of the seat's roots in one cut). By AI agents, Wed Nov 11 2026. No macro, syntax, notation, axiom, sorry.
-/
import Derived.Test.YtkpneibifdoecaaGreatChecked
import GoSem.Claim
import GoSem.ClaimJoined
import GoSem.ClaimMapViews
import Derived.JoinedTies
import Derived.KernelRfl
namespace Go.Proofs.YtkpneibifdoecaaGreat
/- THE CELL 'sum', in the pinned program and in every row, IS THE sha256 OF THE DUMP (.gsa) THAT YtkpneibifdoecaaGreatProg.lean LOADS. Nothing in Lean hashes anything: it is a label: what it is worth is what the hold of that sum in a sandbox is worth. -/
noncomputable def Tryz.pinned : Pinned := { name := "ytkpneibifdoecaagreat", sum := "33864ea73ec510f7893e48cc14c7ebf2280eaa66ccc0580f8224f14aa20ea035", checked := Tryz.checked }
namespace Rows
def none {H : Type} : Left H := { results := [], args := [] }

/-- 'lathelaw23.FrameTells': WHATEVER THE INPUT: true; the input reads as it did. -/
def frameTellsSpec : ChangeSpec := { name := "frameTells", fn := fun _ => fun
  | [d1, d2, d3, d4, d5] => { results := [.lit (.bool true)], args := [d1, d2, d3, d4, d5] }
  | _ => none }
def frameTellsRow : OpenClaim := { program := "ytkpneibifdoecaagreat", sum := "33864ea73ec510f7893e48cc14c7ebf2280eaa66ccc0580f8224f14aa20ea035", func := "lathe/lathelaw23.FrameTells", spec := "frameTells", unfollowed := true, recurses := true, plainKeys := false, apart := false }
def FrameTellsSaid : Prop := frameTellsRow.holds Tryz.pinned (OpenSpec.ofChange frameTellsSpec)

/-- ITS FALSE NEIGHBOUR: 'it returns false'. Refute it at one input. -/
def frameTellsWrong : ChangeSpec := { name := "frameTells", fn := fun _ => fun
  | [d1, d2, d3, d4, d5] => { results := [.lit (.bool false)], args := [d1, d2, d3, d4, d5] }
  | _ => none }
def FrameTellsWrongFalsely : Prop := frameTellsRow.holds Tryz.pinned (OpenSpec.ofChange frameTellsWrong)

/-- 'lathelaw23.FrameTakes': WHATEVER THE INPUT: true; the input reads as it did. -/
def frameTakesSpec : ChangeSpec := { name := "frameTakes", fn := fun _ => fun
  | [d1, d2, d3, d4, d5] => { results := [.lit (.bool true)], args := [d1, d2, d3, d4, d5] }
  | _ => none }
def frameTakesRow : OpenClaim := { program := "ytkpneibifdoecaagreat", sum := "33864ea73ec510f7893e48cc14c7ebf2280eaa66ccc0580f8224f14aa20ea035", func := "lathe/lathelaw23.FrameTakes", spec := "frameTakes", unfollowed := true, recurses := true, plainKeys := false, apart := false }
def FrameTakesSaid : Prop := frameTakesRow.holds Tryz.pinned (OpenSpec.ofChange frameTakesSpec)

/-- ITS FALSE NEIGHBOUR: 'it returns false'. Refute it at one input. -/
def frameTakesWrong : ChangeSpec := { name := "frameTakes", fn := fun _ => fun
  | [d1, d2, d3, d4, d5] => { results := [.lit (.bool false)], args := [d1, d2, d3, d4, d5] }
  | _ => none }
def FrameTakesWrongFalsely : Prop := frameTakesRow.holds Tryz.pinned (OpenSpec.ofChange frameTakesWrong)

/-- 'lathelaw23.FrameEnds': WHATEVER THE INPUT: true; the input reads as it did. -/
def frameEndsSpec : ChangeSpec := { name := "frameEnds", fn := fun _ => fun
  | [d1, d2] => { results := [.lit (.bool true)], args := [d1, d2] }
  | _ => none }
def frameEndsRow : OpenClaim := { program := "ytkpneibifdoecaagreat", sum := "33864ea73ec510f7893e48cc14c7ebf2280eaa66ccc0580f8224f14aa20ea035", func := "lathe/lathelaw23.FrameEnds", spec := "frameEnds", unfollowed := true, recurses := true, plainKeys := false, apart := false }
def FrameEndsSaid : Prop := frameEndsRow.holds Tryz.pinned (OpenSpec.ofChange frameEndsSpec)

/-- ITS FALSE NEIGHBOUR: 'it returns false'. Refute it at one input. -/
def frameEndsWrong : ChangeSpec := { name := "frameEnds", fn := fun _ => fun
  | [d1, d2] => { results := [.lit (.bool false)], args := [d1, d2] }
  | _ => none }
def FrameEndsWrongFalsely : Prop := frameEndsRow.holds Tryz.pinned (OpenSpec.ofChange frameEndsWrong)

/-- 'lathelaw23.FrameHosts': WHATEVER THE INPUT: true; the input reads as it did. -/
def frameHostsSpec : ChangeSpec := { name := "frameHosts", fn := fun _ => fun
  | [d1, d2, d3, d4] => { results := [.lit (.bool true)], args := [d1, d2, d3, d4] }
  | _ => none }
def frameHostsRow : OpenClaim := { program := "ytkpneibifdoecaagreat", sum := "33864ea73ec510f7893e48cc14c7ebf2280eaa66ccc0580f8224f14aa20ea035", func := "lathe/lathelaw23.FrameHosts", spec := "frameHosts", unfollowed := true, recurses := true, plainKeys := false, apart := false }
def FrameHostsSaid : Prop := frameHostsRow.holds Tryz.pinned (OpenSpec.ofChange frameHostsSpec)

/-- ITS FALSE NEIGHBOUR: 'it returns false'. Refute it at one input. -/
def frameHostsWrong : ChangeSpec := { name := "frameHosts", fn := fun _ => fun
  | [d1, d2, d3, d4] => { results := [.lit (.bool false)], args := [d1, d2, d3, d4] }
  | _ => none }
def FrameHostsWrongFalsely : Prop := frameHostsRow.holds Tryz.pinned (OpenSpec.ofChange frameHostsWrong)

/-- 'lathelaw23.FrameSame': WHATEVER THE INPUT: true; the input reads as it did. -/
def frameSameSpec : ChangeSpec := { name := "frameSame", fn := fun _ => fun
  | [d1, d2, d3] => { results := [.lit (.bool true)], args := [d1, d2, d3] }
  | _ => none }
def frameSameRow : OpenClaim := { program := "ytkpneibifdoecaagreat", sum := "33864ea73ec510f7893e48cc14c7ebf2280eaa66ccc0580f8224f14aa20ea035", func := "lathe/lathelaw23.FrameSame", spec := "frameSame", unfollowed := true, recurses := true, plainKeys := false, apart := false }
def FrameSameSaid : Prop := frameSameRow.holds Tryz.pinned (OpenSpec.ofChange frameSameSpec)

/-- ITS FALSE NEIGHBOUR: 'it returns false'. Refute it at one input. -/
def frameSameWrong : ChangeSpec := { name := "frameSame", fn := fun _ => fun
  | [d1, d2, d3] => { results := [.lit (.bool false)], args := [d1, d2, d3] }
  | _ => none }
def FrameSameWrongFalsely : Prop := frameSameRow.holds Tryz.pinned (OpenSpec.ofChange frameSameWrong)

/- THE SECOND FORM. 'bulk': how many values and letters a reading holds, each counted each time it is reached (what is shared counts as often as it is met; a slice's spare places count too). A statement '..UptoSaid' is the law's where the arguments, and the package variables that the reading takes, are together of bulk at most 1048576: NARROWER than '..Said'. Prove '..Said' where nothing that the law and all that it calls make is longer than what came in: it says more and counts as full. Else prove '..UptoSaid'. A law counts once. -/
mutual
def uptoBulk {H : Type} : DataW H → Nat
  | .lit (.string bytes) => bytes.length + 1
  | .lit _ => 1
  | .nil => 1
  | .ptr d => uptoBulk d + 1
  | .slice elems spare => uptoBulkAll elems + uptoBulkAll spare + 1
  | .agg parts => uptoBulkAll parts + 1
  | .iface _ d => uptoBulk d + 1
  | .map entries => uptoBulkEntries entries + 1
  | .held _ => 1
def uptoBulkAll {H : Type} : List (DataW H) → Nat
  | [] => 0
  | d :: r => uptoBulk d + uptoBulkAll r
def uptoBulkEntries {H : Type} : List (Lit × DataW H) → Nat
  | [] => 0
  | x :: r => uptoBulkEntry x + uptoBulkEntries r
def uptoBulkEntry {H : Type} : Lit × DataW H → Nat
  | (.string bytes, d) => bytes.length + uptoBulk d + 1
  | (_, d) => uptoBulk d + 1
 end
def uptoSmall : (H : Type) → List (DataW H) → Bool := fun _ ds => decide (uptoBulkAll ds ≤ 1048576)
def OpenSpec.upto (s : _root_.Go.ChangeSpec) : _root_.Go.OpenSpec := { _root_.Go.OpenSpec.ofChange s with cond := some uptoSmall }

/-- 'lathelaw23.FrameTells', WHERE WHAT IT READS IS OF BULK AT MOST 1048576: true; the input reads as it did. -/
def frameTellsUptoRow : OpenClaim := { program := "ytkpneibifdoecaagreat", sum := "33864ea73ec510f7893e48cc14c7ebf2280eaa66ccc0580f8224f14aa20ea035", func := "lathe/lathelaw23.FrameTells", spec := "frameTells", unfollowed := true, recurses := true, plainKeys := false, apart := false, narrowed := true }
def FrameTellsUptoSaid : Prop := frameTellsUptoRow.holds Tryz.pinned (OpenSpec.upto frameTellsSpec)

/-- 'lathelaw23.FrameTakes', WHERE WHAT IT READS IS OF BULK AT MOST 1048576: true; the input reads as it did. -/
def frameTakesUptoRow : OpenClaim := { program := "ytkpneibifdoecaagreat", sum := "33864ea73ec510f7893e48cc14c7ebf2280eaa66ccc0580f8224f14aa20ea035", func := "lathe/lathelaw23.FrameTakes", spec := "frameTakes", unfollowed := true, recurses := true, plainKeys := false, apart := false, narrowed := true }
def FrameTakesUptoSaid : Prop := frameTakesUptoRow.holds Tryz.pinned (OpenSpec.upto frameTakesSpec)

/-- 'lathelaw23.FrameEnds', WHERE WHAT IT READS IS OF BULK AT MOST 1048576: true; the input reads as it did. -/
def frameEndsUptoRow : OpenClaim := { program := "ytkpneibifdoecaagreat", sum := "33864ea73ec510f7893e48cc14c7ebf2280eaa66ccc0580f8224f14aa20ea035", func := "lathe/lathelaw23.FrameEnds", spec := "frameEnds", unfollowed := true, recurses := true, plainKeys := false, apart := false, narrowed := true }
def FrameEndsUptoSaid : Prop := frameEndsUptoRow.holds Tryz.pinned (OpenSpec.upto frameEndsSpec)

/-- 'lathelaw23.FrameHosts', WHERE WHAT IT READS IS OF BULK AT MOST 1048576: true; the input reads as it did. -/
def frameHostsUptoRow : OpenClaim := { program := "ytkpneibifdoecaagreat", sum := "33864ea73ec510f7893e48cc14c7ebf2280eaa66ccc0580f8224f14aa20ea035", func := "lathe/lathelaw23.FrameHosts", spec := "frameHosts", unfollowed := true, recurses := true, plainKeys := false, apart := false, narrowed := true }
def FrameHostsUptoSaid : Prop := frameHostsUptoRow.holds Tryz.pinned (OpenSpec.upto frameHostsSpec)

/-- 'lathelaw23.FrameSame', WHERE WHAT IT READS IS OF BULK AT MOST 1048576: true; the input reads as it did. -/
def frameSameUptoRow : OpenClaim := { program := "ytkpneibifdoecaagreat", sum := "33864ea73ec510f7893e48cc14c7ebf2280eaa66ccc0580f8224f14aa20ea035", func := "lathe/lathelaw23.FrameSame", spec := "frameSame", unfollowed := true, recurses := true, plainKeys := false, apart := false, narrowed := true }
def FrameSameUptoSaid : Prop := frameSameUptoRow.holds Tryz.pinned (OpenSpec.upto frameSameSpec)

end Rows
end Go.Proofs.YtkpneibifdoecaaGreat
