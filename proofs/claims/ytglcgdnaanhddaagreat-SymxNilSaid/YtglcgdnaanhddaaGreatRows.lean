/-
  No cell of these rows narrows 'for every input' (looked for: loops, veiled, ifaces, maps, wideKeys, modest, calm, conditions, laid).
  DERIVED. THE GIVEN ROWS OF THIS SEAT. 2 by the template 'for every input the law returns true; each argument reads behind the call as it read before'; 0 by the template 'total and deterministic' (their statements: YtglcgdnaanhddaaGreatTotals.lean).
  GIVEN WITH THE SEED: the statements are not yours to turn. If you find one false, say at which input.
  Laid BY PROGRAM, IN A SANDBOX (cutbox-rows.mjs): the forced cells as the released guide's own fill.sh prints them over the translation 3c1c8629e77a6c61… (all of the seat's roots in one cut). By AI agents, Wed Nov 11 2026. No macro, syntax, notation, axiom, sorry.
-/
import Derived.Test.YtglcgdnaanhddaaGreatChecked
import GoSem.Claim
import GoSem.ClaimJoined
import GoSem.ClaimMapViews
import Derived.JoinedTies
import Derived.KernelRfl
namespace Go.Proofs.YtglcgdnaanhddaaGreat
/- THE CELL 'sum', in the pinned program and in every row, IS THE sha256 OF THE DUMP (.gsa) THAT YtglcgdnaanhddaaGreatProg.lean LOADS. Nothing in Lean hashes anything: it is a label: what it is worth is what the hold of that sum in a sandbox is worth. -/
noncomputable def Tryz.pinned : Pinned := { name := "ytglcgdnaanhddaagreat", sum := "3c1c8629e77a6c61bcffecefaf8d0fa14ba607a770ddf9f12355a713c1fa4cbc", checked := Tryz.checked }
namespace Rows
def none {H : Type} : Left H := { results := [], args := [] }

/-- 'lathelaw29.SymxMore': WHATEVER THE INPUT: true; the input reads as it did. -/
def symxMoreSpec : ChangeSpec := { name := "symxMore", fn := fun _ => fun
  | [d1, d2, d3, d4, d5] => { results := [.lit (.bool true)], args := [d1, d2, d3, d4, d5] }
  | _ => none }
def symxMoreRow : OpenClaim := { program := "ytglcgdnaanhddaagreat", sum := "3c1c8629e77a6c61bcffecefaf8d0fa14ba607a770ddf9f12355a713c1fa4cbc", func := "lathe/lathelaw29.SymxMore", spec := "symxMore", unfollowed := true, recurses := true, plainKeys := false, apart := false }
def SymxMoreSaid : Prop := symxMoreRow.holds Tryz.pinned (OpenSpec.ofChange symxMoreSpec)

/-- ITS FALSE NEIGHBOUR: 'it returns false'. Refute it at one input. -/
def symxMoreWrong : ChangeSpec := { name := "symxMore", fn := fun _ => fun
  | [d1, d2, d3, d4, d5] => { results := [.lit (.bool false)], args := [d1, d2, d3, d4, d5] }
  | _ => none }
def SymxMoreWrongFalsely : Prop := symxMoreRow.holds Tryz.pinned (OpenSpec.ofChange symxMoreWrong)

/-- 'lathelaw29.SymxNil': WHATEVER THE INPUT: true; the input reads as it did. -/
def symxNilSpec : ChangeSpec := { name := "symxNil", fn := fun _ => fun
  | [d1, d2, d3, d4] => { results := [.lit (.bool true)], args := [d1, d2, d3, d4] }
  | _ => none }
def symxNilRow : OpenClaim := { program := "ytglcgdnaanhddaagreat", sum := "3c1c8629e77a6c61bcffecefaf8d0fa14ba607a770ddf9f12355a713c1fa4cbc", func := "lathe/lathelaw29.SymxNil", spec := "symxNil", unfollowed := true, recurses := true, plainKeys := false, apart := false }
def SymxNilSaid : Prop := symxNilRow.holds Tryz.pinned (OpenSpec.ofChange symxNilSpec)

/-- ITS FALSE NEIGHBOUR: 'it returns false'. Refute it at one input. -/
def symxNilWrong : ChangeSpec := { name := "symxNil", fn := fun _ => fun
  | [d1, d2, d3, d4] => { results := [.lit (.bool false)], args := [d1, d2, d3, d4] }
  | _ => none }
def SymxNilWrongFalsely : Prop := symxNilRow.holds Tryz.pinned (OpenSpec.ofChange symxNilWrong)

/- THE SECOND FORM. 'bulk': how many values and letters a reading holds, each counted each time it is reached (what is shared counts as often as it is met; a slice's spare places count too). A statement '..UptoSaid' is the law's where the arguments, and the package variables that the reading takes, are together of bulk at most 1048576: NARROWER than '..Said'. Prove '..Said' where nothing that the law and all that it calls make is longer than what came in: it says more and counts as full. Else prove '..UptoSaid'. A law counts once. -/
mutual
def uptoBulk {H : Type} : DataW H → Nat
  | .lit (.string bytes) => bytes.length + 1
  | .lit _ => 1
  | .nil => 1
  | .ptr d => uptoBulk d + 1
  | .slice elems spare => uptoBulkAll elems + uptoBulkAll spare + 1
  | .agg parts => uptoBulkAll parts + 1
  | .iface _ d => uptoBulk d + 1
  | .map entries => uptoBulkEntries entries + 1
  | .held _ => 1
def uptoBulkAll {H : Type} : List (DataW H) → Nat
  | [] => 0
  | d :: r => uptoBulk d + uptoBulkAll r
def uptoBulkEntries {H : Type} : List (Lit × DataW H) → Nat
  | [] => 0
  | x :: r => uptoBulkEntry x + uptoBulkEntries r
def uptoBulkEntry {H : Type} : Lit × DataW H → Nat
  | (.string bytes, d) => bytes.length + uptoBulk d + 1
  | (_, d) => uptoBulk d + 1
 end
def uptoSmall : (H : Type) → List (DataW H) → Bool := fun _ ds => decide (uptoBulkAll ds ≤ 1048576)
def OpenSpec.upto (s : _root_.Go.ChangeSpec) : _root_.Go.OpenSpec := { _root_.Go.OpenSpec.ofChange s with cond := some uptoSmall }

/-- 'lathelaw29.SymxMore', WHERE WHAT IT READS IS OF BULK AT MOST 1048576: true; the input reads as it did. -/
def symxMoreUptoRow : OpenClaim := { program := "ytglcgdnaanhddaagreat", sum := "3c1c8629e77a6c61bcffecefaf8d0fa14ba607a770ddf9f12355a713c1fa4cbc", func := "lathe/lathelaw29.SymxMore", spec := "symxMore", unfollowed := true, recurses := true, plainKeys := false, apart := false, narrowed := true }
def SymxMoreUptoSaid : Prop := symxMoreUptoRow.holds Tryz.pinned (OpenSpec.upto symxMoreSpec)

/-- 'lathelaw29.SymxNil', WHERE WHAT IT READS IS OF BULK AT MOST 1048576: true; the input reads as it did. -/
def symxNilUptoRow : OpenClaim := { program := "ytglcgdnaanhddaagreat", sum := "3c1c8629e77a6c61bcffecefaf8d0fa14ba607a770ddf9f12355a713c1fa4cbc", func := "lathe/lathelaw29.SymxNil", spec := "symxNil", unfollowed := true, recurses := true, plainKeys := false, apart := false, narrowed := true }
def SymxNilUptoSaid : Prop := symxNilUptoRow.holds Tryz.pinned (OpenSpec.upto symxNilSpec)

end Rows
end Go.Proofs.YtglcgdnaanhddaaGreat
