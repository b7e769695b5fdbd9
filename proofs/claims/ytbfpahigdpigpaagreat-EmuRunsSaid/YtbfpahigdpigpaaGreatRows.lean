/-
  No cell of these rows narrows 'for every input' (looked for: loops, veiled, ifaces, maps, wideKeys, modest, calm, conditions, laid).
  DERIVED. THE GIVEN ROWS OF THIS SEAT. 5 by the template 'for every input the law returns true; each argument reads behind the call as it read before'; 0 by the template 'total and deterministic' (their statements: YtbfpahigdpigpaaGreatTotals.lean).
  GIVEN WITH THE SEED: the statements are not yours to turn. If you find one false, say at which input.
  Laid BY PROGRAM, IN A SANDBOX (cutbox-rows.mjs): the forced cells as the released guide's own fill.sh prints them over the translation 851d1eb58a42bdb0… (all of the seat's roots in one cut). By AI agents, Wed Nov 11 2026. No macro, syntax, notation, axiom, sorry.
-/
import Derived.Test.YtbfpahigdpigpaaGreatChecked
import GoSem.Claim
import GoSem.ClaimJoined
import GoSem.ClaimMapViews
import Derived.JoinedTies
import Derived.KernelRfl
namespace Go.Proofs.YtbfpahigdpigpaaGreat
/- THE CELL 'sum', in the pinned program and in every row, IS THE sha256 OF THE DUMP (.gsa) THAT YtbfpahigdpigpaaGreatProg.lean LOADS. Nothing in Lean hashes anything: it is a label: what it is worth is what the hold of that sum in a sandbox is worth. -/
noncomputable def Tryz.pinned : Pinned := { name := "ytbfpahigdpigpaagreat", sum := "851d1eb58a42bdb07a53305455aa14b81d2b53200c410866342fd49212edbcbc", checked := Tryz.checked }
namespace Rows
def none {H : Type} : Left H := { results := [], args := [] }

/-- 'lathelaw16.EmuMore': WHATEVER THE INPUT: true; the input reads as it did. -/
def emuMoreSpec : ChangeSpec := { name := "emuMore", fn := fun _ => fun
  | [d1, d2, d3, d4, d5] => { results := [.lit (.bool true)], args := [d1, d2, d3, d4, d5] }
  | _ => none }
def emuMoreRow : OpenClaim := { program := "ytbfpahigdpigpaagreat", sum := "851d1eb58a42bdb07a53305455aa14b81d2b53200c410866342fd49212edbcbc", func := "lathe/lathelaw16.EmuMore", spec := "emuMore", unfollowed := true, recurses := true, apart := false }
def EmuMoreSaid : Prop := emuMoreRow.holds Tryz.pinned (OpenSpec.ofChange emuMoreSpec)

/-- ITS FALSE NEIGHBOUR: 'it returns false'. Refute it at one input. -/
def emuMoreWrong : ChangeSpec := { name := "emuMore", fn := fun _ => fun
  | [d1, d2, d3, d4, d5] => { results := [.lit (.bool false)], args := [d1, d2, d3, d4, d5] }
  | _ => none }
def EmuMoreWrongFalsely : Prop := emuMoreRow.holds Tryz.pinned (OpenSpec.ofChange emuMoreWrong)

/-- 'lathelaw16.EmuEach': WHATEVER THE INPUT: true; the input reads as it did. -/
def emuEachSpec : ChangeSpec := { name := "emuEach", fn := fun _ => fun
  | [d1, d2, d3, d4, d5] => { results := [.lit (.bool true)], args := [d1, d2, d3, d4, d5] }
  | _ => none }
def emuEachRow : OpenClaim := { program := "ytbfpahigdpigpaagreat", sum := "851d1eb58a42bdb07a53305455aa14b81d2b53200c410866342fd49212edbcbc", func := "lathe/lathelaw16.EmuEach", spec := "emuEach", unfollowed := true, recurses := true, apart := false }
def EmuEachSaid : Prop := emuEachRow.holds Tryz.pinned (OpenSpec.ofChange emuEachSpec)

/-- ITS FALSE NEIGHBOUR: 'it returns false'. Refute it at one input. -/
def emuEachWrong : ChangeSpec := { name := "emuEach", fn := fun _ => fun
  | [d1, d2, d3, d4, d5] => { results := [.lit (.bool false)], args := [d1, d2, d3, d4, d5] }
  | _ => none }
def EmuEachWrongFalsely : Prop := emuEachRow.holds Tryz.pinned (OpenSpec.ofChange emuEachWrong)

/-- 'lathelaw16.EmuRuns': WHATEVER THE INPUT: true; the input reads as it did. -/
def emuRunsSpec : ChangeSpec := { name := "emuRuns", fn := fun _ => fun
  | [d1, d2, d3, d4] => { results := [.lit (.bool true)], args := [d1, d2, d3, d4] }
  | _ => none }
def emuRunsRow : OpenClaim := { program := "ytbfpahigdpigpaagreat", sum := "851d1eb58a42bdb07a53305455aa14b81d2b53200c410866342fd49212edbcbc", func := "lathe/lathelaw16.EmuRuns", spec := "emuRuns", unfollowed := true, recurses := true, apart := false }
def EmuRunsSaid : Prop := emuRunsRow.holds Tryz.pinned (OpenSpec.ofChange emuRunsSpec)

/-- ITS FALSE NEIGHBOUR: 'it returns false'. Refute it at one input. -/
def emuRunsWrong : ChangeSpec := { name := "emuRuns", fn := fun _ => fun
  | [d1, d2, d3, d4] => { results := [.lit (.bool false)], args := [d1, d2, d3, d4] }
  | _ => none }
def EmuRunsWrongFalsely : Prop := emuRunsRow.holds Tryz.pinned (OpenSpec.ofChange emuRunsWrong)

/-- 'lathelaw16.EmuCounts': WHATEVER THE INPUT: true; the input reads as it did. -/
def emuCountsSpec : ChangeSpec := { name := "emuCounts", fn := fun _ => fun
  | [d1, d2, d3, d4] => { results := [.lit (.bool true)], args := [d1, d2, d3, d4] }
  | _ => none }
def emuCountsRow : OpenClaim := { program := "ytbfpahigdpigpaagreat", sum := "851d1eb58a42bdb07a53305455aa14b81d2b53200c410866342fd49212edbcbc", func := "lathe/lathelaw16.EmuCounts", spec := "emuCounts", unfollowed := true, recurses := true, apart := false }
def EmuCountsSaid : Prop := emuCountsRow.holds Tryz.pinned (OpenSpec.ofChange emuCountsSpec)

/-- ITS FALSE NEIGHBOUR: 'it returns false'. Refute it at one input. -/
def emuCountsWrong : ChangeSpec := { name := "emuCounts", fn := fun _ => fun
  | [d1, d2, d3, d4] => { results := [.lit (.bool false)], args := [d1, d2, d3, d4] }
  | _ => none }
def EmuCountsWrongFalsely : Prop := emuCountsRow.holds Tryz.pinned (OpenSpec.ofChange emuCountsWrong)

/-- 'lathelaw16.EmuStays': WHATEVER THE INPUT: true; the input reads as it did. -/
def emuStaysSpec : ChangeSpec := { name := "emuStays", fn := fun _ => fun
  | [d1, d2, d3, d4] => { results := [.lit (.bool true)], args := [d1, d2, d3, d4] }
  | _ => none }
def emuStaysRow : OpenClaim := { program := "ytbfpahigdpigpaagreat", sum := "851d1eb58a42bdb07a53305455aa14b81d2b53200c410866342fd49212edbcbc", func := "lathe/lathelaw16.EmuStays", spec := "emuStays", unfollowed := true, recurses := true, apart := false }
def EmuStaysSaid : Prop := emuStaysRow.holds Tryz.pinned (OpenSpec.ofChange emuStaysSpec)

/-- ITS FALSE NEIGHBOUR: 'it returns false'. Refute it at one input. -/
def emuStaysWrong : ChangeSpec := { name := "emuStays", fn := fun _ => fun
  | [d1, d2, d3, d4] => { results := [.lit (.bool false)], args := [d1, d2, d3, d4] }
  | _ => none }
def EmuStaysWrongFalsely : Prop := emuStaysRow.holds Tryz.pinned (OpenSpec.ofChange emuStaysWrong)

/- THE SECOND FORM. 'bulk': how many values and letters a reading holds, each counted each time it is reached (what is shared counts as often as it is met; a slice's spare places count too). A statement '..UptoSaid' is the law's where the arguments, and the package variables that the reading takes, are together of bulk at most 1048576: NARROWER than '..Said'. Prove '..Said' where nothing that the law and all that it calls make is longer than what came in: it says more and counts as full. Else prove '..UptoSaid'. A law counts once. -/
mutual
def uptoBulk {H : Type} : DataW H → Nat
  | .lit (.string bytes) => bytes.length + 1
  | .lit _ => 1
  | .nil => 1
  | .ptr d => uptoBulk d + 1
  | .slice elems spare => uptoBulkAll elems + uptoBulkAll spare + 1
  | .agg parts => uptoBulkAll parts + 1
  | .iface _ d => uptoBulk d + 1
  | .map entries => uptoBulkEntries entries + 1
  | .held _ => 1
def uptoBulkAll {H : Type} : List (DataW H) → Nat
  | [] => 0
  | d :: r => uptoBulk d + uptoBulkAll r
def uptoBulkEntries {H : Type} : List (Lit × DataW H) → Nat
  | [] => 0
  | x :: r => uptoBulkEntry x + uptoBulkEntries r
def uptoBulkEntry {H : Type} : Lit × DataW H → Nat
  | (.string bytes, d) => bytes.length + uptoBulk d + 1
  | (_, d) => uptoBulk d + 1
 end
def uptoSmall : (H : Type) → List (DataW H) → Bool := fun _ ds => decide (uptoBulkAll ds ≤ 1048576)
def OpenSpec.upto (s : _root_.Go.ChangeSpec) : _root_.Go.OpenSpec := { _root_.Go.OpenSpec.ofChange s with cond := some uptoSmall }

/-- 'lathelaw16.EmuMore', WHERE WHAT IT READS IS OF BULK AT MOST 1048576: true; the input reads as it did. -/
def emuMoreUptoRow : OpenClaim := { program := "ytbfpahigdpigpaagreat", sum := "851d1eb58a42bdb07a53305455aa14b81d2b53200c410866342fd49212edbcbc", func := "lathe/lathelaw16.EmuMore", spec := "emuMore", unfollowed := true, recurses := true, apart := false, narrowed := true }
def EmuMoreUptoSaid : Prop := emuMoreUptoRow.holds Tryz.pinned (OpenSpec.upto emuMoreSpec)

/-- 'lathelaw16.EmuEach', WHERE WHAT IT READS IS OF BULK AT MOST 1048576: true; the input reads as it did. -/
def emuEachUptoRow : OpenClaim := { program := "ytbfpahigdpigpaagreat", sum := "851d1eb58a42bdb07a53305455aa14b81d2b53200c410866342fd49212edbcbc", func := "lathe/lathelaw16.EmuEach", spec := "emuEach", unfollowed := true, recurses := true, apart := false, narrowed := true }
def EmuEachUptoSaid : Prop := emuEachUptoRow.holds Tryz.pinned (OpenSpec.upto emuEachSpec)

/-- 'lathelaw16.EmuRuns', WHERE WHAT IT READS IS OF BULK AT MOST 1048576: true; the input reads as it did. -/
def emuRunsUptoRow : OpenClaim := { program := "ytbfpahigdpigpaagreat", sum := "851d1eb58a42bdb07a53305455aa14b81d2b53200c410866342fd49212edbcbc", func := "lathe/lathelaw16.EmuRuns", spec := "emuRuns", unfollowed := true, recurses := true, apart := false, narrowed := true }
def EmuRunsUptoSaid : Prop := emuRunsUptoRow.holds Tryz.pinned (OpenSpec.upto emuRunsSpec)

/-- 'lathelaw16.EmuCounts', WHERE WHAT IT READS IS OF BULK AT MOST 1048576: true; the input reads as it did. -/
def emuCountsUptoRow : OpenClaim := { program := "ytbfpahigdpigpaagreat", sum := "851d1eb58a42bdb07a53305455aa14b81d2b53200c410866342fd49212edbcbc", func := "lathe/lathelaw16.EmuCounts", spec := "emuCounts", unfollowed := true, recurses := true, apart := false, narrowed := true }
def EmuCountsUptoSaid : Prop := emuCountsUptoRow.holds Tryz.pinned (OpenSpec.upto emuCountsSpec)

/-- 'lathelaw16.EmuStays', WHERE WHAT IT READS IS OF BULK AT MOST 1048576: true; the input reads as it did. -/
def emuStaysUptoRow : OpenClaim := { program := "ytbfpahigdpigpaagreat", sum := "851d1eb58a42bdb07a53305455aa14b81d2b53200c410866342fd49212edbcbc", func := "lathe/lathelaw16.EmuStays", spec := "emuStays", unfollowed := true, recurses := true, apart := false, narrowed := true }
def EmuStaysUptoSaid : Prop := emuStaysUptoRow.holds Tryz.pinned (OpenSpec.upto emuStaysSpec)

end Rows
end Go.Proofs.YtbfpahigdpigpaaGreat
