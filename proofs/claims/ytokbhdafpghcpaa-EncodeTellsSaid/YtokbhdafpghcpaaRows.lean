/-
  No cell of these rows narrows 'for every input' (looked for: loops, veiled, ifaces, maps, wideKeys, modest, calm, conditions, laid).
  DERIVED. THE GIVEN ROWS OF THIS SEAT. 6 by the template 'for every input the law returns true; each argument reads behind the call as it read before'; 0 by the template 'total and deterministic' (their statements: YtokbhdafpghcpaaTotals.lean).
  GIVEN WITH THE SEED: the statements are not yours to turn. If you find one false, say at which input.
  Laid BY PROGRAM, IN A SANDBOX (cutbox-rows.mjs): the forced cells as the released guide's own fill.sh prints them over the translation 485666ab293600a8… (all of the seat's roots in one cut). By AI agents, Wed Nov 11 2026. No macro, syntax, notation, axiom, sorry.
-/
import Derived.Test.YtokbhdafpghcpaaChecked
import GoSem.Claim
import GoSem.ClaimJoined
import GoSem.ClaimMapViews
import Derived.JoinedTies
import Derived.KernelRfl
namespace Go.Proofs.Ytokbhdafpghcpaa
/- THE CELL 'sum', in the pinned program and in every row, IS THE sha256 OF THE DUMP (.gsa) THAT YtokbhdafpghcpaaProg.lean LOADS. Nothing in Lean hashes anything: it is a label: what it is worth is what the hold of that sum in a sandbox is worth. -/
noncomputable def Try.pinned : Pinned := { name := "ytokbhdafpghcpaa", sum := "485666ab293600a85a1eacaa74db9ecb76b793427775e3943e4ba02bc8923895", checked := Try.checked }
namespace Rows
def none {H : Type} : Left H := { results := [], args := [] }

/-- 'lathelaw13.EncodeApart': WHATEVER THE INPUT: true; the input reads as it did. -/
def encodeApartSpec : ChangeSpec := { name := "encodeApart", fn := fun _ => fun
  | [d1, d2] => { results := [.lit (.bool true)], args := [d1, d2] }
  | _ => none }
def encodeApartRow : OpenClaim := { program := "ytokbhdafpghcpaa", sum := "485666ab293600a85a1eacaa74db9ecb76b793427775e3943e4ba02bc8923895", func := "lathe/lathelaw13.EncodeApart", spec := "encodeApart", apart := false }
def EncodeApartSaid : Prop := encodeApartRow.holds Try.pinned (OpenSpec.ofChange encodeApartSpec)

/-- ITS FALSE NEIGHBOUR: 'it returns false'. Refute it at one input. -/
def encodeApartWrong : ChangeSpec := { name := "encodeApart", fn := fun _ => fun
  | [d1, d2] => { results := [.lit (.bool false)], args := [d1, d2] }
  | _ => none }
def EncodeApartWrongFalsely : Prop := encodeApartRow.holds Try.pinned (OpenSpec.ofChange encodeApartWrong)

/-- 'lathelaw13.EncodeJumps': WHATEVER THE INPUT: true; the input reads as it did. -/
def encodeJumpsSpec : ChangeSpec := { name := "encodeJumps", fn := fun _ => fun
  | [d1, d2] => { results := [.lit (.bool true)], args := [d1, d2] }
  | _ => none }
def encodeJumpsRow : OpenClaim := { program := "ytokbhdafpghcpaa", sum := "485666ab293600a85a1eacaa74db9ecb76b793427775e3943e4ba02bc8923895", func := "lathe/lathelaw13.EncodeJumps", spec := "encodeJumps", apart := false }
def EncodeJumpsSaid : Prop := encodeJumpsRow.holds Try.pinned (OpenSpec.ofChange encodeJumpsSpec)

/-- ITS FALSE NEIGHBOUR: 'it returns false'. Refute it at one input. -/
def encodeJumpsWrong : ChangeSpec := { name := "encodeJumps", fn := fun _ => fun
  | [d1, d2] => { results := [.lit (.bool false)], args := [d1, d2] }
  | _ => none }
def EncodeJumpsWrongFalsely : Prop := encodeJumpsRow.holds Try.pinned (OpenSpec.ofChange encodeJumpsWrong)

/-- 'lathelaw13.EncodeTells': WHATEVER THE INPUT: true; the input reads as it did. -/
def encodeTellsSpec : ChangeSpec := { name := "encodeTells", fn := fun _ => fun
  | [d] => { results := [.lit (.bool true)], args := [d] }
  | _ => none }
def encodeTellsRow : OpenClaim := { program := "ytokbhdafpghcpaa", sum := "485666ab293600a85a1eacaa74db9ecb76b793427775e3943e4ba02bc8923895", func := "lathe/lathelaw13.EncodeTells", spec := "encodeTells", apart := false }
def EncodeTellsSaid : Prop := encodeTellsRow.holds Try.pinned (OpenSpec.ofChange encodeTellsSpec)

/-- ITS FALSE NEIGHBOUR: 'it returns false'. Refute it at one input. -/
def encodeTellsWrong : ChangeSpec := { name := "encodeTells", fn := fun _ => fun
  | [d] => { results := [.lit (.bool false)], args := [d] }
  | _ => none }
def EncodeTellsWrongFalsely : Prop := encodeTellsRow.holds Try.pinned (OpenSpec.ofChange encodeTellsWrong)

/-- 'lathelaw13.EncodeReads': WHATEVER THE INPUT: true; the input reads as it did. -/
def encodeReadsSpec : ChangeSpec := { name := "encodeReads", fn := fun _ => fun
  | [d] => { results := [.lit (.bool true)], args := [d] }
  | _ => none }
def encodeReadsRow : OpenClaim := { program := "ytokbhdafpghcpaa", sum := "485666ab293600a85a1eacaa74db9ecb76b793427775e3943e4ba02bc8923895", func := "lathe/lathelaw13.EncodeReads", spec := "encodeReads", unfollowed := true, recurses := true, apart := false }
def EncodeReadsSaid : Prop := encodeReadsRow.holds Try.pinned (OpenSpec.ofChange encodeReadsSpec)

/-- ITS FALSE NEIGHBOUR: 'it returns false'. Refute it at one input. -/
def encodeReadsWrong : ChangeSpec := { name := "encodeReads", fn := fun _ => fun
  | [d] => { results := [.lit (.bool false)], args := [d] }
  | _ => none }
def EncodeReadsWrongFalsely : Prop := encodeReadsRow.holds Try.pinned (OpenSpec.ofChange encodeReadsWrong)

/-- 'lathelaw13.EncodeBack': WHATEVER THE INPUT: true; the input reads as it did. -/
def encodeBackSpec : ChangeSpec := { name := "encodeBack", fn := fun _ => fun
  | [d1, d2] => { results := [.lit (.bool true)], args := [d1, d2] }
  | _ => none }
def encodeBackRow : OpenClaim := { program := "ytokbhdafpghcpaa", sum := "485666ab293600a85a1eacaa74db9ecb76b793427775e3943e4ba02bc8923895", func := "lathe/lathelaw13.EncodeBack", spec := "encodeBack", unfollowed := true, recurses := true, apart := false }
def EncodeBackSaid : Prop := encodeBackRow.holds Try.pinned (OpenSpec.ofChange encodeBackSpec)

/-- ITS FALSE NEIGHBOUR: 'it returns false'. Refute it at one input. -/
def encodeBackWrong : ChangeSpec := { name := "encodeBack", fn := fun _ => fun
  | [d1, d2] => { results := [.lit (.bool false)], args := [d1, d2] }
  | _ => none }
def EncodeBackWrongFalsely : Prop := encodeBackRow.holds Try.pinned (OpenSpec.ofChange encodeBackWrong)

/-- 'lathelaw13.EncodeRows': WHATEVER THE INPUT: true; the input reads as it did. -/
def encodeRowsSpec : ChangeSpec := { name := "encodeRows", fn := fun _ => fun
  | [d1, d2] => { results := [.lit (.bool true)], args := [d1, d2] }
  | _ => none }
def encodeRowsRow : OpenClaim := { program := "ytokbhdafpghcpaa", sum := "485666ab293600a85a1eacaa74db9ecb76b793427775e3943e4ba02bc8923895", func := "lathe/lathelaw13.EncodeRows", spec := "encodeRows", unfollowed := true, recurses := true, apart := false }
def EncodeRowsSaid : Prop := encodeRowsRow.holds Try.pinned (OpenSpec.ofChange encodeRowsSpec)

/-- ITS FALSE NEIGHBOUR: 'it returns false'. Refute it at one input. -/
def encodeRowsWrong : ChangeSpec := { name := "encodeRows", fn := fun _ => fun
  | [d1, d2] => { results := [.lit (.bool false)], args := [d1, d2] }
  | _ => none }
def EncodeRowsWrongFalsely : Prop := encodeRowsRow.holds Try.pinned (OpenSpec.ofChange encodeRowsWrong)

/- THE SECOND FORM. 'bulk': how many values and letters a reading holds, each counted each time it is reached (what is shared counts as often as it is met; a slice's spare places count too). A statement '..UptoSaid' is the law's where the arguments, and the package variables that the reading takes, are together of bulk at most 1048576: NARROWER than '..Said'. Prove '..Said' where nothing that the law and all that it calls make is longer than what came in: it says more and counts as full. Else prove '..UptoSaid'. A law counts once. -/
mutual
def uptoBulk {H : Type} : DataW H → Nat
  | .lit (.string bytes) => bytes.length + 1
  | .lit _ => 1
  | .nil => 1
  | .ptr d => uptoBulk d + 1
  | .slice elems spare => uptoBulkAll elems + uptoBulkAll spare + 1
  | .agg parts => uptoBulkAll parts + 1
  | .iface _ d => uptoBulk d + 1
  | .map entries => uptoBulkEntries entries + 1
  | .held _ => 1
def uptoBulkAll {H : Type} : List (DataW H) → Nat
  | [] => 0
  | d :: r => uptoBulk d + uptoBulkAll r
def uptoBulkEntries {H : Type} : List (Lit × DataW H) → Nat
  | [] => 0
  | x :: r => uptoBulkEntry x + uptoBulkEntries r
def uptoBulkEntry {H : Type} : Lit × DataW H → Nat
  | (.string bytes, d) => bytes.length + uptoBulk d + 1
  | (_, d) => uptoBulk d + 1
 end
def uptoSmall : (H : Type) → List (DataW H) → Bool := fun _ ds => decide (uptoBulkAll ds ≤ 1048576)
def OpenSpec.upto (s : _root_.Go.ChangeSpec) : _root_.Go.OpenSpec := { _root_.Go.OpenSpec.ofChange s with cond := some uptoSmall }

/-- 'lathelaw13.EncodeApart', WHERE WHAT IT READS IS OF BULK AT MOST 1048576: true; the input reads as it did. -/
def encodeApartUptoRow : OpenClaim := { program := "ytokbhdafpghcpaa", sum := "485666ab293600a85a1eacaa74db9ecb76b793427775e3943e4ba02bc8923895", func := "lathe/lathelaw13.EncodeApart", spec := "encodeApart", apart := false, narrowed := true }
def EncodeApartUptoSaid : Prop := encodeApartUptoRow.holds Try.pinned (OpenSpec.upto encodeApartSpec)

/-- 'lathelaw13.EncodeJumps', WHERE WHAT IT READS IS OF BULK AT MOST 1048576: true; the input reads as it did. -/
def encodeJumpsUptoRow : OpenClaim := { program := "ytokbhdafpghcpaa", sum := "485666ab293600a85a1eacaa74db9ecb76b793427775e3943e4ba02bc8923895", func := "lathe/lathelaw13.EncodeJumps", spec := "encodeJumps", apart := false, narrowed := true }
def EncodeJumpsUptoSaid : Prop := encodeJumpsUptoRow.holds Try.pinned (OpenSpec.upto encodeJumpsSpec)

/-- 'lathelaw13.EncodeTells', WHERE WHAT IT READS IS OF BULK AT MOST 1048576: true; the input reads as it did. -/
def encodeTellsUptoRow : OpenClaim := { program := "ytokbhdafpghcpaa", sum := "485666ab293600a85a1eacaa74db9ecb76b793427775e3943e4ba02bc8923895", func := "lathe/lathelaw13.EncodeTells", spec := "encodeTells", apart := false, narrowed := true }
def EncodeTellsUptoSaid : Prop := encodeTellsUptoRow.holds Try.pinned (OpenSpec.upto encodeTellsSpec)

/-- 'lathelaw13.EncodeReads', WHERE WHAT IT READS IS OF BULK AT MOST 1048576: true; the input reads as it did. -/
def encodeReadsUptoRow : OpenClaim := { program := "ytokbhdafpghcpaa", sum := "485666ab293600a85a1eacaa74db9ecb76b793427775e3943e4ba02bc8923895", func := "lathe/lathelaw13.EncodeReads", spec := "encodeReads", unfollowed := true, recurses := true, apart := false, narrowed := true }
def EncodeReadsUptoSaid : Prop := encodeReadsUptoRow.holds Try.pinned (OpenSpec.upto encodeReadsSpec)

/-- 'lathelaw13.EncodeBack', WHERE WHAT IT READS IS OF BULK AT MOST 1048576: true; the input reads as it did. -/
def encodeBackUptoRow : OpenClaim := { program := "ytokbhdafpghcpaa", sum := "485666ab293600a85a1eacaa74db9ecb76b793427775e3943e4ba02bc8923895", func := "lathe/lathelaw13.EncodeBack", spec := "encodeBack", unfollowed := true, recurses := true, apart := false, narrowed := true }
def EncodeBackUptoSaid : Prop := encodeBackUptoRow.holds Try.pinned (OpenSpec.upto encodeBackSpec)

/-- 'lathelaw13.EncodeRows', WHERE WHAT IT READS IS OF BULK AT MOST 1048576: true; the input reads as it did. -/
def encodeRowsUptoRow : OpenClaim := { program := "ytokbhdafpghcpaa", sum := "485666ab293600a85a1eacaa74db9ecb76b793427775e3943e4ba02bc8923895", func := "lathe/lathelaw13.EncodeRows", spec := "encodeRows", unfollowed := true, recurses := true, apart := false, narrowed := true }
def EncodeRowsUptoSaid : Prop := encodeRowsUptoRow.holds Try.pinned (OpenSpec.upto encodeRowsSpec)

end Rows
end Go.Proofs.Ytokbhdafpghcpaa
