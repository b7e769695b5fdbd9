/- Contracts and plain laws that a statement's proof leans on (texts merged: EvV). -/
import Derived.Deep.Slices
import Derived.ChangeArms
import Derived.Test.YtkpneibifdoecaaGreatH05
set_option linter.unusedVariables false
set_option linter.unusedSimpArgs false
namespace Go.Ev
open Go Go.RowKit Go.ChangeShapes Go.WideShapes Go.Deep
def flatFs (P : Program) (g : TypeId → Option (List LK)) : Nat → List Field → Option (List LK)
  | _, [] => some []
  | off, f :: r => match g f.type with
    | some ks => match Nat.beq f.offset off && Nat.beq ks.length (P.cellsOf f.type) with
      | true => match flatFs P g (off + ks.length) r with
        | some l => some (ks ++ l)
        | none => none
      | false => none
    | none => none
def flatK (P : Program) : Nat → TypeId → Option (List LK)
  | 0, _ => none
  | n + 1, t => match P.underlying t with
    | some .bool => some [.bool]
    | some (.int k) => some [.int k]
    | some (.struct fs) => match flatFs P (flatK P n) 0 fs.toList with
      | some ks => match Nat.beq ks.length (P.cellsOf t) with | true => some ks | false => none
      | none => none
    | _ => none
section
variable {H : Type} {enc : TypeId × Value → H} {P : Program} {w : World} {base : Nat} {spare : Nat → Bool} {held : Bool}
end
end Go.Ev
