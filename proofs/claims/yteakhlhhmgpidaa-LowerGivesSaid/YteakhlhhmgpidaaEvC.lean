/- What a Go function's contract says (Ret), what a piece of code comes to (CodeRun), the evidence that an evaluation is handed (Ev), and the evaluation itself: it unfolds to a result and to one proposition that is true by 'rfl'. -/
import Derived.Test.YteakhlhhmgpidaaEvB
import Derived.Laws.StructEq
namespace Go.Ev
open Go Go.RowKit
set_option linter.unusedVariables false
set_option linter.unusedSimpArgs false

/-! ### Contracts -/
/-- The function is there, and is Go's own text. -/
def Ent (P : Program) (f : FuncId) : Prop := ∃ fn c, P.funcs[f]? = some fn ∧ fn.body = some c ∧ (fn.name == "runtime.NumGoroutine") = false

/-- A new list's room. -/
def FreshRoom (B : Nat) (w : World) (C : Nat → Nat → Option Value) (sz : Nat) (a : Option Addr) (len cap : Nat) : Prop :=
  cap = len ∨ ∃ b vs ty fz, a = some ⟨b, 0, none⟩ ∧ B ≤ b ∧ w.heap[b]? = some (.cells vs ty fz) ∧ unfrozen fz vs.size ∧ cap * sz ≤ vs.size ∧ ∀ o, len * sz ≤ o → C b o = none
def FreshD (B : Nat) (w : World) (C : Nat → Nat → Option Value) (d : D) (v : Value) : Prop :=
  (∀ sz sz' xs, d = .lst (.fresh sz) sz' xs → ∃ a len cap, v = .slice a len cap ∧ sz' = sz ∧ FreshRoom B w C sz a len cap) ∧
  ∀ ds vs, d = .tup ds → v = .tuple vs → ∀ (i : Nat) (sz sz' : Nat) (xs : List D), ds[i]? = some (.lst (.fresh sz) sz' xs) → ∃ a len cap, vs[i]? = some (.slice a len cap) ∧ sz' = sz ∧ FreshRoom B w C sz a len cap

/-- THE CONTRACT of a Go function: called with values for which 'args' stand, in whatever memory, it returns a value for which 'd' stands; nothing that was there has turned. -/
structure Ret (P : Program) (f : FuncId) (args : List D) (d : D) : Prop where
  ent : Ent P f
  run : ∀ (w : World) (C : Nat → Nat → Option Value) (vs : Array Value), (∀ b o v, C b o = some v → w.cell? ⟨b, o, none⟩ = some v) → RepL (bareOf C) args vs →
    Calls P f vs w fun e w' => ∃ v C', e = .returned v ∧ Ext (bareOf C) w (bareOf C') w' ∧ Rep (bareOf C') d v ∧ FreshD w.heap.size w' C' d v

/-- The kinds of a comparable value's cells. -/
inductive LK where
  | bool
  | int (k : IntKind)
  | str
def sameKind : IntKind → IntKind → Bool
  | .i8, .i8 | .i16, .i16 | .i32, .i32 | .i64, .i64 | .u8, .u8 | .u16, .u16 | .u32, .u32 | .u64, .u64 => true
  | _, _ => false
def LK.fits : LK → D → Bool
  | .bool, .bool _ => true
  | .int k, .int k' _ => sameKind k k'
  | .str, .str _ => true
  | _, _ => false
def fitsL : List LK → List D → Bool
  | [], [] => true
  | k :: ks, d :: ds => k.fits d && fitsL ks ds
  | _, _ => false
def eqCell : D → D → Bool
  | .bool a, .bool b => a == b
  | .int _ a, .int _ b => a == b
  | .str a, .str b => a.toList == b.toList
  | _, _ => false
def eqCells : List D → List D → Bool
  | [], [] => true
  | a :: x, b :: y => eqCell a b && eqCells x y
  | _, _ => false
def LK.fitsV : LK → Value → Prop
  | .bool, .bool _ => True
  | .int k, .int k' _ => k = k'
  | .str, .string _ => True
  | _, _ => False
def eqCellV : Value → Value → Bool
  | .bool a, .bool b => a == b
  | .int _ a, .int _ b => a == b
  | .string a, .string b => a.toList == b.toList
  | _, _ => false
def eqCellsV : List Value → List Value → Bool
  | [], [] => true
  | a :: x, b :: y => eqCellV a b && eqCellsV x y
  | _, _ => false
def fitsVL : List LK → List Value → Prop
  | [], [] => True
  | k :: ks, d :: ds => k.fitsV d ∧ fitsVL ks ds
  | _, _ => False
/-- A struct or array type whose values are compared cell by cell. -/
structure FlatEq (P : Program) (t : TypeId) (ks : List LK) : Prop where
  plain : P.eqGuardType P.depth t = false
  eq : ∀ (xs ys : Array Value) (w : World), fitsVL ks xs.toList → fitsVL ks ys.toList → (Op.equalIn 10000 t (.agg xs) (.agg ys)).run P w = .ok (eqCellsV xs.toList ys.toList) w

inductive Ex where
  | norm
  | exit (id : Nat)
  | ret
def Ex.is : Ex → Exit → Prop
  | .norm, .normal => True
  | .exit i, .exit j => i = j
  | .ret, .ret => True
  | _, _ => False

def stAt (s : List Ob) : Nat → Ob := fun i => s.getD i .dead
def MM.upto (M : MM) (n : Nat) : Prop := (∀ id, n ≤ id → M.box id = none) ∧ ∀ id v, n ≤ id → M.hist id v = none

/-- What a piece of code comes to, from a state to a state. -/
structure CodeRun (P : Program) (c : Code) (t : List D) (s : List Ob) (ex : Ex) (t' : List D) (s' : List Ob) : Prop where
  run : ∀ (w0 : Base) (M : MM) (own : Nat → Option Nat) (w : World) (a : Act), WRel w0 M own (stAt s) w → M.upto s.length → RepL M t a.tmps → a.defers = [] →
    c.wp P (fun e a' w' => ex.is e ∧ ∃ M' own', WRel w0 M' own' (stAt s') w' ∧ M'.upto s'.length ∧ M.Le M' ∧ RepL M' t' a'.tmps ∧ a'.defers = []) a w
  len : s.length ≤ s'.length

/-- A view's families and boxes below an id. -/
def MM.cut (M : MM) (n : Nat) : MM := ⟨M.cell, fun i => if i < n then M.box i else none, fun i v => if i < n then M.hist i v else none⟩
/-- What a loop comes to, from a state in its head's form: the ids from 'n0' on are the loop's own. -/
structure LoopRun (P : Program) (n0 : Nat) (c : Code) (t : List D) (s : List Ob) (ex : Ex) (t' : List D) (s' : List Ob) : Prop where
  run : ∀ (w0 : Base) (M : MM) (own : Nat → Option Nat) (w : World) (a : Act), WRel w0 M own (stAt s) w → M.upto s.length → RepL M t a.tmps → a.defers = [] →
    c.wp P (fun e a' w' => ex.is e ∧ ∃ M' own', WRel w0 M' own' (stAt s') w' ∧ M'.upto s'.length ∧ (M.cut n0).Le M' ∧ RepL M' t' a'.tmps ∧ a'.defers = []) a w
  len : n0 ≤ s'.length

/-- The form of a loop's head: the slots and the ids that are kept; the slots whose lists grow (with the element's size). -/
structure HS where
  keep : List Nat
  obs : List Nat
  fams : List (Nat × Nat)

/-! ### Evidence -/
inductive Ev (P : Program) where
  | ret (g : FuncId) (as : List D) (d : D) (h : Ret P g as d)
  | inl
  | tst (q v : Bool) (h : q = v)
  | len (n m : Nat) (h : n ≤ m)
  | get (l : List D) (i : Nat) (d : D) (h : l[i]? = some d)
  | getA (l : List D) (i n : Nat) (l' : List D) (h : (l.drop i).take n = l' ∧ i + n ≤ l.length)
  | putA (l : List D) (i : Nat) (xs l' : List D) (h : l.take i ++ (xs ++ l.drop (i + xs.length)) = l' ∧ i + xs.length ≤ l.length)
  | flat (t : TypeId) (ks : List LK) (h : FlatEq P t ks)
  | code (c : Code) (t : List D) (s : List Ob) (ex : Ex) (t' : List D) (s' : List Ob) (h : CodeRun P c t s ex t' s')
  | go (n : Nat)
  | head (sp : HS) (n0 : Nat) (c : Code) (t : List D) (s : List Ob) (ex : Ex) (t' : List D) (s' : List Ob) (h : LoopRun P n0 c t s ex t' s')

structure Z (P : Program) where
  o : List (Ev P)
  c : Prop

section
variable {ρ : Type} {P : Program}

/-- A bool that is reckoned to a literal. -/
def chk (b : Bool) (k : Option ρ) : Option ρ := match b with | true => k | false => none
/-- A bool of which the evidence tells that it is true. -/
def ask (z : Z P) (b : Bool) (k : Z P → Option ρ) : Option ρ :=
  match z.o with
  | .tst q true _ :: r => k ⟨r, (q = b) ∧ z.c⟩
  | _ => none
def askLen (z : Z P) (n : Nat) (m : Nat) (k : Z P → Option ρ) : Option ρ :=
  match z.o with
  | .len n' m' _ :: r => k ⟨r, (n' = n ∧ m' = m) ∧ z.c⟩
  | _ => none
def branch (z : Z P) (b : Bool) (k1 k2 : Z P → Option ρ) : Option ρ :=
  match z.o with
  | .tst q v _ :: r => match v with
    | true => k1 ⟨r, (q = b) ∧ z.c⟩
    | false => k2 ⟨r, (q = b) ∧ z.c⟩
  | _ => none
/-- 'still': the test's operand is a constant: it is reckoned. -/
def askIf (z : Z P) (still : Bool) (b : Bool) (k : Z P → Option ρ) : Option ρ :=
  match still with
  | true => chk b (k z)
  | false => ask z b k
def pick (z : Z P) (l : List D) (i : Nat) (k : Z P → D → Option ρ) : Option ρ :=
  match z.o with
  | .get l' i' d _ :: r => k ⟨r, (l' = l ∧ i' = i) ∧ z.c⟩ d
  | _ => none

/-! ### Constants and types -/
def scalD : Value → Option D
  | .bool b => some (.bool b)
  | .int k n => some (.int k n)
  | .string s => some (.str s)
  | .pointer none => some .nilp
  | .slice none 0 0 => some (.lst .tight 0 [])
  | .nilFunc => some .nilf
  | _ => none
def scalL : List Value → Option (List D)
  | [] => some []
  | v :: r => match scalD v, scalL r with
    | some d, some l => some (d :: l)
    | _, _ => none
def valD : Value → D
  | .agg cs => match scalL cs.toList with | some l => .agg l | none => .undef
  | v => match scalD v with | some d => d | none => .undef

def opnd (t : List D) : Operand → D
  | .tmp i => t.getD i .undef
  | .const v => valD v
  | .global _ => .undef
  | .func f => .fn (.func f) [] []
def isConst : Operand → Bool
  | .const _ => true
  | _ => false

def aggDesc : TypeDesc → Bool
  | .struct _ => true
  | .array _ _ => true
  | _ => false
def known (P : Program) (t : TypeId) : Bool := (P.info? t).isSome
def zeroD (P : Program) (t : TypeId) : Option D :=
  match P.info? t with
  | some i => match i.zero with | some v => some (valD v) | none => none
  | none => none
def hasZero (P : Program) (t : TypeId) : Bool :=
  match P.info? t with
  | some i => match i.zero with | some v => Nat.beq v.cells.size i.size | none => false
  | none => false

/-- A part of cells, as 'part' and 'loadVar' give it. -/
def partc (P : Program) (z : Z P) (dyn : Bool) (t : TypeId) (cs : List D) (off : Nat) (k : Z P → D → Option ρ) : Option ρ :=
  match P.underlying t with
  | none => none
  | some d => match aggDesc d with
    | true => chk (known P t) (match dyn with
      | false => chk (Nat.ble (off + P.cellsOf t) cs.length) (k z (.agg ((cs.drop off).take (P.cellsOf t))))
      | true => match z.o with
        | .getA l i n l' _ :: r => k ⟨r, (l = cs ∧ i = off ∧ n = P.cellsOf t) ∧ z.c⟩ (.agg l')
        | _ => none)
    | false => match dyn with
      | false => match cs[off]? with | some x => k z x | none => none
      | true => pick z cs off k

def splice (cs : List D) (off : Nat) (xs : List D) : List D := cs.take off ++ (xs ++ cs.drop (off + xs.length))

/-! ### What is put into lists, and handed to calls -/
/-- A value that holds no box; its flags are given up. -/
def plainc (x : D) (k : D → Option ρ) : Option ρ := match x.plain with | true => k x | false => chk x.clean (k x.demote)
def plainsc : List D → (List D → Option ρ) → Option ρ
  | [], k => k []
  | x :: r, k => plainc x fun y => plainsc r fun l => k (y :: l)

/-! ### Literals -/
def fillD (place : Nat → Option (Nat × Nat)) (cells : List D) : List (Nat × D) → Option (List D)
  | [] => some cells
  | (i, v) :: rest => match place i, v.cells with
    | some (off, size), some vc => match Nat.beq vc.length size && Nat.ble (off + size) cells.length with
      | true => fillD place (splice cells off vc) rest
      | false => none
    | _, _ => none
def buildD (P : Program) (t : TypeId) (parts : List (Nat × D)) : Option D :=
  match zeroD P t with
  | none => none
  | some z => match z.cells with
    | none => none
    | some zero => match P.underlying t with
      | some (.struct fields) => match fields.toList.all fun f => known P f.type with
        | true => match fillD (fun i => ((fields[i]?).map fun f => (f.offset, P.cellsOf f.type))) zero parts with
          | some cs => some (.agg cs)
          | none => none
        | false => none
      | some (.array _ elem) => match known P elem with
        | true => match fillD (fun i => some (i * P.cellsOf elem, P.cellsOf elem)) zero parts with
          | some cs => some (.agg cs)
          | none => none
        | false => none
      | _ => none
def setParts (size : Nat) (xs : List D) : List (Nat × D) → (List D → Option ρ) → Option ρ
  | [], k => k xs
  | (i, v) :: rest, k => plainc v fun v' => match v'.cells with
    | some vc => chk (Nat.beq vc.length size && Nat.blt i xs.length && vc.all storable) (setParts size (xs.set i v') rest k)
    | none => none

/-! ### Integers -/
def intBin (z : Z P) (still : Bool) (op : BinOp) (k : IntKind) (a b : Int) (K : Z P → D → Option ρ) : Option ρ :=
  match op with
  | .add => K z (.int k (k.wrap (a + b)))
  | .sub => K z (.int k (k.wrap (a - b)))
  | .mul => K z (.int k (k.wrap (a * b)))
  | .quo => askIf z still (decide (b ≠ 0)) fun z => K z (.int k (k.wrap (a.tdiv b)))
  | .rem => askIf z still (decide (b ≠ 0)) fun z => K z (.int k (a.tmod b))
  | .and => K z (.int k (k.wrap (BitVec.ofInt k.bits a &&& BitVec.ofInt k.bits b).toNat))
  | .or => K z (.int k (k.wrap (BitVec.ofInt k.bits a ||| BitVec.ofInt k.bits b).toNat))
  | .xor => K z (.int k (k.wrap (BitVec.ofInt k.bits a ^^^ BitVec.ofInt k.bits b).toNat))
  | .andNot => K z (.int k (k.wrap (BitVec.ofInt k.bits a &&& ~~~BitVec.ofInt k.bits b).toNat))
  | .eql => K z (.bool (a == b))
  | .neq => K z (.bool (a != b))
  | .lss => K z (.bool (decide (a < b)))
  | .leq => K z (.bool (decide (a ≤ b)))
  | .gtr => K z (.bool (decide (a > b)))
  | .geq => K z (.bool (decide (a ≥ b)))
  | _ => none

def eqc (P : Program) (z : Z P) (t : TypeId) (x y : D) (K : Z P → Bool → Option ρ) : Option ρ :=
  match x, y with
  | .bool a, .bool b => match P.underlying t with | some .bool => K z (a == b) | _ => none
  | .agg xs, .agg ys => match z.o with
    | .flat t' ks _ :: r => chk (Nat.beq t' t && (fitsL ks xs && fitsL ks ys)) (K ⟨r, z.c⟩ (eqCells xs ys))
    | _ => none
  | .nilf, .nilf => match P.underlying t with | some (.func _ _ _) => K z true | _ => none
  | .nilf, .fn _ _ _ => match P.underlying t with | some (.func _ _ _) => K z false | _ => none
  | .fn _ _ _, .nilf => match P.underlying t with | some (.func _ _ _) => K z false | _ => none
  | .nilp, .nilp => match P.underlying t with | some (.pointer _) => K z true | _ => none
  | .ptr _ _ _, .nilp => match P.underlying t with | some (.pointer _) => K z false | _ => none
  | .eptr _ _ _, .nilp => match P.underlying t with | some (.pointer _) => K z false | _ => none
  | _, _ => none
def binc (P : Program) (z : Z P) (still : Bool) (op : BinOp) (t : TypeId) (x y : D) (K : Z P → D → Option ρ) : Option ρ :=
  match x, y with
  | .int k a, .int k' b => match op with
    | .shl => askIf z still (decide (0 ≤ b)) fun z => K z (.int k (k.wrap (a * 2 ^ (min b.toNat k.bits))))
    | .shr => askIf z still (decide (0 ≤ b)) fun z => K z (.int k (a.fdiv (2 ^ (min b.toNat k.bits))))
    | op => chk (sameKind k k') (intBin z still op k a b K)
  | .str a, .str b => match op with
    | .eql => K z (.bool (a.toList == b.toList))
    | .neq => K z (.bool (!(a.toList == b.toList)))
    | _ => none
  | x, y => match op with
    | .eql => eqc P z t x y fun z b => K z (.bool b)
    | .neq => eqc P z t x y fun z b => K z (.bool (!b))
    | _ => none
def unc (op : UnOp) (x : D) (K : D → Option ρ) : Option ρ :=
  match op, x with
  | .neg, .int k n => K (.int k (k.wrap (0 - n)))
  | .xor, .int k n => K (.int k (k.wrap (BitVec.ofInt k.bits (if k.signed then -1 else k.max) ^^^ BitVec.ofInt k.bits n).toNat))
  | .not, .bool b => K (.bool !b)
  | _, _ => none

/-! ### Bytes and strings -/
def isByte : D → Bool
  | .int .u8 _ => true
  | _ => false
def byteD (b : UInt8) : D := .int .u8 b.toNat
def byteOf : D → UInt8
  | .int _ n => UInt8.ofNat n.toNat
  | _ => 0
def bytesD (s : ByteArray) : List D := s.data.toList.map byteD
def strD (xs : List D) : ByteArray := ⟨(xs.map byteOf).toArray⟩

/-! ### What an operation does -/
inductive Eff where
  | pure (d : D)
  | read (id : Nat) (o : Ob) (d : D)
  | upd (id : Nat) (o o' : Ob) (d : D)
  | new (o : Ob) (mk : Nat → D)
  | all (s : List Ob) (d : D)

def convc (P : Program) (z : Z P) (src dst : TypeId) (x : D) (K : Z P → Eff → Option ρ) : Option ρ :=
  match P.underlying src, P.underlying dst, x with
  | some _, some (.int k), .int _ n => K z (.pure (.int k (k.wrap n)))
  | some .string, some .string, .str s => K z (.pure (.str s))
  | some .string, some (.slice e), .str s => match P.underlying e with
    | some (.int .u8) => K z (.new (.fam 0 1) fun id => .lst (.tok id 0) 1 (bytesD s))
    | _ => none
  | some (.slice e), some .string, .lst _ _ xs => match P.underlying e with
    | some (.int .u8) => ask z (xs.all isByte) fun z => K z (.pure (.str (strD xs)))
    | _ => none
  | _, _, _ => none

def idx (x : D) (K : Int → Option ρ) : Option ρ := match x with | .int _ n => K n | _ => none
def optIdx (t : List D) (o : Option Operand) (K : Option Int → Option ρ) : Option ρ :=
  match o with
  | none => K none
  | some x => idx (opnd t x) fun n => K (some n)

/-- A slice of a list: its bounds within the list. -/
def slicec (z : Z P) (o : Own) (sz : Nat) (xs : List D) (lo hi mx : Option Int) (K : Z P → D → Option ρ) : Option ρ :=
  match lo, hi, mx with
  | none, none, none => K z (.lst o.demote sz xs)
  | some l, none, none => ask z (decide (0 ≤ l ∧ l ≤ xs.length)) fun z => K z (.lst o.demote sz (xs.drop l.toNat))
  | none, some h, none => ask z (decide (0 ≤ h ∧ h ≤ xs.length)) fun z => K z (.lst .no sz (xs.take h.toNat))
  | some l, some h, none => ask z (decide (0 ≤ l ∧ l ≤ h ∧ h ≤ xs.length)) fun z => K z (.lst .no sz ((xs.take h.toNat).drop l.toNat))
  | none, some h, some m => ask z (decide (0 ≤ h ∧ h ≤ xs.length ∧ m = h)) fun z => K z (.lst .tight sz (xs.take h.toNat))
  | some l, some h, some m => ask z (decide (0 ≤ l ∧ l ≤ h ∧ h ≤ xs.length ∧ m = h)) fun z => K z (.lst .tight sz ((xs.take h.toNat).drop l.toNat))
  | _, _, _ => none

def indexAddrc (P : Program) (z : Z P) (still : Bool) (t : TypeId) (x ix : D) (K : Z P → D → Option ρ) : Option ρ :=
  match ix with
  | .int _ i => match P.underlying t, x with
    | some (.array len elem), .ptr dyn id off => chk (known P elem) (askIf z still (decide (0 ≤ i ∧ i < len)) fun z => K z (.ptr (dyn || !still) id (off + i.toNat * P.cellsOf elem)))
    | some (.array len elem), .eptr dyn y off => chk (known P elem) (askIf z still (decide (0 ≤ i ∧ i < len)) fun z => K z (.eptr (dyn || !still) y (off + i.toNat * P.cellsOf elem)))
    | some (.slice elem), .lst _ sz xs => chk (known P elem && Nat.beq (P.cellsOf elem) sz) (askIf z still (decide (0 ≤ i)) fun z => pick z xs i.toNat fun z y => K z (.eptr false y 0))
    | _, _ => none
  | _ => none

def indexc (P : Program) (z : Z P) (still : Bool) (t : TypeId) (x ix : D) (K : Z P → D → Option ρ) : Option ρ :=
  match ix with
  | .int _ i => match P.underlying t, x with
    | some (.array len elem), .agg cs => chk (known P elem) (askIf z still (decide (0 ≤ i ∧ i < len)) fun z => partc P z (!still) elem cs (i.toNat * P.cellsOf elem) K)
    | some .string, .str s => askIf z still (decide (0 ≤ i)) fun z => pick z (bytesD s) i.toNat K
    | _, _ => none
  | _ => none

def loadc (P : Program) (z : Z P) (t : TypeId) (x : D) (s : List Ob) (K : Z P → Eff → Option ρ) : Option ρ :=
  match x with
  | .ptr dyn id off => match s.getD id .dead with
    | .box cs => partc P z dyn t cs off fun z d => K z (.read id (.box cs) d)
    | _ => none
  | .eptr dyn y off => match y.cells with
    | some cs => partc P z dyn t cs off fun z d => K z (.pure d)
    | none => none
  | _ => none
def storec (P : Program) (z : Z P) (t : TypeId) (x v : D) (s : List Ob) (K : Z P → Eff → Option ρ) : Option ρ :=
  match x with
  | .ptr dyn id off => match s.getD id .dead with
    | .box cs => match v.cells with
      | some vc => chk (known P t && Nat.beq vc.length (P.cellsOf t) && vc.all storable) (match dyn with
        | false => chk (Nat.ble (off + vc.length) cs.length) (K z (.upd id (.box cs) (.box (splice cs off vc)) .undef))
        | true => match z.o with
          | .putA l i xs l' _ :: r => K ⟨r, (l = cs ∧ i = off ∧ xs = vc) ∧ z.c⟩ (.upd id (.box cs) (.box l') .undef)
          | _ => none)
      | none => none
    | _ => none
  | _ => none
def fieldAddrc (P : Program) (s : TypeId) (x : D) (f : Nat) (K : D → Option ρ) : Option ρ :=
  match P.underlying s with
  | some (.struct fields) => match fields[f]? with
    | some fd => chk (known P fd.type && Nat.blt 0 (P.cellsOf fd.type)) (match x with
      | .ptr dyn id off => K (.ptr dyn id (off + fd.offset))
      | .eptr dyn y off => K (.eptr dyn y (off + fd.offset))
      | _ => none)
    | none => none
  | _ => none

def big : Nat := 2147483648
def okSz (sz : Nat) (xs : List D) (size : Nat) : Bool := Nat.beq sz size || xs.isEmpty
def appendc (P : Program) (z : Z P) (ts : Array TypeId) (s x : D) (st : List Ob) (K : Z P → Eff → Option ρ) : Option ρ :=
  match ts.toList with
  | ty :: xt :: _ => match P.underlying ty, P.underlying xt with
    | some (.slice elem), some (.slice _) => match s, x with
      | .lst o sz xs, .lst _ sz' ys => chk (known P elem && hasZero P elem && okSz sz xs (P.cellsOf elem) && okSz sz' ys (P.cellsOf elem) && Nat.ble (P.bytesOf elem) 65536)
          (askLen z (xs.length + ys.length) big fun z => match o with
            | .tight => K z (.new (.fam 0 (P.cellsOf elem)) fun id => .lst (.tok id 0) (P.cellsOf elem) (xs ++ ys))
            | .tok t v => match st.getD t .dead with
              | .fam v' sz2 => chk (Nat.beq v' v && Nat.beq sz2 (P.cellsOf elem)) (K z (.upd t (.fam v' sz2) (.fam (v + 1) sz2) (.lst (.tok t (v + 1)) (P.cellsOf elem) (xs ++ ys))))
              | _ => none
            | _ => none)
      | _, _ => none
    | _, _ => none
  | _ => none

def lenc (P : Program) (t : TypeId) (x : D) (K : D → Option ρ) : Option ρ :=
  match P.underlying t, x with
  | some .string, .str s => K (.int .i64 s.size)
  | some (.array n _), _ => K (.int .i64 n)
  | some (.slice _), .lst _ _ xs => K (.int .i64 xs.length)
  | _, _ => none
def minc (x y : D) (K : D → Option ρ) : Option ρ :=
  match x, y with
  | .int k a, .int _ b => K (.int k (if b < a then b else a))
  | _, _ => none
def maxc (x y : D) (K : D → Option ρ) : Option ρ :=
  match x, y with
  | .int k a, .int _ b => K (.int k (if b > a then b else a))
  | _, _ => none

/-- A result that is new: the flag of the first new list becomes a family's. -/
def adoptL (id : Nat) : List D → Option (List D × Nat)
  | [] => none
  | .lst (.fresh sz) sz' xs :: r => some (.lst (.tok id 0) sz' xs :: r.map D.demote, sz)
  | d :: r => match adoptL id r with
    | some (l, sz) => some (d :: l, sz)
    | none => none
def adopt (id : Nat) (d : D) : D × Ob :=
  match d with
  | .lst (.fresh sz) sz' xs => (.lst (.tok id 0) sz' xs, .fam 0 sz)
  | .tup ds => match adoptL id ds with
    | some (l, sz) => (.tup l, .fam 0 sz)
    | none => (.tup ds, .dead)
  | d => (d, .dead)

/-! ### Evaluation in order: a value, a list, a slot, written out. -/
mutual
def force : D → (D → Option ρ) → Option ρ
  | .undef, K => K .undef
  | .int k n, K => K (.int k n)
  | .bool b, K => K (.bool b)
  | .str s, K => K (.str s)
  | .nilp, K => K .nilp
  | .ptr dyn id off, K => K (.ptr dyn id off)
  | .eptr dyn x off, K => K (.eptr dyn x off)
  | .lst o sz xs, K => K (.lst o sz xs)
  | .nilf, K => K .nilf
  | .fn f a b, K => forceL a fun a' => forceL b fun b' => K (.fn f a' b')
  | .agg cs, K => forceL cs fun l => K (.agg l)
  | .tup cs, K => forceL cs fun l => K (.tup l)
def forceL : List D → (List D → Option ρ) → Option ρ
  | [], K => K []
  | d :: r, K => force d fun d' => forceL r fun l => K (d' :: l)
end
def setc : List D → Nat → D → (List D → Option ρ) → Option ρ
  | [], _, _, K => K []
  | _ :: r, 0, d, K => K (d :: r)
  | a :: r, i + 1, d, K => setc r i d fun l => K (a :: l)
def put (t : List D) (dst : Option Nat) (d : D) : List D := match dst with | some i => t.set i d | none => t
def putc (t : List D) (dst : Option Nat) (d : D) (K : List D → Option ρ) : Option ρ := match dst with
  | some i => force d fun d' => setc t i d' K
  | none => K t
def setOb : List Ob → Nat → Ob → (List Ob → Option ρ) → Option ρ
  | [], _, _, K => K []
  | _ :: r, 0, d, K => K (d :: r)
  | a :: r, i + 1, d, K => setOb r i d fun l => K (a :: l)
def forceOb : Ob → (Ob → Option ρ) → Option ρ
  | .dead, K => K .dead
  | .box cs, K => forceL cs fun l => K (.box l)
  | .fam v sz, K => K (.fam v sz)
def pushOb : List Ob → Ob → (List Ob → Option ρ) → Option ρ
  | [], o, K => K [o]
  | a :: r, o, K => pushOb r o fun l => K (a :: l)

abbrev Inl (P : Program) (ρ : Type) := FuncId → List D → List Ob → Z P → (D → List Ob → Z P → Option ρ) → Option ρ

def calleec (P : Program) (inl : Inl P ρ) (g : FuncId) (args : List D) (s : List Ob) (z : Z P) (K : Z P → Eff → Option ρ) : Option ρ :=
  match z.o with
  | .inl :: r => inl g args s ⟨r, z.c⟩ fun d s' z => K z (.all s' d)
  | .ret g' as d _ :: r => chk (Nat.beq g' g) (plainsc args fun as' => K ⟨r, (as = as') ∧ z.c⟩ (.new (adopt 0 d).2 fun id => (adopt id d).1))
  | _ => none

def opc (P : Program) (inl : Inl P ρ) (o : Oper) (t : List D) (s : List Ob) (z : Z P) (K : Z P → Eff → Option ρ) : Option ρ :=
  match o.op with
  | .move x => K z (.pure (opnd t x))
  | .assign x => K z (.pure (opnd t x))
  | .pick c a b => match opnd t c with
    | .bool q => branch z q (fun z => K z (.pure (opnd t a))) (fun z => K z (.pure (opnd t b)))
    | _ => none
  | .box _ x => match (opnd t x).cells with
    | some cs => K z (.new (.box cs) fun id => .ptr false id 0)
    | none => none
  | .alloc e => match zeroD P e with
    | some d => match d.cells with
      | some cs => K z (.new (.box cs) fun id => .ptr false id 0)
      | none => none
    | none => none
  | .build ty parts => match buildD P ty (parts.toList.map fun p => (p.1, opnd t p.2)) with
    | some d => K z (.pure d)
    | none => none
  | .buildSlice ty len parts => match P.underlying ty with
    | some (.slice e) => match zeroD P e with
      | some d => match d.cells with
        | some zc => chk (known P e && Nat.beq zc.length (P.cellsOf e) && Nat.ble (len * P.cellsOf e) 16777216 && d.plain && zc.all storable)
            (setParts (P.cellsOf e) (List.replicate len d) (parts.toList.map fun p => (p.1, opnd t p.2)) fun xs => K z (.pure (.lst .tight (P.cellsOf e) xs)))
        | none => none
      | none => none
    | _ => none
  | .load ty a => loadc P z ty (opnd t a) s K
  | .store ty a x => storec P z ty (opnd t a) (opnd t x) s K
  | .nilCheck x => match opnd t x with
    | .ptr dyn id off => K z (.pure (.ptr dyn id off))
    | .eptr dyn y off => K z (.pure (.eptr dyn y off))
    | .fn (.func g) a b => K z (.pure (.fn (.func g) a b))
    | _ => none
  | .binOp op ty x y _ => binc P z (isConst y) op ty (opnd t x) (opnd t y) fun z d => K z (.pure d)
  | .unOp op _ x => unc op (opnd t x) fun d => K z (.pure d)
  | .convert src dst x => convc P z src dst (opnd t x) K
  | .makeFunc f first cap => K z (.pure (.fn f (first.toList.map (opnd t)) (cap.toList.map (opnd t))))
  | .slice ty x lo hi mx => match P.underlying ty, opnd t x with
    | some (.slice e), .lst o' sz xs => chk (known P e && Nat.beq (P.cellsOf e) sz) (optIdx t lo fun l => optIdx t hi fun h => optIdx t mx fun m => slicec z o' sz xs l h m fun z d => K z (.pure d))
    | _, _ => none
  | .fieldAddr ty x f => fieldAddrc P ty (opnd t x) f fun d => K z (.pure d)
  | .field ty x f => match P.underlying ty, opnd t x with
    | some (.struct fields), .agg cs => match fields[f]? with
      | some fd => partc P z false fd.type cs fd.offset fun z d => K z (.pure d)
      | none => none
    | _, _ => none
  | .indexAddr ty x ix => indexAddrc P z (isConst ix) ty (opnd t x) (opnd t ix) fun z d => K z (.pure d)
  | .index ty x ix => indexc P z (isConst ix) ty (opnd t x) (opnd t ix) fun z d => K z (.pure d)
  | .extract x i => match opnd t x with
    | .tup ds => match ds[i]? with
      | some d => K z (.pure d)
      | none => none
    | _ => none
  | .call c => match c.callee with
    | .builtin .len => match c.args.toList, c.argTypes.toList with
      | x :: _, ty :: _ => lenc P ty (opnd t x) fun d => K z (.pure d)
      | _, _ => none
    | .builtin .append => match c.args.toList with
      | x :: y :: _ => appendc P z c.argTypes (opnd t x) (opnd t y) s K
      | _ => none
    | .builtin .min => match c.args.toList with
      | [x, y] => minc (opnd t x) (opnd t y) fun d => K z (.pure d)
      | _ => none
    | .builtin .max => match c.args.toList with
      | [x, y] => maxc (opnd t x) (opnd t y) fun d => K z (.pure d)
      | _ => none
    | .value f => match opnd t f with
      | .fn (.func g) first cap => calleec P inl g (first ++ (c.args.toList.map (opnd t) ++ cap)) s z K
      | _ => none
    | _ => none
  | _ => none

def guardVal (ops : Array Oper) (t : List D) (j : Nat) : D := match ops[j]? with
  | some o => match o.dst with | some i => t.getD i .undef | none => .undef
  | none => .undef

inductive FP where
  | non
  | rd (id : Nat)
  | wr (id : Nat)
  | nw (id : Nat)
  | all

def opsc (P : Program) (inl : Inl P ρ) (ops : Array Oper) : List Oper → List D → List Ob → List FP → Z P → (List D → List Ob → List FP → Z P → Option ρ) → Option ρ
  | [], t, s, fps, z, K => K t s fps z
  | o :: rest, t, s, fps, z, K =>
    let run := fun z => opc P inl o t s z fun z e => match e with
      | .pure d => putc t o.dst d fun t' => opsc P inl ops rest t' s (.non :: fps) z K
      | .read id _ d => putc t o.dst d fun t' => opsc P inl ops rest t' s (.rd id :: fps) z K
      | .upd id _ o' d => putc t o.dst d fun t' => forceOb o' fun o2 => setOb s id o2 fun s' => opsc P inl ops rest t' s' (.wr id :: fps) z K
      | .new o' mk => putc t o.dst (mk s.length) fun t' => forceOb o' fun o2 => pushOb s o2 fun s' => opsc P inl ops rest t' s' (.nw s.length :: fps) z K
      | .all s' d => putc t o.dst d fun t' => opsc P inl ops rest t' s' (.all :: fps) z K
    match o.guard with
    | none => run z
    | some (j, want) => match guardVal ops t j with
      | .bool b => branch z (b == want) run (fun z => putc t o.dst (.tup []) fun t' => opsc P inl ops rest t' s (.non :: fps) z K)
      | .tup [] => putc t o.dst (.tup []) fun t' => opsc P inl ops rest t' s (.non :: fps) z K
      | _ => none

/-! ### Regions that draw their order -/
/-- Which operations stand ahead of one, as bits. -/
def aheads : List Oper → List Nat → List Nat
  | [], acc => acc
  | o :: rest, acc => aheads rest (acc ++ [o.after.toList.foldl (fun m e => match Region.binds .any e with | true => m ||| (1 <<< e.on) ||| acc.getD e.on 0 | false => m) 0])
def clash : FP → FP → Bool
  | .non, _ => false
  | _, .non => false
  | .all, _ => true
  | _, .all => true
  | .rd _, .rd _ => false
  | .rd i, .wr j => Nat.beq i j
  | .rd i, .nw j => Nat.beq i j
  | .wr i, .rd j => Nat.beq i j
  | .wr i, .wr j => Nat.beq i j
  | .wr i, .nw j => Nat.beq i j
  | .nw i, .rd j => Nat.beq i j
  | .nw i, .wr j => Nat.beq i j
  | .nw i, .nw j => Nat.beq i j
def tmpsOf (xs : List Operand) : List Nat := xs.filterMap fun x => match x with | .tmp i => some i | _ => none
def looks (ops : Array Oper) (o : Oper) : List Nat :=
  tmpsOf o.op.operands.toList ++ (match o.guard with
    | some (j, _) => match ops[j]? with
      | some q => q.dst.toList
      | none => []
    | none => [])
/-- Two operations share a temporary that one of them writes. -/
def share (ops : Array Oper) (x y : Oper) : Bool :=
  (match x.dst with | some d => (looks ops y).contains d || y.dst == some d | none => false) || (match y.dst with | some d => (looks ops x).contains d | none => false)
def drawOK (ops : Array Oper) (fps : List FP) : Bool :=
  let l := ops.toList
  let ah := aheads l []
  let f := fps.reverse
  (Nat.beq f.length l.length) &&
  (List.range l.length).all fun j =>
    (match l[j]? with
     | some o => o.after.all fun e => !Region.binds .any e || Nat.blt e.on j
     | none => false) &&
    (List.range j).all fun i => (ah.getD j 0).testBit i ||
      (match l[i]?, l[j]? with
       | some x, some y => !share ops x y
       | _, _ => false) && !clash (f.getD i .all) (f.getD j .all)

/-! ### Loops -/
def memN (i : Nat) : List Nat → Bool
  | [] => false
  | a :: r => match Nat.beq a i with | true => true | false => memN i r
mutual
def idsB (n : Nat) : D → Bool
  | .ptr _ id _ => Nat.blt id n
  | .lst (.tok id _) _ _ => Nat.blt id n
  | .fn _ a b => idsBL n a && idsBL n b
  | .agg cs => idsBL n cs
  | .tup cs => idsBL n cs
  | _ => true
def idsBL (n : Nat) : List D → Bool
  | [] => true
  | d :: r => idsB n d && idsBL n r
end
/-- A list that grows in the loop becomes the family 'id'; which family it was. -/
def growc (s : List Ob) (size id : Nat) (d : D) : Option (D × Option Nat) :=
  match d with
  | .lst .tight sz xs => match okSz sz xs size with
    | true => some (.lst (.tok id 0) size xs, none)
    | false => none
  | .lst (.tok i v) sz xs => match s.getD i .dead with
    | .fam v' sz2 => match Nat.beq v' v && (Nat.beq sz2 size && okSz sz xs size) with
      | true => some (.lst (.tok id 0) size xs, some i)
      | false => none
    | _ => none
  | _ => none
def growL (t : List D) (s : List Ob) : List (Nat × Nat) → Nat → Option (List (Option Nat))
  | [], _ => some []
  | (k, size) :: r, id => match growc s size id (t.getD k .undef), growL t s r (id + 1) with
    | some (_, o), some l => some (o :: l)
    | _, _ => none
def findF (i : Nat) : List (Nat × Nat) → Nat → Option (Nat × Nat)
  | [], _ => none
  | (k, size) :: r, id => match Nat.beq k i with | true => some (id, size) | false => findF i r (id + 1)
def slotc (sp : HS) (n0 : Nat) (s : List Ob) (i : Nat) (d : D) : Option D :=
  match findF i sp.fams n0 with
  | some (id, size) => match growc s size id d with | some (d', _) => some d' | none => none
  | none => match memN i sp.keep with
    | true => match idsB n0 d with | true => some d | false => none
    | false => some .undef
def slotsc (sp : HS) (n0 : Nat) (s : List Ob) : Nat → List D → Option (List D)
  | _, [] => some []
  | i, d :: r => match slotc sp n0 s i d, slotsc sp n0 s (i + 1) r with
    | some d', some l => some (d' :: l)
    | _, _ => none
def hasO (i : Nat) : List (Option Nat) → Bool
  | [] => false
  | none :: r => hasO i r
  | some a :: r => match Nat.beq a i with | true => true | false => hasO i r
def distO : List (Option Nat) → Bool
  | [] => true
  | none :: r => distO r
  | some a :: r => !hasO a r && distO r
def obc (sp : HS) (n0 : Nat) (used : List (Option Nat)) (i : Nat) (o : Ob) : Option Ob :=
  match memN i sp.obs && !hasO i used with
  | false => some .dead
  | true => match o with
    | .box cs => match idsBL n0 cs with | true => some (.box cs) | false => none
    | o => some o
def obsc (sp : HS) (n0 : Nat) (used : List (Option Nat)) : Nat → Nat → List Ob → Option (List Ob)
  | 0, _, _ => some (sp.fams.map fun f => .fam 0 f.2)
  | _ + 1, _, [] => none
  | n + 1, i, o :: r => match obc sp n0 used i o, obsc sp n0 used n (i + 1) r with
    | some o', some l => some (o' :: l)
    | _, _ => none
/-- The state in the form of the loop's head. -/
def headc (sp : HS) (n0 : Nat) (t : List D) (s : List Ob) : Option (List D × List Ob) :=
  match growL t s sp.fams n0 with
  | some used => match distO used with
    | true => match slotsc sp n0 s 0 t, obsc sp n0 used n0 0 s with
      | some t', some s' => some (t', s')
      | _, _ => none
    | false => none
  | none => none
/-- So many rounds. -/
def iter (body : List D → List Ob → Z P → (Ex → List D → List Ob → Z P → Option ρ) → Option ρ) : Nat → List D → List Ob → Z P → (Ex → List D → List Ob → Z P → Option ρ) → Option ρ
  | 0, _, _, _, _ => none
  | n + 1, t, s, z, K => body t s z fun ex t' s' z => match ex with
    | .norm => iter body n t' s' z K
    | e => K e t' s' z

def codec (P : Program) (inl : Inl P ρ) : Code → List D → List Ob → Z P → (Ex → List D → List Ob → Z P → Option ρ) → Option ρ
  | .skip, t, s, z, K => K .norm t s z
  | .label _, t, s, z, K => K .norm t s z
  | .region _ ops draw, t, s, z, K => opsc P inl ops ops.toList t s [] z fun t' s' fps z => match draw with
    | false => K .norm t' s' z
    | true => chk (drawOK ops fps) (K .norm t' s' z)
  | .seq a b, t, s, z, K => codec P inl a t s z fun ex t' s' z => match ex with
    | .norm => codec P inl b t' s' z K
    | e => K e t' s' z
  | .cond c a b, t, s, z, K => match opnd t c with
    | .bool q => branch z q (fun z => codec P inl a t s z K) (fun z => codec P inl b t s z K)
    | _ => none
  | .block id a, t, s, z, K => codec P inl a t s z fun ex t' s' z => match ex with
    | .exit i => match Nat.beq i id with | true => K .norm t' s' z | false => K (.exit i) t' s' z
    | e => K e t' s' z
  | .scope a, t, s, z, K => codec P inl a t s z K
  | .exit id, t, s, z, K => K (.exit id) t s z
  | .ret, t, s, z, K => K .ret t s z
  | .loop x, t, s, z, K => match z.o with
    | .go n :: r => iter (codec P inl x) n t s ⟨r, z.c⟩ K
    | .head sp n0 c' t1 s1 ex t2 s2 _ :: r => match headc sp n0 t s with
      | some (t', s') => chk (Nat.beq n0 s.length) (K ex t2 s2 ⟨r, (c' = .loop x ∧ t1 = t' ∧ s1 = s') ∧ z.c⟩)
      | none => none
    | .code c' t1 s1 ex t2 s2 _ :: r => K ex t2 s2 ⟨r, (c' = .loop x ∧ t1 = t ∧ s1 = s) ∧ z.c⟩
    | _ => none
  | c, t, s, z, K => match z.o with
    | .code c' t1 s1 ex t2 s2 _ :: r => K ex t2 s2 ⟨r, (c' = c ∧ t1 = t ∧ s1 = s) ∧ z.c⟩
    | _ => none

/-- The result: what the result variables hold. -/
def resOne (P : Program) (t : List D) (s : List Ob) : ResultVar → Option D
  | .tmp i => some (t.getD i .undef)
  | .cell a ty => match t.getD a .undef with
    | .ptr _ id off => match s.getD id .dead with
      | .box cs => match P.underlying ty with
        | some d => match aggDesc d with
          | true => match known P ty && Nat.ble (off + P.cellsOf ty) cs.length with
            | true => some (.agg ((cs.drop off).take (P.cellsOf ty)))
            | false => none
          | false => cs[off]?
        | none => none
      | _ => none
    | _ => none
def resL (P : Program) (t : List D) (s : List Ob) : List ResultVar → Option (List D)
  | [] => some []
  | r :: rs => match resOne P t s r, resL P t s rs with
    | some d, some l => some (d :: l)
    | _, _ => none
def resD : List D → D
  | [d] => d
  | l => .tup l
def bodyc (P : Program) (inl : Inl P ρ) (fn : Func) (args : List D) (s : List Ob) (z : Z P) (K : D → List Ob → Z P → Option ρ) : Option ρ :=
  match fn.body with
  | some c => chk (Nat.ble args.length fn.ntmps) (forceL (args ++ List.replicate (fn.ntmps - args.length) .undef) fun t0 => codec P inl c t0 s z fun ex t' s' z => match ex with
    | .exit _ => none
    | _ => match resL P t' s' fn.results.toList with
      | some l => K (resD l) s' z
      | none => none)
  | none => none
def inlN (P : Program) : Nat → Inl P ρ
  | 0 => fun _ _ _ _ _ => none
  | n + 1 => fun f args s z K => match P.funcs[f]? with
    | some fn => chk (!(fn.name == "runtime.NumGoroutine")) (bodyc P (inlN P n) fn args s z K)
    | none => none

/-- What comes out of a call: the flags of families that are at their end become 'new', others are given up. -/
def outFlag (s : List Ob) : D → D
  | .lst (.tok id v) sz xs => match s.getD id .dead with
    | .fam v' sz2 => match Nat.beq v v' && Nat.beq sz sz2 with | true => .lst (.fresh sz) sz xs | false => .lst .no sz xs
    | _ => .lst .no sz xs
  | d => d.demote
def outD (s : List Ob) : D → D
  | .tup ds => .tup (ds.map (outFlag s))
  | d => outFlag s d
end

/-! ### The whole of it -/
/-- The proposition that the evidence was used where it belongs: it is reckoned to this one. -/
def Ev.self {P : Program} : Ev P → Prop → Prop
  | .ret _ as _ _, c => (as = as) ∧ c
  | .inl, c => c
  | .tst q _ _, c => (q = q) ∧ c
  | .len n m _, c => (n = n ∧ m = m) ∧ c
  | .get l i _ _, c => (l = l ∧ i = i) ∧ c
  | .getA l i n _ _, c => (l = l ∧ i = i ∧ n = n) ∧ c
  | .putA l i xs _ _, c => (l = l ∧ i = i ∧ xs = xs) ∧ c
  | .flat _ _ _, c => c
  | .code c' t s _ _ _ _, c => (c' = c' ∧ t = t ∧ s = s) ∧ c
  | .go _, c => c
  | .head _ _ c' t s _ _ _ _, c => (c' = c' ∧ t = t ∧ s = s) ∧ c
def selfs {P : Program} : List (Ev P) → Prop → Prop
  | [], c => c
  | e :: r, c => selfs r (e.self c)
theorem selfs_true {P : Program} (l : List (Ev P)) : ∀ {c : Prop}, c → selfs l c := by
  induction l with
  | nil => exact fun h => h
  | cons e r ih =>
    intro c h
    refine ih ?_
    cases e <;> simp only [Ev.self, true_and, and_self] <;> exact h

/-- A call of a function, evaluated: its result as it comes out, and the proposition. -/
def evalRet (P : Program) (fn : Func) (args : List D) (o : List (Ev P)) : Option (D × Prop) :=
  bodyc P (inlN P 20) fn args [] ⟨o, True⟩ fun d s z => chk d.clean (match z.o with | [] => some (outD s d, z.c) | _ => none)
/-- A loop's round, evaluated: its state in the form of a head. -/
def evalRound (P : Program) (c : Code) (sp : HS) (n0 : Nat) (t : List D) (s : List Ob) (o : List (Ev P)) : Option ((Ex × List D × List Ob) × Prop) :=
  codec P (inlN P 20) c t s ⟨o, True⟩ fun ex t' s' z => match z.o with
    | [] => match headc sp n0 t' s' with
      | some (t2, s2) => some ((ex, t2, s2), z.c)
      | none => none
    | _ => none
/-- A piece of code, evaluated. -/
def evalCode (P : Program) (c : Code) (t : List D) (s : List Ob) (o : List (Ev P)) : Option ((Ex × List D × List Ob) × Prop) :=
  codec P (inlN P 20) c t s ⟨o, True⟩ fun ex t' s' z => match z.o with | [] => some ((ex, t', s'), z.c) | _ => none

end Go.Ev
