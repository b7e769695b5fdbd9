/- Structs and arrays of scalar cells are compared cell by cell. -/
import Derived.Test.YtkannibhndjgeaaEvC
import Derived.Test.YtkannibhndjgeaaEvK
import Derived.ChangeKeysEq
import Derived.Test.YtkannibhndjgeaaEvP
import Derived.KernelRfl
import Derived.Test.YtkannibhndjgeaaEvQ
namespace Go.Ev
open Go Go.RowKit
set_option linter.unusedVariables false
set_option linter.unusedSimpArgs false

def flatF (P : Program) (one : TypeId → Option (List LK)) : List Field → Nat → Option (List LK)
  | [], _ => some []
  | f :: r, off => match !(f.name == "_") && Nat.beq f.offset off with
    | true => match one f.type with
      | some ks => match Nat.beq ks.length (P.cellsOf f.type) && Nat.blt 0 ks.length with
        | true => match flatF P one r (off + ks.length) with
          | some l => some (ks ++ l)
          | none => none
        | false => none
      | none => none
    | false => none
def manyL : Nat → List LK → List LK
  | 0, _ => []
  | n + 1, l => l ++ manyL n l
def flatT (P : Program) : Nat → TypeId → Option (List LK)
  | 0, _ => none
  | d + 1, t => match P.underlying t with
    | some .bool => some [.bool]
    | some (.int k) => some [.int k]
    | some .string => some [.str]
    | some (.struct fs) => match P.stoodInHeld t with
      | false => flatF P (flatT P d) fs.toList 0
      | true => none
    | some (.array n e) => match flatT P d e, P.info? e with
      | some ks, some _ => match Nat.beq ks.length (P.cellsOf e) && Nat.blt 0 ks.length with | true => some (manyL n ks) | false => none
      | _, _ => none
    | _ => none

/-- A value of the type whose cells are these. -/
def mkV (P : Program) (t : TypeId) (l : List Value) : Value := match P.underlying t with
  | some e => match aggDesc e with
    | true => .agg l.toArray
    | false => l.headD .nilFunc
  | none => .nilFunc

theorem fitsVL_length : ∀ {ks : List LK} {l : List Value}, fitsVL ks l → l.length = ks.length
  | [], [], _ => rfl
  | _ :: _, [], h => h.elim
  | [], _ :: _, h => h.elim
  | k :: ks, v :: l, h => by simp [fitsVL_length h.2]
theorem fitsVL_split : ∀ {ks ks' : List LK} {l : List Value}, fitsVL (ks ++ ks') l → fitsVL ks (l.take ks.length) ∧ fitsVL ks' (l.drop ks.length)
  | [], ks', l, h => ⟨by simp [fitsVL], by simpa using h⟩
  | k :: ks, ks', [], h => h.elim
  | k :: ks, ks', v :: l, h => by
    obtain ⟨h1, h2⟩ := h
    obtain ⟨a, b⟩ := fitsVL_split h2
    exact ⟨⟨h1, a⟩, b⟩
theorem eqCellsV_split : ∀ (n : Nat) (l m : List Value), n ≤ l.length → n ≤ m.length → eqCellsV l m = (eqCellsV (l.take n) (m.take n) && eqCellsV (l.drop n) (m.drop n))
  | 0, l, m, _, _ => by simp [eqCellsV]
  | n + 1, [], m, h, _ => by simp at h
  | n + 1, _ :: _, [], _, h => by simp at h
  | n + 1, a :: l, b :: m, h, k => by
    simp only [List.take_succ_cons, List.drop_succ_cons, eqCellsV]
    rw [eqCellsV_split n l m (by simpa using h) (by simpa using k), Bool.and_assoc]

section
variable {P : Program}

/-- At the depth 'd' (and deeper) the type is compared cell by cell. -/
def EqAt (P : Program) (d : Nat) (t : TypeId) (ks : List LK) : Prop :=
  ∀ (n : Nat) (l m : List Value) (w : World), fitsVL ks l → fitsVL ks m → (Op.equalIn (n + d) t (mkV P t l) (mkV P t m)).run P w = .ok (eqCellsV l m) w

theorem part_mkV {t : TypeId} {e : TypeDesc} (hu : P.underlying t = some e) {xs : Array Value} {off : Nat} {n : Nat} (hn : n = P.cellsOf t) (hone : aggDesc e = false → n = 1) (hl : off + n ≤ xs.size) (w : World) :
    (part t xs off).run P w = .ok (mkV P t ((xs.toList.drop off).take n)) w := by
  simp only [mkV, hu]
  cases ha : aggDesc e with
  | true =>
    simp only
    rw [run_part_agg hu ha xs off w]
    congr 2
    subst hn
    apply Array.ext'
    simp [Array.toList_extract, List.extract_eq_take_drop]
  | false =>
    simp only
    have h1 := hone ha
    subst h1
    have hlt : off < xs.size := by omega
    rw [run_part_one hu ha (v := xs[off]) (by simp [hlt]) w]
    congr 1
    rw [List.headD_eq_head?_getD, List.head?_take]
    simp [hlt]

theorem flatT_one {d : Nat} {t : TypeId} {ks : List LK} (h : flatT P d t = some ks) : ∃ e, P.underlying t = some e ∧ (aggDesc e = false → ks.length = 1) := by
  cases d with
  | zero => simp [flatT] at h
  | succ d =>
    unfold flatT at h
    split at h
    · rename_i hu; exact ⟨_, hu, fun _ => by cases h; rfl⟩
    · rename_i hu; exact ⟨_, hu, fun _ => by cases h; rfl⟩
    · rename_i hu; exact ⟨_, hu, fun _ => by cases h; rfl⟩
    · rename_i hu; exact ⟨_, hu, fun q => by cases q⟩
    · rename_i hu; exact ⟨_, hu, fun q => by cases q⟩
    · cases h

theorem eqFields_ok {d : Nat} (ih : ∀ {t : TypeId} {ks : List LK}, flatT P d t = some ks → EqAt P d t ks) (n : Nat) (xs ys : Array Value) (w : World) : ∀ (fs : List Field) (off : Nat) (ks : List LK), flatF P (flatT P d) fs off = some ks →
    fitsVL ks (xs.toList.drop off) → fitsVL ks (ys.toList.drop off) → (Op.eqFields (n + d) xs ys fs).run P w = .ok (eqCellsV (xs.toList.drop off) (ys.toList.drop off)) w
  | [], off, ks, h, hx, hy => by
    simp only [flatF, Option.some.injEq] at h
    subst h
    have e1 := List.length_eq_zero_iff.1 (fitsVL_length hx)
    have e2 := List.length_eq_zero_iff.1 (fitsVL_length hy)
    rw [e1, e2]
    simp [Op.eqFields, eqCellsV]
  | f :: fs, off, ks, h, hx, hy => by
    simp only [flatF] at h
    split at h
    · rename_i hf
      simp only [Bool.and_eq_true, Bool.not_eq_true', beq_eq_false_iff_ne, Nat.beq_eq] at hf
      obtain ⟨hname, hoff⟩ := hf
      split at h
      · rename_i k1 h1
        split at h
        · rename_i hl
          rw [Bool.and_eq_true, Nat.beq_eq, Nat.blt_eq] at hl
          obtain ⟨hl, hpos⟩ := hl
          split at h
          · rename_i k2 h2
            obtain rfl := Option.some.inj h
            obtain ⟨a1, a2⟩ := fitsVL_split hx
            obtain ⟨b1, b2⟩ := fitsVL_split hy
            rw [List.drop_drop] at a2 b2
            have lx : off + k1.length ≤ xs.size := by
              have := fitsVL_length hx
              simp at this
              omega
            have ly : off + k1.length ≤ ys.size := by
              have := fitsVL_length hy
              simp at this
              omega
            obtain ⟨e, hu, hone⟩ := flatT_one h1
            have hih := ih h1 n _ _ w a1 b1
            have rest := eqFields_ok ih n xs ys w fs (off + k1.length) k2 h2 a2 b2
            unfold Op.eqFields
            rw [if_pos hname, hoff]
            simp only [Sem.run_bind, part_mkV hu hl hone lx w, part_mkV hu hl hone ly w, Result.andThen_ok, hih]
            have hs := eqCellsV_split k1.length (xs.toList.drop off) (ys.toList.drop off) (by simp; omega) (by simp; omega)
            rw [List.drop_drop, List.drop_drop] at hs
            rw [hs]
            cases eqCellsV ((xs.toList.drop off).take k1.length) ((ys.toList.drop off).take k1.length) with
            | true => simpa using rest
            | false => simp
          · cases h
        · cases h
      · cases h
    · cases h

theorem eqItems_ok {d : Nat} {e : TypeId} {ks : List LK} (hks : flatT P d e = some ks) (hl : ks.length = P.cellsOf e) (hpos : 0 < ks.length) (ih : EqAt P d e ks) (n : Nat) (xs ys : Array Value) (w : World) : ∀ (c i : Nat),
    fitsVL (manyL c ks) (xs.toList.drop (i * ks.length)) → fitsVL (manyL c ks) (ys.toList.drop (i * ks.length)) → (Op.eqItems (n + d) e (P.cellsOf e) xs ys (List.range' i c)).run P w = .ok (eqCellsV (xs.toList.drop (i * ks.length)) (ys.toList.drop (i * ks.length))) w
  | 0, i, hx, hy => by
    have e1 := List.length_eq_zero_iff.1 (fitsVL_length hx)
    have e2 := List.length_eq_zero_iff.1 (fitsVL_length hy)
    rw [e1, e2]
    simp [Op.eqItems, eqCellsV]
  | c + 1, i, hx, hy => by
    simp only [manyL] at hx hy
    obtain ⟨a1, a2⟩ := fitsVL_split hx
    obtain ⟨b1, b2⟩ := fitsVL_split hy
    have hm : i * ks.length + ks.length = (i + 1) * ks.length := by rw [Nat.add_mul, Nat.one_mul]
    rw [List.drop_drop, hm] at a2 b2
    have lx : i * ks.length + ks.length ≤ xs.size := by
      have := fitsVL_length hx
      simp only [List.length_append, List.length_drop, Array.length_toList] at this
      omega
    have ly : i * ks.length + ks.length ≤ ys.size := by
      have := fitsVL_length hy
      simp at this
      omega
    obtain ⟨e', hu, hone⟩ := flatT_one hks
    have hih := ih n _ _ w a1 b1
    have rest := eqItems_ok hks hl hpos ih n xs ys w c (i + 1) a2 b2
    rw [List.range'_succ]
    unfold Op.eqItems
    rw [← hl] at rest ⊢
    simp only [Sem.run_bind, part_mkV hu hl hone lx w, part_mkV hu hl hone ly w, Result.andThen_ok, hih]
    have hs := eqCellsV_split ks.length (xs.toList.drop (i * ks.length)) (ys.toList.drop (i * ks.length)) (by simp; omega) (by simp; omega)
    rw [List.drop_drop, List.drop_drop, hm] at hs
    rw [hs]
    cases eqCellsV ((xs.toList.drop (i * ks.length)).take ks.length) ((ys.toList.drop (i * ks.length)).take ks.length) with
    | true => simpa using rest
    | false => simp

theorem flatT_ok : ∀ {d : Nat} {t : TypeId} {ks : List LK}, flatT P d t = some ks → EqAt P d t ks
  | 0, t, ks, h => by simp [flatT] at h
  | d + 1, t, ks, h => by
    intro n l m w hl hm
    unfold flatT at h
    split at h
    · rename_i hu
      obtain rfl := Option.some.inj h
      have e1 := fitsVL_length hl
      have e2 := fitsVL_length hm
      match l, m, e1, e2 with
      | [a], [b], _, _ =>
        cases a <;> simp only [fitsVL, LK.fitsV, and_true, false_and, true_and] at hl
        cases b <;> simp only [fitsVL, LK.fitsV, and_true, false_and, true_and] at hm
        simp only [mkV, hu, aggDesc, List.headD_cons, eqCellsV, eqCellV, Bool.and_true]
        exact run_equalIn_bool' w (n + d) t _ _ hu
    · rename_i k hu
      obtain rfl := Option.some.inj h
      have e1 := fitsVL_length hl
      have e2 := fitsVL_length hm
      match l, m, e1, e2 with
      | [a], [b], _, _ =>
        cases a <;> simp only [fitsVL, LK.fitsV, and_true, false_and, true_and] at hl
        cases b <;> simp only [fitsVL, LK.fitsV, and_true, false_and, true_and] at hm
        subst hl
        subst hm
        simp only [mkV, hu, aggDesc, List.headD_cons, eqCellsV, eqCellV, Bool.and_true]
        exact run_equalIn_int w (n + d) t _ _ _ _ hu
    · rename_i hu
      obtain rfl := Option.some.inj h
      have e1 := fitsVL_length hl
      have e2 := fitsVL_length hm
      match l, m, e1, e2 with
      | [a], [b], _, _ =>
        cases a <;> simp only [fitsVL, LK.fitsV, and_true, false_and, true_and] at hl
        cases b <;> simp only [fitsVL, LK.fitsV, and_true, false_and, true_and] at hm
        simp only [mkV, hu, aggDesc, List.headD_cons, eqCellsV, eqCellV, Bool.and_true]
        exact run_equalIn_string w (n + d) t _ _ hu
    · rename_i fs hu
      split at h
      · rename_i hst
        have hf : P.fieldsOf t = fs := by simp [Program.fieldsOf, hu]
        simp only [mkV, hu, aggDesc]
        rw [show n + (d + 1) = (n + d) + 1 by omega, run_equalIn_struct w (n + d) t _ _ (by rw [hf]; exact hu) hst, hf]
        have := eqFields_ok (fun h => flatT_ok h) n l.toArray m.toArray w fs.toList 0 ks h (by simpa using hl) (by simpa using hm)
        simpa using this
      · cases h
    · rename_i c e hu
      split at h
      · rename_i k1 i h1 hi
        split at h
        · rename_i hlen
          rw [Bool.and_eq_true, Nat.beq_eq, Nat.blt_eq] at hlen
          obtain ⟨hlen, hpos⟩ := hlen
          obtain rfl := Option.some.inj h
          simp only [mkV, hu, aggDesc]
          rw [show n + (d + 1) = (n + d) + 1 by omega, run_equalIn_array w (n + d) _ _ hu hi, List.range_eq_range']
          have := eqItems_ok h1 hlen hpos (flatT_ok h1) n l.toArray m.toArray w c 0 (by simpa using hl) (by simpa using hm)
          simpa using this
        · cases h
      · cases h
    · cases h

theorem FlatEq.of_flat {d : Nat} {t : TypeId} {ks : List LK} (hd : Nat.ble d 10000 = true) (hg : P.eqGuardType P.depth t = false) (ha : (match P.underlying t with | some e => aggDesc e | none => false) = true) (h : flatT P d t = some ks) : FlatEq P t ks := by
  refine ⟨hg, fun xs ys w hx hy => ?_⟩
  have := flatT_ok h (10000 - d) xs.toList ys.toList w hx hy
  rw [Nat.sub_add_cancel (by simpa using hd)] at this
  unfold mkV at this
  split at ha
  · rename_i e he
    simp only [he, ha] at this
    simpa using this
  · cases ha
end
end Go.Ev

/- Small laws that printed contracts lean on: tests from what is known; a contract with weaker flags. -/
namespace Go.Ev
open Go Go.RowKit
set_option linter.unusedVariables false
set_option linter.unusedSimpArgs false

theorem andF {x y : Bool} (h : x = false) : (x && y) = false := by simp [h]
theorem andT {x y v : Bool} (h : x = true) (k : y = v) : (x && y) = v := by simp [h, k]
theorem orT {x y : Bool} (h : x = true) : (x || y) = true := by simp [h]
theorem orF {x y v : Bool} (h : x = false) (k : y = v) : (x || y) = v := by simp [h, k]
theorem leOf {x c c' : Int} {v : Bool} (h : decide (x < c') = v) (hc : c' = c + 1) : decide (x ≤ c) = v := by
  subst hc; rw [← h]; exact decide_eq_decide.2 (by omega)
theorem ltOfL {y c c' : Int} {v : Bool} (h : decide (y < c') = v) (hc : c' = c + 1) : decide (c < y) = !v := by
  subst hc; rw [← h, ← decide_not]; exact decide_eq_decide.2 (by omega)
theorem leOfL {y c c' : Int} {v : Bool} (h : decide (y < c') = v) (hc : c' = c) : decide (c ≤ y) = !v := by
  subst hc; rw [← h, ← decide_not]; exact decide_eq_decide.2 (by omega)
theorem ltUp {x d c : Int} (h : decide (x < d) = true) (hc : d ≤ c) : decide (x < c) = true := by
  simp only [decide_eq_true_eq] at h ⊢; omega
theorem ltDown {x d c : Int} (h : decide (x < d) = false) (hc : c ≤ d) : decide (x < c) = false := by
  simp only [decide_eq_false_iff_not] at h ⊢; omega
theorem eqOfLt {x d c : Int} (h : decide (x < d) = true) (hc : d ≤ c) : (x == c) = false := by
  simp only [decide_eq_true_eq] at h; simp only [beq_eq_false_iff_ne]; omega
theorem eqOfGe {x d c : Int} (h : decide (x < d) = false) (hc : c < d) : (x == c) = false := by
  simp only [decide_eq_false_iff_not] at h; simp only [beq_eq_false_iff_ne]; omega
theorem neOf {x c : Int} (h : ¬ x = c) : (x == c) = false := by simp [h]
theorem isOf {x c : Int} (h : x = c) : (x == c) = true := by simp [h]
theorem eqIs {x c d : Int} {v : Bool} (h : x = c) (hv : (c == d) = v) : (x == d) = v := by rw [h, hv]
theorem ltIs {x c d : Int} {v : Bool} (h : x = c) (hv : decide (c < d) = v) : decide (x < d) = v := by rw [h, hv]

/-! ### Short forms, for printed evidence -/
def tT {P : Program} : Ev P := .tst true true rfl
def tF {P : Program} : Ev P := .tst false false rfl
def tC {P : Program} {q v : Bool} (h : q = v) : Ev P := .tst q v h
theorem eT {b v : Bool} (h : b = v) : (b == true) = (v == true) := by rw [h]
theorem eF {b v : Bool} (h : b = v) : (b == false) = (v == false) := by rw [h]
theorem nT {b v : Bool} (h : b = v) : (b != true) = (v != true) := by rw [h]
theorem nF {b v : Bool} (h : b = v) : (b != false) = (v != false) := by rw [h]
theorem eTl {b v : Bool} (h : b = v) : (true == b) = (true == v) := by rw [h]
theorem eFl {b v : Bool} (h : b = v) : (false == b) = (false == v) := by rw [h]
theorem nTl {b v : Bool} (h : b = v) : (true != b) = (true != v) := by rw [h]
theorem nFl {b v : Bool} (h : b = v) : (false != b) = (false != v) := by rw [h]
theorem nt {b v : Bool} (h : b = v) : (!b) = !v := by rw [h]
theorem leC {x c' : Int} {v : Bool} (c : Int) (h : decide (x < c') = v) (hc : c' = c + 1 := by decide) : decide (x ≤ c) = v := leOf h hc
theorem ltL {y c' : Int} {v : Bool} (c : Int) (h : decide (y < c') = v) (hc : c' = c + 1 := by decide) : decide (c < y) = !v := ltOfL h hc
theorem leL {y c' : Int} {v : Bool} (c : Int) (h : decide (y < c') = v) (hc : c' = c := by decide) : decide (c ≤ y) = !v := leOfL h hc
theorem ltU {x d : Int} (c : Int) (h : decide (x < d) = true) (hc : d ≤ c := by decide) : decide (x < c) = true := ltUp h hc
theorem ltD {x d : Int} (c : Int) (h : decide (x < d) = false) (hc : c ≤ d := by decide) : decide (x < c) = false := ltDown h hc
theorem eqL {x d : Int} (c : Int) (h : decide (x < d) = true) (hc : d ≤ c := by decide) : (x == c) = false := eqOfLt h hc
theorem eqG {x d : Int} (c : Int) (h : decide (x < d) = false) (hc : c < d := by decide) : (x == c) = false := eqOfGe h hc
theorem eqI {x c : Int} (d : Int) (v : Bool) (h : x = c) (hv : (c == d) = v := by decide) : (x == d) = v := eqIs h hv
theorem ltI {x c : Int} (d : Int) (v : Bool) (h : x = c) (hv : decide (c < d) = v := by decide) : decide (x < d) = v := ltIs h hv

/-! ### Weaker flags -/
def wkO : Own → Own → Nat → Prop
  | _, .no, _ => True
  | .tight, .tight, _ => True
  | .tight, .fresh n, sz => n = sz
  | .fresh a, .fresh b, _ => a = b
  | _, _, _ => False
mutual
def wk : D → D → Prop
  | .lst o sz xs, .lst o' sz' ys => xs = ys ∧ (sz = sz' ∨ xs = []) ∧ wkO o o' sz' ∧ (o = .tight ∨ sz = sz')
  | .agg l, .agg m => wkL l m
  | .tup l, .tup m => wkL l m
  | a, b => a = b
def wkL : List D → List D → Prop
  | [], [] => True
  | a :: l, b :: m => wk a b ∧ wkL l m
  | _, _ => False
end

theorem wkL_get : ∀ {l m : List D}, wkL l m → l.length = m.length ∧ ∀ (i : Nat) (a b : D), l[i]? = some a → m[i]? = some b → wk a b
  | [], [], _ => ⟨rfl, fun i a b h => by simp at h⟩
  | [], _ :: _, h => by simp [wkL] at h
  | _ :: _, [], h => by simp [wkL] at h
  | a :: l, b :: m, h => by
    rw [wkL] at h
    obtain ⟨h1, h2⟩ := wkL_get h.2
    refine ⟨by simp [h1], fun i x y p q => ?_⟩
    cases i with
    | zero => simp at p q; subst p q; exact h.1
    | succ i => simp at p q; exact h2 i x y p q

theorem Rep.wk {C : Nat → Nat → Option Value} {M : MM} (hM : M = bareOf C) {d : D} {v : Value} (h : Rep M d v) : ∀ {d' : D}, wk d d' → Rep M d' v := by
  induction h with
  | lst b off vs hl hcap ha hsz hc hr hst ho ih =>
    intro d' w
    rename_i M o sz xs _ _ _
    cases d' <;> simp only [Ev.wk, reduceCtorEq] at w
    obtain ⟨rfl, w2, w3, _⟩ := w
    rename_i o' _ _
    refine Rep.resize (sz := sz) (.lst b off vs hl hcap ha hsz hc hr hst ?_) w2
    cases o <;> cases o' <;> first | trivial | exact ho | (simp only [wkO] at w3)
  | agg h r ih =>
    intro d' w
    cases d' <;> simp only [Ev.wk, reduceCtorEq] at w
    rename_i _ cs vs _
    obtain ⟨h1, h2⟩ := wkL_get w
    refine .agg (h1 ▸ h) fun i d v a b => ?_
    have hlt : i < cs.length := by
      rw [h]
      exact (Array.getElem?_eq_some_iff.1 b).1
    exact ih i cs[i] v (by simp [hlt]) b hM (h2 i _ _ (by simp [hlt]) a)
  | tup h r ih =>
    intro d' w
    cases d' <;> simp only [Ev.wk, reduceCtorEq] at w
    rename_i _ cs vs _
    obtain ⟨h1, h2⟩ := wkL_get w
    refine .tup (h1 ▸ h) fun i d v a b => ?_
    have hlt : i < cs.length := by
      rw [h]
      exact (Array.getElem?_eq_some_iff.1 b).1
    exact ih i cs[i] v (by simp [hlt]) b hM (h2 i _ _ (by simp [hlt]) a)
  | undef v => intro d' w; cases d' <;> simp only [Ev.wk, reduceCtorEq] at w; exact .undef v
  | int k n => intro d' w; cases d' <;> simp only [Ev.wk, reduceCtorEq] at w; rw [← w]; exact .int k n
  | bool b => intro d' w; cases d' <;> simp only [Ev.wk, reduceCtorEq] at w; rw [← w]; exact .bool b
  | str s => intro d' w; cases d' <;> simp only [Ev.wk, reduceCtorEq] at w; rw [← w]; exact .str s
  | nilp => intro d' w; cases d' <;> simp only [Ev.wk, reduceCtorEq] at w; exact .nilp
  | nilf => intro d' w; cases d' <;> simp only [Ev.wk, reduceCtorEq] at w; exact .nilf
  | ptr q h => intro d' w; cases d' <;> simp only [Ev.wk, reduceCtorEq] at w; rw [← w]; exact .ptr q h
  | eptr q vs hx hc hr ih => intro d' w; cases d' <;> simp only [Ev.wk, reduceCtorEq] at w; rw [← w]; exact .eptr q vs hx hc hr
  | mapp h => intro d' w; cases d' <;> simp only [Ev.wk, reduceCtorEq] at w; rw [← w]; exact .mapp h
  | slc h hc => intro d' w; cases d' <;> simp only [Ev.wk, reduceCtorEq] at w; rw [← w]; exact .slc h hc
  | fn h1 h2 r1 r2 i1 i2 => intro d' w; cases d' <;> simp only [Ev.wk, reduceCtorEq] at w; rw [← w]; exact .fn h1 h2 r1 r2

theorem fresh_wk {B : Nat} {w : World} {C : Nat → Nat → Option Value} {d d' : D} {v : Value} (hr : Rep (bareOf C) d v) (hf : ∀ sz sz' xs, d = .lst (.fresh sz) sz' xs → ∃ a len cap, v = .slice a len cap ∧ sz' = sz ∧ FreshRoom B w C sz a len cap) (hw : wk d d') :
    ∀ sz sz' xs, d' = .lst (.fresh sz) sz' xs → ∃ a len cap, v = .slice a len cap ∧ sz' = sz ∧ FreshRoom B w C sz a len cap := by
  rintro sz sz' xs rfl
  cases d <;> simp only [wk, reduceCtorEq] at hw
  rename_i o sz0 xs0
  obtain ⟨rfl, w2, w3, w4⟩ := hw
  cases o with
  | no => simp only [wkO] at w3
  | tok a b => simp only [wkO] at w3
  | tight =>
    simp only [wkO] at w3
    subst w3
    cases hr with
    | lst b off vs hl hcap ha hsz hc hr hst ho => exact ⟨_, _, _, rfl, rfl, .inl ho⟩
  | fresh k =>
    simp only [wkO] at w3
    subst w3
    rcases w4 with w4 | rfl
    · cases w4
    · exact hf _ _ _ rfl

/-- A contract with weaker flags. -/
theorem Ret.to {P : Program} {f : FuncId} {args : List D} {d d' : D} (h : Ret P f args d) (hw : wk d d') : Ret P f args d' := by
  refine ⟨h.ent, fun w C vs hC ha => Calls.mono (h.run w C vs hC ha) ?_⟩
  rintro e w' ⟨v, C', rfl, hext, hrep, hf1, hf2⟩
  refine ⟨v, C', rfl, hext, hrep.wk rfl hw, fresh_wk hrep hf1 hw, ?_⟩
  rintro ds vs rfl rfl i sz sz' xs hi
  cases d <;> simp only [wk, reduceCtorEq] at hw
  rename_i ds0
  obtain ⟨h1, h2⟩ := wkL_get hw
  have hlt : i < ds0.length := by
    rw [h1]
    rcases Nat.lt_or_ge i ds.length with q | q
    · exact q
    · rw [List.getElem?_eq_none q] at hi; cases hi
  cases hrep with
  | tup hl hr =>
    have hlv : i < vs.size := hl ▸ hlt
    have := fresh_wk (d := ds0[i]) (d' := .lst (.fresh sz) sz' xs) (v := vs[i]) (hr i _ _ (by simp [hlt]) (by simp [hlv])) (fun s1 s2 x e => by
      obtain ⟨a, len, cap, k1, k2⟩ := hf2 ds0 vs rfl rfl i s1 s2 x (by simp [hlt, e])
      exact ⟨a, len, cap, by simpa [hlv] using k1, k2⟩) (h2 i _ _ (by simp [hlt]) hi) sz sz' xs rfl
    obtain ⟨a, len, cap, k1, k2, k3⟩ := this
    exact ⟨a, len, cap, by simp [hlv, k1], k2, k3⟩

end Go.Ev

/- Loops by their place in a function's text; equal forms of what a loop comes to. -/
namespace Go.Ev
open Go Go.RowKit
set_option linter.unusedVariables false
set_option linter.unusedSimpArgs false

/-- The bodies of a code's loops, in the text's order, an outer one ahead of its inner ones. -/
def loopsOf : Code → List Code
  | .seq a b => loopsOf a ++ loopsOf b
  | .cond _ a b => loopsOf a ++ loopsOf b
  | .block _ a => loopsOf a
  | .scope a => loopsOf a
  | .loop a => a :: loopsOf a
  | .rangeFunc _ _ a b => loopsOf a ++ loopsOf b
  | _ => []
/-- A function's loop. -/
def loopB (fn : Func) (i : Nat) : Code := match fn.body with
  | some c => (loopsOf c).getD i .skip
  | none => .skip

section
variable {P : Program}
theorem Rounds.cast {c : Code} {n0 : Nat} {t t1 : List D} {s s1 : List Ob} {ex ex1 : Ex} {t' t1' : List D} {s' s1' : List Ob} (h : Rounds P c n0 t s ex t' s') (h1 : t = t1) (h2 : s = s1) (h3 : ex = ex1) (h4 : t' = t1') (h5 : s' = s1') : Rounds P c n0 t1 s1 ex1 t1' s1' := by
  subst h1 h2 h3 h4 h5; exact h
theorem Rounds.from {c : Code} {n0 : Nat} {t t1 : List D} {s s1 : List Ob} {ex : Ex} {t' : List D} {s' : List Ob} (h : Rounds P c n0 t s ex t' s') (h1 : t = t1) (h2 : s = s1) : Rounds P c n0 t1 s1 ex t' s' := by
  subst h1 h2; exact h
theorem Rounds.into {c : Code} {n0 : Nat} {t : List D} {s : List Ob} {ex : Ex} {t' t1' : List D} {s' s1' : List Ob} (h : Rounds P c n0 t s ex t' s') (h4 : t' = t1') (h5 : s' = s1') : Rounds P c n0 t s ex t1' s1' := by
  subst h4 h5; exact h
theorem nn_wrap {k : IntKind} (h : k.signed = false) (n : Int) : decide (0 ≤ k.wrap n) = true := by
  rw [decide_eq_true_eq]
  simp only [IntKind.wrap, h, Bool.false_and]
  exact Int.emod_nonneg _ (by cases k <;> simp [IntKind.bits])
theorem nn_u64 (n : Int) : decide (0 ≤ IntKind.u64.wrap n) = true := nn_wrap rfl n
theorem nn_u32 (n : Int) : decide (0 ≤ IntKind.u32.wrap n) = true := nn_wrap rfl n
theorem nn_u16 (n : Int) : decide (0 ≤ IntKind.u16.wrap n) = true := nn_wrap rfl n
theorem nn_u8 (n : Int) : decide (0 ≤ IntKind.u8.wrap n) = true := nn_wrap rfl n
theorem selfI {x : Int} : (x == x) = true := beq_self_eq_true x
theorem selfB {x : Bool} : (x == x) = true := beq_self_eq_true x
theorem wkL_rep {C : Nat → Nat → Option Value} {l m : List D} {vs : Array Value} (h : RepL (bareOf C) l vs) (hw : wkL l m) : RepL (bareOf C) m vs := by
  obtain ⟨h1, h2⟩ := wkL_get hw
  refine ⟨by rw [← h1]; exact h.1, fun i d v p q => ?_⟩
  have hlt : i < l.length := by rw [h.1]; exact (Array.getElem?_eq_some_iff.1 q).1
  exact (h.2 i l[i] v (by simp [hlt]) q).wk rfl (h2 i _ _ (by simp [hlt]) p)
/-- A contract at arguments of which more is known. -/
theorem Ret.args {f : FuncId} {as as' : List D} {d : D} (h : Ret P f as d) (hw : wkL as' as) : Ret P f as' d :=
  ⟨h.ent, fun w C vs hC ha => h.run w C vs hC (wkL_rep ha hw)⟩
theorem RoundRun.cast {c : Code} {sp : HS} {n0 : Nat} {t : List D} {s : List Ob} {ex : Ex} {t' t1' : List D} {s' s1' : List Ob} (h : RoundRun P c sp n0 t s ex t' s') (h4 : t' = t1') (h5 : s' = s1') : RoundRun P c sp n0 t s ex t1' s1' := by
  subst h4 h5; exact h
end
end Go.Ev
