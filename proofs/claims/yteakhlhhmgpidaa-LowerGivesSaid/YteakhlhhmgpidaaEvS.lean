/- Structs and arrays of scalar cells are compared cell by cell. -/
import Derived.Test.YteakhlhhmgpidaaEvC
import Derived.Test.YteakhlhhmgpidaaEvD
import Derived.ChangeKeysEq
namespace Go.Ev
open Go Go.RowKit
set_option linter.unusedVariables false
set_option linter.unusedSimpArgs false

def flatF (P : Program) (one : TypeId → Option (List LK)) : List Field → Nat → Option (List LK)
  | [], _ => some []
  | f :: r, off => match !(f.name == "_") && Nat.beq f.offset off with
    | true => match one f.type with
      | some ks => match Nat.beq ks.length (P.cellsOf f.type) && Nat.blt 0 ks.length with
        | true => match flatF P one r (off + ks.length) with
          | some l => some (ks ++ l)
          | none => none
        | false => none
      | none => none
    | false => none
def manyL : Nat → List LK → List LK
  | 0, _ => []
  | n + 1, l => l ++ manyL n l
def flatT (P : Program) : Nat → TypeId → Option (List LK)
  | 0, _ => none
  | d + 1, t => match P.underlying t with
    | some .bool => some [.bool]
    | some (.int k) => some [.int k]
    | some .string => some [.str]
    | some (.struct fs) => match P.stoodInHeld t with
      | false => flatF P (flatT P d) fs.toList 0
      | true => none
    | some (.array n e) => match flatT P d e, P.info? e with
      | some ks, some _ => match Nat.beq ks.length (P.cellsOf e) && Nat.blt 0 ks.length with | true => some (manyL n ks) | false => none
      | _, _ => none
    | _ => none

/-- A value of the type whose cells are these. -/
def mkV (P : Program) (t : TypeId) (l : List Value) : Value := match P.underlying t with
  | some e => match aggDesc e with
    | true => .agg l.toArray
    | false => l.headD .nilFunc
  | none => .nilFunc

theorem fitsVL_length : ∀ {ks : List LK} {l : List Value}, fitsVL ks l → l.length = ks.length
  | [], [], _ => rfl
  | _ :: _, [], h => h.elim
  | [], _ :: _, h => h.elim
  | k :: ks, v :: l, h => by simp [fitsVL_length h.2]
theorem fitsVL_split : ∀ {ks ks' : List LK} {l : List Value}, fitsVL (ks ++ ks') l → fitsVL ks (l.take ks.length) ∧ fitsVL ks' (l.drop ks.length)
  | [], ks', l, h => ⟨by simp [fitsVL], by simpa using h⟩
  | k :: ks, ks', [], h => h.elim
  | k :: ks, ks', v :: l, h => by
    obtain ⟨h1, h2⟩ := h
    obtain ⟨a, b⟩ := fitsVL_split h2
    exact ⟨⟨h1, a⟩, b⟩
theorem eqCellsV_split : ∀ (n : Nat) (l m : List Value), n ≤ l.length → n ≤ m.length → eqCellsV l m = (eqCellsV (l.take n) (m.take n) && eqCellsV (l.drop n) (m.drop n))
  | 0, l, m, _, _ => by simp [eqCellsV]
  | n + 1, [], m, h, _ => by simp at h
  | n + 1, _ :: _, [], _, h => by simp at h
  | n + 1, a :: l, b :: m, h, k => by
    simp only [List.take_succ_cons, List.drop_succ_cons, eqCellsV]
    rw [eqCellsV_split n l m (by simpa using h) (by simpa using k), Bool.and_assoc]

section
variable {P : Program}

/-- At the depth 'd' (and deeper) the type is compared cell by cell. -/
def EqAt (P : Program) (d : Nat) (t : TypeId) (ks : List LK) : Prop :=
  ∀ (n : Nat) (l m : List Value) (w : World), fitsVL ks l → fitsVL ks m → (Op.equalIn (n + d) t (mkV P t l) (mkV P t m)).run P w = .ok (eqCellsV l m) w

theorem part_mkV {t : TypeId} {e : TypeDesc} (hu : P.underlying t = some e) {xs : Array Value} {off : Nat} {n : Nat} (hn : n = P.cellsOf t) (hone : aggDesc e = false → n = 1) (hl : off + n ≤ xs.size) (w : World) :
    (part t xs off).run P w = .ok (mkV P t ((xs.toList.drop off).take n)) w := by
  simp only [mkV, hu]
  cases ha : aggDesc e with
  | true =>
    simp only
    rw [run_part_agg hu ha xs off w]
    congr 2
    subst hn
    apply Array.ext'
    simp [Array.toList_extract, List.extract_eq_take_drop]
  | false =>
    simp only
    have h1 := hone ha
    subst h1
    have hlt : off < xs.size := by omega
    rw [run_part_one hu ha (v := xs[off]) (by simp [hlt]) w]
    congr 1
    rw [List.headD_eq_head?_getD, List.head?_take]
    simp [hlt]

theorem flatT_one {d : Nat} {t : TypeId} {ks : List LK} (h : flatT P d t = some ks) : ∃ e, P.underlying t = some e ∧ (aggDesc e = false → ks.length = 1) := by
  cases d with
  | zero => simp [flatT] at h
  | succ d =>
    unfold flatT at h
    split at h
    · rename_i hu; exact ⟨_, hu, fun _ => by cases h; rfl⟩
    · rename_i hu; exact ⟨_, hu, fun _ => by cases h; rfl⟩
    · rename_i hu; exact ⟨_, hu, fun _ => by cases h; rfl⟩
    · rename_i hu; exact ⟨_, hu, fun q => by cases q⟩
    · rename_i hu; exact ⟨_, hu, fun q => by cases q⟩
    · cases h

theorem eqFields_ok {d : Nat} (ih : ∀ {t : TypeId} {ks : List LK}, flatT P d t = some ks → EqAt P d t ks) (n : Nat) (xs ys : Array Value) (w : World) : ∀ (fs : List Field) (off : Nat) (ks : List LK), flatF P (flatT P d) fs off = some ks →
    fitsVL ks (xs.toList.drop off) → fitsVL ks (ys.toList.drop off) → (Op.eqFields (n + d) xs ys fs).run P w = .ok (eqCellsV (xs.toList.drop off) (ys.toList.drop off)) w
  | [], off, ks, h, hx, hy => by
    simp only [flatF, Option.some.injEq] at h
    subst h
    have e1 := List.length_eq_zero_iff.1 (fitsVL_length hx)
    have e2 := List.length_eq_zero_iff.1 (fitsVL_length hy)
    rw [e1, e2]
    simp [Op.eqFields, eqCellsV]
  | f :: fs, off, ks, h, hx, hy => by
    simp only [flatF] at h
    split at h
    · rename_i hf
      simp only [Bool.and_eq_true, Bool.not_eq_true', beq_eq_false_iff_ne, Nat.beq_eq] at hf
      obtain ⟨hname, hoff⟩ := hf
      split at h
      · rename_i k1 h1
        split at h
        · rename_i hl
          rw [Bool.and_eq_true, Nat.beq_eq, Nat.blt_eq] at hl
          obtain ⟨hl, hpos⟩ := hl
          split at h
          · rename_i k2 h2
            obtain rfl := Option.some.inj h
            obtain ⟨a1, a2⟩ := fitsVL_split hx
            obtain ⟨b1, b2⟩ := fitsVL_split hy
            rw [List.drop_drop] at a2 b2
            have lx : off + k1.length ≤ xs.size := by
              have := fitsVL_length hx
              simp at this
              omega
            have ly : off + k1.length ≤ ys.size := by
              have := fitsVL_length hy
              simp at this
              omega
            obtain ⟨e, hu, hone⟩ := flatT_one h1
            have hih := ih h1 n _ _ w a1 b1
            have rest := eqFields_ok ih n xs ys w fs (off + k1.length) k2 h2 a2 b2
            unfold Op.eqFields
            rw [if_pos hname, hoff]
            simp only [Sem.run_bind, part_mkV hu hl hone lx w, part_mkV hu hl hone ly w, Result.andThen_ok, hih]
            have hs := eqCellsV_split k1.length (xs.toList.drop off) (ys.toList.drop off) (by simp; omega) (by simp; omega)
            rw [List.drop_drop, List.drop_drop] at hs
            rw [hs]
            cases eqCellsV ((xs.toList.drop off).take k1.length) ((ys.toList.drop off).take k1.length) with
            | true => simpa using rest
            | false => simp
          · cases h
        · cases h
      · cases h
    · cases h

theorem eqItems_ok {d : Nat} {e : TypeId} {ks : List LK} (hks : flatT P d e = some ks) (hl : ks.length = P.cellsOf e) (hpos : 0 < ks.length) (ih : EqAt P d e ks) (n : Nat) (xs ys : Array Value) (w : World) : ∀ (c i : Nat),
    fitsVL (manyL c ks) (xs.toList.drop (i * ks.length)) → fitsVL (manyL c ks) (ys.toList.drop (i * ks.length)) → (Op.eqItems (n + d) e (P.cellsOf e) xs ys (List.range' i c)).run P w = .ok (eqCellsV (xs.toList.drop (i * ks.length)) (ys.toList.drop (i * ks.length))) w
  | 0, i, hx, hy => by
    have e1 := List.length_eq_zero_iff.1 (fitsVL_length hx)
    have e2 := List.length_eq_zero_iff.1 (fitsVL_length hy)
    rw [e1, e2]
    simp [Op.eqItems, eqCellsV]
  | c + 1, i, hx, hy => by
    simp only [manyL] at hx hy
    obtain ⟨a1, a2⟩ := fitsVL_split hx
    obtain ⟨b1, b2⟩ := fitsVL_split hy
    have hm : i * ks.length + ks.length = (i + 1) * ks.length := by rw [Nat.add_mul, Nat.one_mul]
    rw [List.drop_drop, hm] at a2 b2
    have lx : i * ks.length + ks.length ≤ xs.size := by
      have := fitsVL_length hx
      simp only [List.length_append, List.length_drop, Array.length_toList] at this
      omega
    have ly : i * ks.length + ks.length ≤ ys.size := by
      have := fitsVL_length hy
      simp at this
      omega
    obtain ⟨e', hu, hone⟩ := flatT_one hks
    have hih := ih n _ _ w a1 b1
    have rest := eqItems_ok hks hl hpos ih n xs ys w c (i + 1) a2 b2
    rw [List.range'_succ]
    unfold Op.eqItems
    rw [← hl] at rest ⊢
    simp only [Sem.run_bind, part_mkV hu hl hone lx w, part_mkV hu hl hone ly w, Result.andThen_ok, hih]
    have hs := eqCellsV_split ks.length (xs.toList.drop (i * ks.length)) (ys.toList.drop (i * ks.length)) (by simp; omega) (by simp; omega)
    rw [List.drop_drop, List.drop_drop, hm] at hs
    rw [hs]
    cases eqCellsV ((xs.toList.drop (i * ks.length)).take ks.length) ((ys.toList.drop (i * ks.length)).take ks.length) with
    | true => simpa using rest
    | false => simp

theorem flatT_ok : ∀ {d : Nat} {t : TypeId} {ks : List LK}, flatT P d t = some ks → EqAt P d t ks
  | 0, t, ks, h => by simp [flatT] at h
  | d + 1, t, ks, h => by
    intro n l m w hl hm
    unfold flatT at h
    split at h
    · rename_i hu
      obtain rfl := Option.some.inj h
      have e1 := fitsVL_length hl
      have e2 := fitsVL_length hm
      match l, m, e1, e2 with
      | [a], [b], _, _ =>
        cases a <;> simp only [fitsVL, LK.fitsV, and_true, false_and, true_and] at hl
        cases b <;> simp only [fitsVL, LK.fitsV, and_true, false_and, true_and] at hm
        simp only [mkV, hu, aggDesc, List.headD_cons, eqCellsV, eqCellV, Bool.and_true]
        exact run_equalIn_bool' w (n + d) t _ _ hu
    · rename_i k hu
      obtain rfl := Option.some.inj h
      have e1 := fitsVL_length hl
      have e2 := fitsVL_length hm
      match l, m, e1, e2 with
      | [a], [b], _, _ =>
        cases a <;> simp only [fitsVL, LK.fitsV, and_true, false_and, true_and] at hl
        cases b <;> simp only [fitsVL, LK.fitsV, and_true, false_and, true_and] at hm
        subst hl
        subst hm
        simp only [mkV, hu, aggDesc, List.headD_cons, eqCellsV, eqCellV, Bool.and_true]
        exact run_equalIn_int w (n + d) t _ _ _ _ hu
    · rename_i hu
      obtain rfl := Option.some.inj h
      have e1 := fitsVL_length hl
      have e2 := fitsVL_length hm
      match l, m, e1, e2 with
      | [a], [b], _, _ =>
        cases a <;> simp only [fitsVL, LK.fitsV, and_true, false_and, true_and] at hl
        cases b <;> simp only [fitsVL, LK.fitsV, and_true, false_and, true_and] at hm
        simp only [mkV, hu, aggDesc, List.headD_cons, eqCellsV, eqCellV, Bool.and_true]
        exact run_equalIn_string w (n + d) t _ _ hu
    · rename_i fs hu
      split at h
      · rename_i hst
        have hf : P.fieldsOf t = fs := by simp [Program.fieldsOf, hu]
        simp only [mkV, hu, aggDesc]
        rw [show n + (d + 1) = (n + d) + 1 by omega, run_equalIn_struct w (n + d) t _ _ (by rw [hf]; exact hu) hst, hf]
        have := eqFields_ok (fun h => flatT_ok h) n l.toArray m.toArray w fs.toList 0 ks h (by simpa using hl) (by simpa using hm)
        simpa using this
      · cases h
    · rename_i c e hu
      split at h
      · rename_i k1 i h1 hi
        split at h
        · rename_i hlen
          rw [Bool.and_eq_true, Nat.beq_eq, Nat.blt_eq] at hlen
          obtain ⟨hlen, hpos⟩ := hlen
          obtain rfl := Option.some.inj h
          simp only [mkV, hu, aggDesc]
          rw [show n + (d + 1) = (n + d) + 1 by omega, run_equalIn_array w (n + d) _ _ hu hi, List.range_eq_range']
          have := eqItems_ok h1 hlen hpos (flatT_ok h1) n l.toArray m.toArray w c 0 (by simpa using hl) (by simpa using hm)
          simpa using this
        · cases h
      · cases h
    · cases h

theorem FlatEq.of_flat {d : Nat} {t : TypeId} {ks : List LK} (hd : Nat.ble d 10000 = true) (hg : P.eqGuardType P.depth t = false) (ha : (match P.underlying t with | some e => aggDesc e | none => false) = true) (h : flatT P d t = some ks) : FlatEq P t ks := by
  refine ⟨hg, fun xs ys w hx hy => ?_⟩
  have := flatT_ok h (10000 - d) xs.toList ys.toList w hx hy
  rw [Nat.sub_add_cancel (by simpa using hd)] at this
  unfold mkV at this
  split at ha
  · rename_i e he
    simp only [he, ha] at this
    simpa using this
  · cases ha
end
end Go.Ev
