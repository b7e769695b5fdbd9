/- Contracts and plain laws that a statement's proof leans on (texts merged: EvU, MdC, Base, MdZ, MdP1, MdP2, MdM). -/
import Derived.ChangeKeysEq
import Derived.KernelRfl
import Derived.Test.YtglcgdnaanhddaaGreatProg
import Derived.Laws.Strings
import Derived.Test.YtglcgdnaanhddaaGreatN01
import Derived.Test.YtglcgdnaanhddaaGreatN02
import Derived.Test.YtglcgdnaanhddaaGreatN04
set_option linter.unusedVariables false
set_option linter.unusedSimpArgs false
namespace Go.Ev
open Go Go.RowKit
def flatF (P : Program) (one : TypeId → Option (List LK)) : List Field → Nat → Option (List LK)
  | [], _ => some []
  | f :: r, off => match !(f.name == "_") && Nat.beq f.offset off with
    | true => match one f.type with
      | some ks => match Nat.beq ks.length (P.cellsOf f.type) && Nat.blt 0 ks.length with
        | true => match flatF P one r (off + ks.length) with
          | some l => some (ks ++ l)
          | none => none
        | false => none
      | none => none
    | false => none
def manyL : Nat → List LK → List LK
  | 0, _ => []
  | n + 1, l => l ++ manyL n l
def flatT (P : Program) : Nat → TypeId → Option (List LK)
  | 0, _ => none
  | d + 1, t => match P.underlying t with
    | some .bool => some [.bool]
    | some (.int k) => some [.int k]
    | some .string => some [.str]
    | some (.struct fs) => match P.stoodInHeld t with
      | false => flatF P (flatT P d) fs.toList 0
      | true => none
    | some (.array n e) => match flatT P d e, P.info? e with
      | some ks, some _ => match Nat.beq ks.length (P.cellsOf e) && Nat.blt 0 ks.length with | true => some (manyL n ks) | false => none
      | _, _ => none
    | _ => none
def mkV (P : Program) (t : TypeId) (l : List Value) : Value := match P.underlying t with
  | some e => match aggDesc e with
    | true => .agg l.toArray
    | false => l.headD .nilFunc
  | none => .nilFunc
theorem fitsVL_length : ∀ {ks : List LK} {l : List Value}, fitsVL ks l → l.length = ks.length
 | [], [], _ => rfl
 | _ :: _, [], h => h.elim
 | [], _ :: _, h => h.elim
 | k :: ks, v :: l, h => by simp [fitsVL_length h.2]
theorem fitsVL_split : ∀ {ks ks' : List LK} {l : List Value}, fitsVL (ks ++ ks') l → fitsVL ks (l.take ks.length) ∧ fitsVL ks' (l.drop ks.length)
 | [], ks', l, h => ⟨by simp [fitsVL], by simpa using h⟩
 | k :: ks, ks', [], h => h.elim
 | k :: ks, ks', v :: l, h => by
  obtain ⟨h1, h2⟩ := h
  obtain ⟨a, b⟩ := fitsVL_split h2
  exact ⟨⟨h1, a⟩, b⟩
theorem eqCellsV_split : ∀ (n : Nat) (l m : List Value), n ≤ l.length → n ≤ m.length → eqCellsV l m = (eqCellsV (l.take n) (m.take n) && eqCellsV (l.drop n) (m.drop n))
 | 0, l, m, _, _ => by simp [eqCellsV]
 | n + 1, [], m, h, _ => by simp at h
 | n + 1, _ :: _, [], _, h => by simp at h
 | n + 1, a :: l, b :: m, h, k => by
  simp only [List.take_succ_cons, List.drop_succ_cons, eqCellsV]
  rw [eqCellsV_split n l m (by simpa using h) (by simpa using k), Bool.and_assoc]
section
variable {P : Program}
def EqAt (P : Program) (d : Nat) (t : TypeId) (ks : List LK) : Prop :=
  ∀ (n : Nat) (l m : List Value) (w : World), fitsVL ks l → fitsVL ks m → (Op.equalIn (n + d) t (mkV P t l) (mkV P t m)).run P w = .ok (eqCellsV l m) w
theorem part_mkV {t : TypeId} {e : TypeDesc} (hu : P.underlying t = some e) {xs : Array Value} {off : Nat} {n : Nat} (hn : n = P.cellsOf t) (hone : aggDesc e = false → n = 1) (hl : off + n ≤ xs.size) (w : World) :
  (part t xs off).run P w = .ok (mkV P t ((xs.toList.drop off).take n)) w := by
 simp only [mkV, hu]
 cases ha : aggDesc e with
 | true =>
  simp only
  rw [run_part_agg hu ha xs off w]
  congr 2
  subst hn
  apply Array.ext'
  simp [Array.toList_extract, List.extract_eq_take_drop]
 | false =>
  simp only
  have h1 := hone ha
  subst h1
  have hlt : off < xs.size := by omega
  rw [run_part_one hu ha (v := xs[off]) (by simp [hlt]) w]
  congr 1
  rw [List.headD_eq_head?_getD, List.head?_take]
  simp [hlt]
theorem flatT_one {d : Nat} {t : TypeId} {ks : List LK} (h : flatT P d t = some ks) : ∃ e, P.underlying t = some e ∧ (aggDesc e = false → ks.length = 1) := by
 cases d with
 | zero => simp [flatT] at h
 | succ d =>
  unfold flatT at h
  split at h
  ·rename_i hu; exact ⟨_, hu, fun _ => by cases h; rfl⟩
  ·rename_i hu; exact ⟨_, hu, fun _ => by cases h; rfl⟩
  ·rename_i hu; exact ⟨_, hu, fun _ => by cases h; rfl⟩
  ·rename_i hu; exact ⟨_, hu, fun q => by cases q⟩
  ·rename_i hu; exact ⟨_, hu, fun q => by cases q⟩
  ·cases h
theorem eqFields_ok {d : Nat} (ih : ∀ {t : TypeId} {ks : List LK}, flatT P d t = some ks → EqAt P d t ks) (n : Nat) (xs ys : Array Value) (w : World) : ∀ (fs : List Field) (off : Nat) (ks : List LK), flatF P (flatT P d) fs off = some ks →
  fitsVL ks (xs.toList.drop off) → fitsVL ks (ys.toList.drop off) → (Op.eqFields (n + d) xs ys fs).run P w = .ok (eqCellsV (xs.toList.drop off) (ys.toList.drop off)) w
 | [], off, ks, h, hx, hy => by
  simp only [flatF, Option.some.injEq] at h
  subst h
  have e1 := List.length_eq_zero_iff.1 (fitsVL_length hx)
  have e2 := List.length_eq_zero_iff.1 (fitsVL_length hy)
  rw [e1, e2]
  simp [Op.eqFields, eqCellsV]
 | f :: fs, off, ks, h, hx, hy => by
  simp only [flatF] at h
  split at h
  ·rename_i hf
   simp only [Bool.and_eq_true, Bool.not_eq_true', beq_eq_false_iff_ne, Nat.beq_eq] at hf
   obtain ⟨hname, hoff⟩ := hf
   split at h
   ·rename_i k1 h1
    split at h
    ·rename_i hl
     rw [Bool.and_eq_true, Nat.beq_eq, Nat.blt_eq] at hl
     obtain ⟨hl, hpos⟩ := hl
     split at h
     ·rename_i k2 h2
      obtain rfl := Option.some.inj h
      obtain ⟨a1, a2⟩ := fitsVL_split hx
      obtain ⟨b1, b2⟩ := fitsVL_split hy
      rw [List.drop_drop] at a2 b2
      have lx : off + k1.length ≤ xs.size := by
       have := fitsVL_length hx
       simp at this
       omega
      have ly : off + k1.length ≤ ys.size := by
       have := fitsVL_length hy
       simp at this
       omega
      obtain ⟨e, hu, hone⟩ := flatT_one h1
      have hih := ih h1 n _ _ w a1 b1
      have rest := eqFields_ok ih n xs ys w fs (off + k1.length) k2 h2 a2 b2
      unfold Op.eqFields
      rw [if_pos hname, hoff]
      simp only [Sem.run_bind, part_mkV hu hl hone lx w, part_mkV hu hl hone ly w, Result.andThen_ok, hih]
      have hs := eqCellsV_split k1.length (xs.toList.drop off) (ys.toList.drop off) (by simp; omega) (by simp; omega)
      rw [List.drop_drop, List.drop_drop] at hs
      rw [hs]
      cases eqCellsV ((xs.toList.drop off).take k1.length) ((ys.toList.drop off).take k1.length) with
      | true => simpa using rest
      | false => simp
     ·cases h
    ·cases h
   ·cases h
  ·cases h
theorem eqItems_ok {d : Nat} {e : TypeId} {ks : List LK} (hks : flatT P d e = some ks) (hl : ks.length = P.cellsOf e) (hpos : 0 < ks.length) (ih : EqAt P d e ks) (n : Nat) (xs ys : Array Value) (w : World) : ∀ (c i : Nat),
  fitsVL (manyL c ks) (xs.toList.drop (i * ks.length)) → fitsVL (manyL c ks) (ys.toList.drop (i * ks.length)) → (Op.eqItems (n + d) e (P.cellsOf e) xs ys (List.range' i c)).run P w = .ok (eqCellsV (xs.toList.drop (i * ks.length)) (ys.toList.drop (i * ks.length))) w
 | 0, i, hx, hy => by
  have e1 := List.length_eq_zero_iff.1 (fitsVL_length hx)
  have e2 := List.length_eq_zero_iff.1 (fitsVL_length hy)
  rw [e1, e2]
  simp [Op.eqItems, eqCellsV]
 | c + 1, i, hx, hy => by
  simp only [manyL] at hx hy
  obtain ⟨a1, a2⟩ := fitsVL_split hx
  obtain ⟨b1, b2⟩ := fitsVL_split hy
  have hm : i * ks.length + ks.length = (i + 1) * ks.length := by rw [Nat.add_mul, Nat.one_mul]
  rw [List.drop_drop, hm] at a2 b2
  have lx : i * ks.length + ks.length ≤ xs.size := by
   have := fitsVL_length hx
   simp only [List.length_append, List.length_drop, Array.length_toList] at this
   omega
  have ly : i * ks.length + ks.length ≤ ys.size := by
   have := fitsVL_length hy
   simp at this
   omega
  obtain ⟨e', hu, hone⟩ := flatT_one hks
  have hih := ih n _ _ w a1 b1
  have rest := eqItems_ok hks hl hpos ih n xs ys w c (i + 1) a2 b2
  rw [List.range'_succ]
  unfold Op.eqItems
  rw [← hl] at rest ⊢
  simp only [Sem.run_bind, part_mkV hu hl hone lx w, part_mkV hu hl hone ly w, Result.andThen_ok, hih]
  have hs := eqCellsV_split ks.length (xs.toList.drop (i * ks.length)) (ys.toList.drop (i * ks.length)) (by simp; omega) (by simp; omega)
  rw [List.drop_drop, List.drop_drop, hm] at hs
  rw [hs]
  cases eqCellsV ((xs.toList.drop (i * ks.length)).take ks.length) ((ys.toList.drop (i * ks.length)).take ks.length) with
  | true => simpa using rest
  | false => simp
theorem flatT_ok : ∀ {d : Nat} {t : TypeId} {ks : List LK}, flatT P d t = some ks → EqAt P d t ks
 | 0, t, ks, h => by simp [flatT] at h
 | d + 1, t, ks, h => by
  intro n l m w hl hm
  unfold flatT at h
  split at h
  ·rename_i hu
   obtain rfl := Option.some.inj h
   have e1 := fitsVL_length hl
   have e2 := fitsVL_length hm
   match l, m, e1, e2 with
   | [a], [b], _, _ =>
    cases a <;> simp only [fitsVL, LK.fitsV, and_true, false_and, true_and] at hl
    cases b <;> simp only [fitsVL, LK.fitsV, and_true, false_and, true_and] at hm
    simp only [mkV, hu, aggDesc, List.headD_cons, eqCellsV, eqCellV, Bool.and_true]
    exact run_equalIn_bool' w (n + d) t _ _ hu
  ·rename_i k hu
   obtain rfl := Option.some.inj h
   have e1 := fitsVL_length hl
   have e2 := fitsVL_length hm
   match l, m, e1, e2 with
   | [a], [b], _, _ =>
    cases a <;> simp only [fitsVL, LK.fitsV, and_true, false_and, true_and] at hl
    cases b <;> simp only [fitsVL, LK.fitsV, and_true, false_and, true_and] at hm
    subst hl
    subst hm
    simp only [mkV, hu, aggDesc, List.headD_cons, eqCellsV, eqCellV, Bool.and_true]
    exact run_equalIn_int w (n + d) t _ _ _ _ hu
  ·rename_i hu
   obtain rfl := Option.some.inj h
   have e1 := fitsVL_length hl
   have e2 := fitsVL_length hm
   match l, m, e1, e2 with
   | [a], [b], _, _ =>
    cases a <;> simp only [fitsVL, LK.fitsV, and_true, false_and, true_and] at hl
    cases b <;> simp only [fitsVL, LK.fitsV, and_true, false_and, true_and] at hm
    simp only [mkV, hu, aggDesc, List.headD_cons, eqCellsV, eqCellV, Bool.and_true]
    exact run_equalIn_string w (n + d) t _ _ hu
  ·rename_i fs hu
   split at h
   ·rename_i hst
    have hf : P.fieldsOf t = fs := by simp [Program.fieldsOf, hu]
    simp only [mkV, hu, aggDesc]
    rw [show n + (d + 1) = (n + d) + 1 by omega, run_equalIn_struct w (n + d) t _ _ (by rw [hf]; exact hu) hst, hf]
    have := eqFields_ok (fun h => flatT_ok h) n l.toArray m.toArray w fs.toList 0 ks h (by simpa using hl) (by simpa using hm)
    simpa using this
   ·cases h
  ·rename_i c e hu
   split at h
   ·rename_i k1 i h1 hi
    split at h
    ·rename_i hlen
     rw [Bool.and_eq_true, Nat.beq_eq, Nat.blt_eq] at hlen
     obtain ⟨hlen, hpos⟩ := hlen
     obtain rfl := Option.some.inj h
     simp only [mkV, hu, aggDesc]
     rw [show n + (d + 1) = (n + d) + 1 by omega, run_equalIn_array w (n + d) _ _ hu hi, List.range_eq_range']
     have := eqItems_ok h1 hlen hpos (flatT_ok h1) n l.toArray m.toArray w c 0 (by simpa using hl) (by simpa using hm)
     simpa using this
    ·cases h
   ·cases h
  ·cases h
theorem FlatEq.of_flat {d : Nat} {t : TypeId} {ks : List LK} (hd : Nat.ble d 10000 = true) (hg : P.eqGuardType P.depth t = false) (ha : (match P.underlying t with | some e => aggDesc e | none => false) = true) (h : flatT P d t = some ks) : FlatEq P t ks := by
 refine ⟨hg, fun xs ys w hx hy => ?_⟩
 have := flatT_ok h (10000 - d) xs.toList ys.toList w hx hy
 rw [Nat.sub_add_cancel (by simpa using hd)] at this
 unfold mkV at this
 split at ha
 ·rename_i e he
  simp only [he, ha] at this
  simpa using this
 ·cases ha
def KeyAt (P : Program) (d : Nat) (t : TypeId) (ks : List LK) : Prop :=
  ∀ (em : Bool) (n : Nat) (l : List Value) (w : World), fitsVL ks l → (Instr.checkKey em (n + d) t (mkV P t l)).run P w = .ok () w
theorem flatT_key : ∀ {d : Nat} {t : TypeId} {ks : List LK}, flatT P d t = some ks → KeyAt P d t ks
 | 0, t, ks, h => by simp [flatT] at h
 | d + 1, t, ks, h => by
  intro em n l w hl
  have plain : ∀ {e : TypeDesc}, P.underlying t = some e → (match e with | .bool | .int _ | .string => true | _ => false) = true → (Instr.checkKey em (n + (d + 1)) t (mkV P t l)).run P w = .ok () w := by
   intro e hu he
   rw [show n + (d + 1) = (n + d) + 1 from rfl, Instr.checkKey]
   simp only [Sem.run_bind, run_underlying hu, Result.andThen_ok]
   cases e <;> simp only [Bool.false_eq_true] at he <;> simp
  unfold flatT at h
  split at h
  ·rename_i hu; exact plain hu rfl
  ·rename_i hu; exact plain hu rfl
  ·rename_i hu; exact plain hu rfl
  ·rename_i fs hu
   split at h
   ·rename_i hst
    rw [show n + (d + 1) = (n + d) + 1 from rfl, Instr.checkKey]
    simp only [mkV, hu, aggDesc, Sem.run_bind, run_underlying hu, Result.andThen_ok]
    rw [← Array.forIn_toList]
    have hl' : fitsVL ks (l.toArray.toList.drop 0) := by simpa using hl
    generalize l.toArray = xs at hl' ⊢
    generalize fs.toList = L at h ⊢
    generalize 0 = off at h hl'
    clear hl hu hst
    induction L generalizing off ks with
    | nil => simp
    | cons f L ihL =>
     simp only [flatF] at h
     split at h
     ·rename_i hf
      simp only [Bool.and_eq_true, Bool.not_eq_true', beq_eq_false_iff_ne, Nat.beq_eq] at hf
      obtain ⟨hname, hoff⟩ := hf
      split at h
      ·rename_i k1 h1
       split at h
       ·rename_i hlen
        rw [Bool.and_eq_true, Nat.beq_eq, Nat.blt_eq] at hlen
        obtain ⟨hlen, hpos⟩ := hlen
        split at h
        ·rename_i k2 h2
         obtain rfl := Option.some.inj h
         obtain ⟨a1, a2⟩ := fitsVL_split hl'
         rw [List.drop_drop] at a2
         have lx : off + k1.length ≤ xs.size := by
          have := fitsVL_length hl'
          simp at this
          omega
         obtain ⟨e, hu, hone⟩ := flatT_one h1
         have hih := flatT_key h1 em n _ w a1
         have rest := ihL _ _ h2 a2
         simp only [List.forIn_cons, Sem.run_bind, hname, ne_eq, not_false_eq_true, if_true, Result.andThen_ok, hoff, part_mkV hu hlen hone lx w, hih, Sem.run_pure]
         exact rest
        ·cases h
       ·cases h
      ·cases h
     ·cases h
   ·cases h
  ·rename_i c e hu
   split at h
   ·rename_i k1 i h1 hi
    split at h
    ·rename_i hlen
     rw [Bool.and_eq_true, Nat.beq_eq, Nat.blt_eq] at hlen
     obtain ⟨hlen, hpos⟩ := hlen
     obtain rfl := Option.some.inj h
     rw [show n + (d + 1) = (n + d) + 1 from rfl, Instr.checkKey]
     simp only [mkV, hu, aggDesc, Sem.run_bind, run_underlying hu, Result.andThen_ok]
     simp only [Std.Legacy.Range.forIn_eq_forIn_range', Std.Legacy.Range.size, Nat.sub_zero, Nat.add_one_sub_one, Nat.div_one]
     have hl' : fitsVL (manyL c k1) (l.toArray.toList.drop (0 * k1.length)) := by simpa using hl
     generalize l.toArray = xs at hl' ⊢
     generalize 0 = j at hl' ⊢
     clear hl hu
     have IH := flatT_key h1 em n
     induction c generalizing j with
     | zero => simp
     | succ c ihc =>
      simp only [manyL] at hl'
      obtain ⟨a1, a2⟩ := fitsVL_split hl'
      have hm : j * k1.length + k1.length = (j + 1) * k1.length := by rw [Nat.add_mul, Nat.one_mul]
      rw [List.drop_drop, hm] at a2
      have lx : j * k1.length + k1.length ≤ xs.size := by
       have := fitsVL_length hl'
       simp only [List.length_append, List.length_drop, Array.length_toList] at this
       omega
      obtain ⟨e', hu', hone⟩ := flatT_one h1
      have hih := IH _ w a1
      rw [List.range'_succ]
      have rest := ihc rfl _ a2
      simp only [List.forIn_cons, Sem.run_bind, run_sizeOf w hi, Result.andThen_ok, ← hlen, part_mkV hu' hlen hone lx w, hih, Sem.run_pure]
      exact rest
    ·cases h
   ·cases h
  ·cases h
theorem findNow_agg {kd : TypeDesc} (hk : aggDesc kd = true) (x : Array Value) (e : MapEntry) (l : List MapEntry) (i : Nat) : Instr.findNow kd (.agg x) (e :: l) i = none := by
 cases kd <;> simp [aggDesc] at hk <;> simp [Instr.findNow, Instr.sameNow]
theorem findAsking_flat {t : TypeId} {ks : List LK} (hq : FlatEq P t ks) (x : Array Value) (hx : fitsVL ks x.toList) (w : World) : ∀ (l : List MapEntry) (i : Nat), (∀ e ∈ l, ∃ y : Array Value, e.key = .agg y ∧ fitsVL ks y.toList) →
  (Instr.findAsking t (.agg x) l i).run P w = .ok (findE x.toList l i) w
 | [], i, _ => by simp [Instr.findAsking, findE]
 | e :: l, i, h => by
  obtain ⟨y, hy, fy⟩ := h e (by simp)
  have ih := findAsking_flat hq x hx w l (i + 1) fun e' he => h e' (by simp [he])
  have he : (Op.equal t (.agg x) e.key).run P w = .ok (eqCellsV x.toList y.toList) w := by
   rw [hy]; exact hq.eq x y w hx fy
  simp only [Instr.findAsking, Sem.run_bind, he, Result.andThen_ok]
  simp only [findE, hy]
  cases eqCellsV x.toList y.toList with
  | true => simp
  | false => simpa using ih
theorem FlatKey.of_flat {d : Nat} {t : TypeId} {ks : List LK} (hd : Nat.ble d 10000 = true) (hg : P.eqGuardType P.depth t = false) (ha : (match P.underlying t with | some e => aggDesc e | none => false) = true) (h : flatT P d t = some ks) (hs : noStr ks = true) : FlatKey P t ks := by
 have hq := FlatEq.of_flat hd hg ha h
 refine ⟨hs, fun w em xs hx => ?_, fun w x l hx hl => ?_⟩
 ·have := flatT_key h em (10000 - d) xs.toList w hx
  rw [Nat.sub_add_cancel (by simpa using hd)] at this
  unfold mkV at this
  split at ha
  ·rename_i e he
   simp only [he, ha] at this
   simpa using this
  ·cases ha
 ·split at ha
  ·rename_i e he
   cases l with
   | nil => simp [Instr.findKey, run_underlying he, Instr.findNow, findE]
   | cons e0 l =>
    simp only [Instr.findKey, Sem.run_bind, run_underlying he, Result.andThen_ok, findNow_agg ha]
    exact findAsking_flat hq x hx w _ 0 hl
  ·cases ha
end
theorem andF {x y : Bool} (h : x = false) : (x && y) = false := by simp [h]
theorem andT {x y v : Bool} (h : x = true) (k : y = v) : (x && y) = v := by simp [h, k]
theorem leOf {x c c' : Int} {v : Bool} (h : decide (x < c') = v) (hc : c' = c + 1) : decide (x ≤ c) = v := by
 subst hc; rw [← h]; exact decide_eq_decide.2 (by omega)
theorem ltOfL {y c c' : Int} {v : Bool} (h : decide (y < c') = v) (hc : c' = c + 1) : decide (c < y) = !v := by
 subst hc; rw [← h, ← decide_not]; exact decide_eq_decide.2 (by omega)
theorem leOfL {y c c' : Int} {v : Bool} (h : decide (y < c') = v) (hc : c' = c) : decide (c ≤ y) = !v := by
 subst hc; rw [← h, ← decide_not]; exact decide_eq_decide.2 (by omega)
theorem ltUp {x d c : Int} (h : decide (x < d) = true) (hc : d ≤ c) : decide (x < c) = true := by
 simp only [decide_eq_true_eq] at h ⊢; omega
theorem ltDown {x d c : Int} (h : decide (x < d) = false) (hc : c ≤ d) : decide (x < c) = false := by
 simp only [decide_eq_false_iff_not] at h ⊢; omega
theorem neOf {x c : Int} (h : ¬ x = c) : (x == c) = false := by simp [h]
theorem eqIs {x c d : Int} {v : Bool} (h : x = c) (hv : (c == d) = v) : (x == d) = v := by rw [h, hv]
def tT {P : Program} : Ev P := .tst true true rfl
def tF {P : Program} : Ev P := .tst false false rfl
def tC {P : Program} {q v : Bool} (h : q = v) : Ev P := .tst q v h
theorem eT {b v : Bool} (h : b = v) : (b == true) = (v == true) := by rw [h]
theorem eF {b v : Bool} (h : b = v) : (b == false) = (v == false) := by rw [h]
theorem nt {b v : Bool} (h : b = v) : (!b) = !v := by rw [h]
theorem leC {x c' : Int} {v : Bool} (c : Int) (h : decide (x < c') = v) (hc : c' = c + 1 := by decide) : decide (x ≤ c) = v := leOf h hc
theorem ltL {y c' : Int} {v : Bool} (c : Int) (h : decide (y < c') = v) (hc : c' = c + 1 := by decide) : decide (c < y) = !v := ltOfL h hc
theorem leL {y c' : Int} {v : Bool} (c : Int) (h : decide (y < c') = v) (hc : c' = c := by decide) : decide (c ≤ y) = !v := leOfL h hc
theorem ltU {x d : Int} (c : Int) (h : decide (x < d) = true) (hc : d ≤ c := by decide) : decide (x < c) = true := ltUp h hc
theorem ltD {x d : Int} (c : Int) (h : decide (x < d) = false) (hc : c ≤ d := by decide) : decide (x < c) = false := ltDown h hc
theorem eqI {x c : Int} (d : Int) (v : Bool) (h : x = c) (hv : (c == d) = v := by decide) : (x == d) = v := eqIs h hv
def wkO : Own → Own → Nat → Prop
  | _, .no, _ => True
  | .tight, .tight, _ => True
  | .tight, .fresh n, sz => n = sz
  | .fresh a, .fresh b, _ => a = b
  | _, _, _ => False
mutual
def wk : D → D → Prop
  | .lst o sz xs, .lst o' sz' ys => xs = ys ∧ (sz = sz' ∨ xs = []) ∧ wkO o o' sz' ∧ (o = .tight ∨ sz = sz')
  | .agg l, .agg m => wkL l m
  | .tup l, .tup m => wkL l m
  | a, b => a = b
def wkL : List D → List D → Prop
  | [], [] => True
  | a :: l, b :: m => wk a b ∧ wkL l m
  | _, _ => False
end
theorem wkL_get : ∀ {l m : List D}, wkL l m → l.length = m.length ∧ ∀ (i : Nat) (a b : D), l[i]? = some a → m[i]? = some b → wk a b
 | [], [], _ => ⟨rfl, fun i a b h => by simp at h⟩
 | [], _ :: _, h => by simp [wkL] at h
 | _ :: _, [], h => by simp [wkL] at h
 | a :: l, b :: m, h => by
  rw [wkL] at h
  obtain ⟨h1, h2⟩ := wkL_get h.2
  refine ⟨by simp [h1], fun i x y p q => ?_⟩
  cases i with
  | zero => simp at p q; subst p q; exact h.1
  | succ i => simp at p q; exact h2 i x y p q
theorem Rep.wk {C : Nat → Nat → Option Value} {M : MM} (hM : M = bareOf C) {d : D} {v : Value} (h : Rep M d v) : ∀ {d' : D}, wk d d' → Rep M d' v := by
 induction h with
 | lst b off vs hl hcap ha hsz hc hr hst ho ih =>
  intro d' w
  rename_i M o sz xs _ _ _
  cases d' <;> simp only [Ev.wk, reduceCtorEq] at w
  obtain ⟨rfl, w2, w3, _⟩ := w
  rename_i o' _ _
  refine Rep.resize (sz := sz) (.lst b off vs hl hcap ha hsz hc hr hst ?_) w2
  cases o <;> cases o' <;> first | trivial | exact ho | (simp only [wkO] at w3)
 | agg h r ih =>
  intro d' w
  cases d' <;> simp only [Ev.wk, reduceCtorEq] at w
  rename_i _ cs vs _
  obtain ⟨h1, h2⟩ := wkL_get w
  refine .agg (h1 ▸ h) fun i d v a b => ?_
  have hlt : i < cs.length := by
   rw [h]
   exact (Array.getElem?_eq_some_iff.1 b).1
  exact ih i cs[i] v (by simp [hlt]) b hM (h2 i _ _ (by simp [hlt]) a)
 | tup h r ih =>
  intro d' w
  cases d' <;> simp only [Ev.wk, reduceCtorEq] at w
  rename_i _ cs vs _
  obtain ⟨h1, h2⟩ := wkL_get w
  refine .tup (h1 ▸ h) fun i d v a b => ?_
  have hlt : i < cs.length := by
   rw [h]
   exact (Array.getElem?_eq_some_iff.1 b).1
  exact ih i cs[i] v (by simp [hlt]) b hM (h2 i _ _ (by simp [hlt]) a)
 | undef v => intro d' w; cases d' <;> simp only [Ev.wk, reduceCtorEq] at w; exact .undef v
 | int k n => intro d' w; cases d' <;> simp only [Ev.wk, reduceCtorEq] at w; rw [← w]; exact .int k n
 | bool b => intro d' w; cases d' <;> simp only [Ev.wk, reduceCtorEq] at w; rw [← w]; exact .bool b
 | str s => intro d' w; cases d' <;> simp only [Ev.wk, reduceCtorEq] at w; rw [← w]; exact .str s
 | nilp => intro d' w; cases d' <;> simp only [Ev.wk, reduceCtorEq] at w; exact .nilp
 | nilf => intro d' w; cases d' <;> simp only [Ev.wk, reduceCtorEq] at w; exact .nilf
 | ptr q h => intro d' w; cases d' <;> simp only [Ev.wk, reduceCtorEq] at w; rw [← w]; exact .ptr q h
 | eptr q vs hx hc hr ih => intro d' w; cases d' <;> simp only [Ev.wk, reduceCtorEq] at w; rw [← w]; exact .eptr q vs hx hc hr
 | mapp h => intro d' w; cases d' <;> simp only [Ev.wk, reduceCtorEq] at w; rw [← w]; exact .mapp h
 | yld h => intro d' w; cases d' <;> simp only [Ev.wk, reduceCtorEq] at w; rw [← w]; exact .yld h
 | slc h hh hc => intro d' w; cases d' <;> simp only [Ev.wk, reduceCtorEq] at w; rw [← w]; exact .slc h hh hc
 | sub h hc hp ho => intro d' w; cases d' <;> simp only [Ev.wk, reduceCtorEq] at w; rw [← w]; exact .sub h hc hp ho
 | fn h1 h2 r1 r2 i1 i2 => intro d' w; cases d' <;> simp only [Ev.wk, reduceCtorEq] at w; rw [← w]; exact .fn h1 h2 r1 r2
theorem fresh_wk {B : Nat} {w : World} {C : Nat → Nat → Option Value} {d d' : D} {v : Value} (hr : Rep (bareOf C) d v) (hf : ∀ sz sz' xs, d = .lst (.fresh sz) sz' xs → ∃ a len cap, v = .slice a len cap ∧ sz' = sz ∧ FreshRoom B w C sz a len cap) (hw : wk d d') :
  ∀ sz sz' xs, d' = .lst (.fresh sz) sz' xs → ∃ a len cap, v = .slice a len cap ∧ sz' = sz ∧ FreshRoom B w C sz a len cap := by
 rintro sz sz' xs rfl
 cases d <;> simp only [wk, reduceCtorEq] at hw
 rename_i o sz0 xs0
 obtain ⟨rfl, w2, w3, w4⟩ := hw
 cases o with
 | no => simp only [wkO] at w3
 | tok a b => simp only [wkO] at w3
 | tight =>
  simp only [wkO] at w3
  subst w3
  cases hr with
  | lst b off vs hl hcap ha hsz hc hr hst ho => exact ⟨_, _, _, rfl, rfl, .inl ho⟩
 | fresh k =>
  simp only [wkO] at w3
  subst w3
  rcases w4 with w4 | rfl
  ·cases w4
  ·exact hf _ _ _ rfl
theorem Ret.to {P : Program} {f : FuncId} {args : List D} {d d' : D} (h : Ret P f args d) (hw : wk d d') : Ret P f args d' := by
 refine ⟨h.ent, fun w C vs hC ha => Calls.mono (h.run w C vs hC ha) ?_⟩
 rintro e w' ⟨v, C', rfl, hext, hrep, hf1, hf2⟩
 refine ⟨v, C', rfl, hext, hrep.wk rfl hw, fresh_wk hrep hf1 hw, ?_⟩
 rintro ds vs rfl rfl i sz sz' xs hi
 cases d <;> simp only [wk, reduceCtorEq] at hw
 rename_i ds0
 obtain ⟨h1, h2⟩ := wkL_get hw
 have hlt : i < ds0.length := by
  rw [h1]
  rcases Nat.lt_or_ge i ds.length with q | q
  ·exact q
  ·rw [List.getElem?_eq_none q] at hi; cases hi
 cases hrep with
 | tup hl hr =>
  have hlv : i < vs.size := hl ▸ hlt
  have := fresh_wk (d := ds0[i]) (d' := .lst (.fresh sz) sz' xs) (v := vs[i]) (hr i _ _ (by simp [hlt]) (by simp [hlv])) (fun s1 s2 x e => by
   obtain ⟨a, len, cap, k1, k2⟩ := hf2 ds0 vs rfl rfl i s1 s2 x (by simp [hlt, e])
   exact ⟨a, len, cap, by simpa [hlv] using k1, k2⟩) (h2 i _ _ (by simp [hlt]) hi) sz sz' xs rfl
  obtain ⟨a, len, cap, k1, k2, k3⟩ := this
  exact ⟨a, len, cap, by simp [hlv, k1], k2, k3⟩
def loopsOf : Code → List Code
  | .seq a b => loopsOf a ++ loopsOf b
  | .cond _ a b => loopsOf a ++ loopsOf b
  | .block _ a => loopsOf a
  | .scope a => loopsOf a
  | .loop a => a :: loopsOf a
  | .rangeFunc _ _ a b => loopsOf a ++ loopsOf b
  | _ => []
def loopB (fn : Func) (i : Nat) : Code := match fn.body with
  | some c => (loopsOf c).getD i .skip
  | none => .skip
def rangesOf : Code → List (Code × Code)
  | .seq a b => rangesOf a ++ rangesOf b
  | .cond _ a b => rangesOf a ++ rangesOf b
  | .block _ a => rangesOf a
  | .scope a => rangesOf a
  | .loop a => rangesOf a
  | .rangeFunc _ _ a b => (a, b) :: rangesOf b
  | _ => []
def rngA (fn : Func) (i : Nat) : Code := match fn.body with
  | some c => ((rangesOf c).getD i (.skip, .skip)).1
  | none => .skip
def rngB (fn : Func) (i : Nat) : Code := match fn.body with
  | some c => ((rangesOf c).getD i (.skip, .skip)).2
  | none => .skip
def blocksOf : Code → List Code
  | .seq a b => blocksOf a ++ blocksOf b
  | .cond _ a b => blocksOf a ++ blocksOf b
  | .block i a => .block i a :: blocksOf a
  | .scope a => blocksOf a
  | .loop a => blocksOf a
  | .rangeFunc _ _ a b => blocksOf a ++ blocksOf b
  | _ => []
def blockB (fn : Func) (i : Nat) : Code := match fn.body with
  | some c => (blocksOf c).getD i .skip
  | none => .skip
section
variable {P : Program}
theorem Rounds.cast {c : Code} {n0 : Nat} {t t1 : List D} {s s1 : List Ob} {ex ex1 : Ex} {t' t1' : List D} {s' s1' : List Ob} (h : Rounds P c n0 t s ex t' s') (h1 : t = t1) (h2 : s = s1) (h3 : ex = ex1) (h4 : t' = t1') (h5 : s' = s1') : Rounds P c n0 t1 s1 ex1 t1' s1' := by
 subst h1 h2 h3 h4 h5; exact h
theorem Rounds.from {c : Code} {n0 : Nat} {t t1 : List D} {s s1 : List Ob} {ex : Ex} {t' : List D} {s' : List Ob} (h : Rounds P c n0 t s ex t' s') (h1 : t = t1) (h2 : s = s1) : Rounds P c n0 t1 s1 ex t' s' := by
 subst h1 h2; exact h
theorem wkL_rep {C : Nat → Nat → Option Value} {l m : List D} {vs : Array Value} (h : RepL (bareOf C) l vs) (hw : wkL l m) : RepL (bareOf C) m vs := by
 obtain ⟨h1, h2⟩ := wkL_get hw
 refine ⟨by rw [← h1]; exact h.1, fun i d v p q => ?_⟩
 have hlt : i < l.length := by rw [h.1]; exact (Array.getElem?_eq_some_iff.1 q).1
 exact (h.2 i l[i] v (by simp [hlt]) q).wk rfl (h2 i _ _ (by simp [hlt]) p)
theorem Ret.args {f : FuncId} {az as' : List D} {d : D} (h : Ret P f az d) (hw : wkL as' az) : Ret P f as' d :=
 ⟨h.ent, fun w C vs hC ha => h.run w C vs hC (wkL_rep ha hw)⟩
theorem RoundRun.cast {c : Code} {sp : HS} {n0 : Nat} {t : List D} {s : List Ob} {ex : Ex} {t' t1' : List D} {s' s1' : List Ob} (h : RoundRun P c sp n0 t s ex t' s') (h4 : t' = t1') (h5 : s' = s1') : RoundRun P c sp n0 t s ex t1' s1' := by
 subst h4 h5; exact h
end
open Go
abbrev instD (kind op width size : Int) (byReg : Bool) (dst src off imm : Int) : D :=
  .agg [.int .i8 kind, .int .i8 op, .int .i8 width, .int .i8 size, .bool byReg, .int .i8 dst, .int .i8 src, .int .i64 off, .int .i64 imm]
def mayRange (dst src off imm : Int) : Bool := decide (0 ≤ dst ∧ dst ≤ 10 ∧ 0 ≤ src ∧ src ≤ 10 ∧ -32768 ≤ off ∧ off ≤ 32767 ∧ -2147483648 ≤ imm ∧ imm ≤ 2147483647)
def sizedM (n : Int) : Bool := decide (n = 1 ∨ n = 2 ∨ n = 4 ∨ n = 8)
def mayKind (kind op width size : Int) (byReg : Bool) (dst src off imm : Int) : Bool :=
  if kind = 0 then decide (0 ≤ op ∧ op ≤ 12 ∧ (width = 32 ∨ width = 64) ∧ dst < 10 ∧ size = 0 ∧ off = 0) && (if byReg then decide (op ≠ 8 ∧ imm = 0) else decide (src = 0 ∧ (op = 8 → imm = 0)))
  else if kind = 1 then sizedM size && decide (dst < 10 ∧ op = 0 ∧ width = 0 ∧ imm = 0) && !byReg
  else if kind = 2 then sizedM size && decide (op = 0 ∧ width = 0 ∧ imm = 0) && !byReg
  else if kind = 3 then decide (0 ≤ op ∧ op ≤ 10 ∧ width = 0 ∧ size = 0) && (if byReg then decide (imm = 0) else decide (src = 0))
  else if kind = 4 then decide (op = 0 ∧ width = 0 ∧ size = 0 ∧ dst = 0 ∧ src = 0 ∧ imm = 0) && !byReg
  else if kind = 5 then decide (op = 0 ∧ width = 0 ∧ size = 0 ∧ dst = 0 ∧ src = 0 ∧ off = 0 ∧ 0 ≤ imm ∧ imm ≤ 15) && !byReg
  else if kind = 6 then decide (op = 0 ∧ width = 0 ∧ size = 0 ∧ dst = 0 ∧ src = 0 ∧ off = 0 ∧ imm = 0) && !byReg
  else false
def mayM (kind op width size : Int) (byReg : Bool) (dst src off imm : Int) : Bool := mayRange dst src off imm && mayKind kind op width size byReg dst src off imm
def fOp (kind op : Int) : Int := if kind = 0 ∨ kind = 3 then op else 0
def fWidth (kind width : Int) : Int := if kind = 0 then width else 0
def fSize (kind size : Int) : Int := if kind = 1 ∨ kind = 2 then size else 0
def fByReg (kind op : Int) (byReg : Bool) : Bool := if kind = 0 then byReg && decide (op ≠ 8) else if kind = 3 then byReg else false
def fDst (kind dst : Int) : Int := if kind = 0 ∨ kind = 1 ∨ kind = 2 ∨ kind = 3 then dst else 0
def fSrc (kind op : Int) (byReg : Bool) (src : Int) : Int := if kind = 0 then (if byReg && decide (op ≠ 8) then src else 0) else if kind = 1 ∨ kind = 2 then src else if kind = 3 then (if byReg then src else 0) else 0
def fOff (kind off : Int) : Int := if kind = 1 ∨ kind = 2 ∨ kind = 3 ∨ kind = 4 then off else 0
def fImm (kind op : Int) (byReg : Bool) (imm : Int) : Int := if kind = 0 then (if byReg || decide (op = 8) then 0 else imm) else if kind = 3 then (if byReg then 0 else imm) else if kind = 5 then imm else 0
abbrev xD (op w dst src base disp imm cc : Int) : D :=
  .agg [.int .i8 op, .int .i8 w, .int .i8 dst, .int .i8 src, .int .i8 base, .int .i64 disp, .int .i64 imm, .int .i8 cc]
abbrev irD (kind op w dst src base disp imm cc reg phys num to : Int) : D :=
  .agg [.int .i8 kind, .int .i8 op, .int .i8 w, .int .i8 dst, .int .i8 src, .int .i8 base, .int .i64 disp, .int .i64 imm, .int .i8 cc, .int .i8 reg, .int .i8 phys, .int .i64 num, .int .i64 to]
abbrev takeD (phys reg : Int) : D := irD 1 0 0 0 0 0 0 0 0 reg phys 0 0
abbrev giveD (reg phys : Int) : D := irD 2 0 0 0 0 0 0 0 0 reg phys 0 0
abbrev two (op w dst src : Int) : D := irD 0 op w dst src 0 0 0 0 0 0 0 0
abbrev num (op w dst n : Int) : D := irD 0 op w dst 0 0 0 n 0 0 0 0 0
abbrev cmov (w dst : Int) : D := irD 0 25 w dst 11 0 0 0 4 0 0 0 0
def zeroImm (width imm : Int) : Bool := if width = 32 then decide (imm % 4294967296 = 0) else decide (imm = 0)
def regOp (op : Int) : Int := if op = 0 then 2 else if op = 1 then 5 else if op = 4 then 3 else if op = 5 then 4 else if op = 10 then 6 else if op = 6 then 20 else if op = 7 then 21 else 22
def immOp (op : Int) : Int := if op = 0 then 9 else if op = 1 then 12 else if op = 4 then 10 else if op = 5 then 11 else if op = 10 then 13 else if op = 6 then 17 else if op = 7 then 18 else 19
def aluM (op width : Int) (byReg : Bool) (dst src imm : Int) : List D :=
  if op = 3 ∨ op = 9 then
    (if byReg then
      [takeD 0 dst, takeD 1 src, num 1 32 2 0, num 1 32 11 1, two 8 width 1 1, cmov width 1, two 24 width 1 0, takeD 1 src] ++
        (if op = 3 then [num 1 32 11 0, two 8 width 1 1, cmov width 0, giveD dst 0] else [takeD 11 dst, two 8 width 1 1, cmov width 2, giveD dst 2])
    else if zeroImm width imm then
      (if op = 3 then [num 1 width 0 0, giveD dst 0] else if width = 32 then [takeD 0 dst, two 0 32 0 0, giveD dst 0] else [takeD 0 dst, giveD dst 0])
    else [takeD 0 dst, num 1 width 1 imm, num 1 32 2 0, two 24 width 1 0, giveD dst (if op = 3 then 0 else 2)])
  else if op = 2 then (if byReg then [takeD 0 dst, takeD 1 src, two 16 width 0 1, giveD dst 0] else [takeD 0 dst, num 1 width 1 imm, two 16 width 0 1, giveD dst 0])
  else if op = 8 then [takeD 0 dst, two 23 width 0 0, giveD dst 0]
  else if op = 11 then (if byReg then (if width = 32 then [takeD 0 src, two 0 32 0 0, giveD dst 0] else [takeD 0 src, giveD dst 0]) else [num 1 width 0 imm, giveD dst 0])
  else if op = 6 ∨ op = 7 ∨ op = 12 then (if byReg then [takeD 0 dst, takeD 1 src, two (regOp op) width 0 0, giveD dst 0] else [takeD 0 dst, num (immOp op) width 0 (imm % width), giveD dst 0])
  else (if byReg then [takeD 0 dst, takeD 1 src, two (regOp op) width 0 1, giveD dst 0] else [takeD 0 dst, num (immOp op) width 0 imm, giveD dst 0])
def stepsM (kind op width size : Int) (byReg : Bool) (dst src off imm : Int) : List D :=
  if kind = 0 then aluM op width byReg dst src imm
  else if kind = 1 then [takeD 1 src, irD 0 26 (8 * size) 0 0 1 off 0 0 0 0 0 0, giveD dst 0]
  else if kind = 2 then [takeD 1 dst, takeD 0 src, irD 0 27 (8 * size) 0 0 1 off 0 0 0 0 0 0]
  else if kind = 5 then [irD 3 0 0 0 0 0 0 0 0 0 0 imm 0, giveD 0 0, num 1 32 1 0, giveD 1 1, giveD 2 1, giveD 3 1, giveD 4 1, giveD 5 1]
  else if kind = 6 then [irD 6 0 0 0 0 0 0 0 0 0 0 0 0]
  else []
theorem w_u8 (n : Int) : IntKind.u8.wrap n = n % 256 := by simp [IntKind.wrap, IntKind.bits, IntKind.signed]
theorem w_u64 (n : Int) : IntKind.u64.wrap n = n % 18446744073709551616 := by simp [IntKind.wrap, IntKind.bits, IntKind.signed]
theorem w_i8 (n : Int) : IntKind.i8.wrap n = (n + 128) % 256 - 128 := by simp only [IntKind.wrap, IntKind.bits, IntKind.signed]; simp; split <;> omega
theorem w_i32 (n : Int) : IntKind.i32.wrap n = (n + 2147483648) % 4294967296 - 2147483648 := by simp only [IntKind.wrap, IntKind.bits, IntKind.signed]; simp; split <;> omega
theorem w_i64 (n : Int) : IntKind.i64.wrap n = (n + 9223372036854775808) % 18446744073709551616 - 9223372036854775808 := by simp only [IntKind.wrap, IntKind.bits, IntKind.signed]; simp; split <;> omega
theorem toNat_ofInt (w : Nat) (a : Int) : (BitVec.ofInt w a).toNat = (a % (2 ^ w : Nat)).toNat := by simp [BitVec.toNat_ofInt]
theorem and_ones (w k : Nat) (hk : k ≤ w) (a : Int) : ((BitVec.ofInt w a &&& BitVec.ofInt w ((2 ^ k - 1 : Nat) : Int)).toNat : Int) = a % (2 ^ k : Nat) := by
 have hp : 0 < 2 ^ k := Nat.two_pow_pos k
 have hle : 2 ^ k ≤ 2 ^ w := Nat.pow_le_pow_right (by omega) hk
 have e2 : (((2 ^ k - 1 : Nat) : Int) % ((2 ^ w : Nat) : Int)).toNat = 2 ^ k - 1 := by
  rw [Int.emod_eq_of_lt (by omega) (by omega)]
  omega
 rw [BitVec.toNat_and, toNat_ofInt, toNat_ofInt, e2, Nat.and_two_pow_sub_one_eq_mod]
 have h0 : 0 ≤ a % ((2 ^ w : Nat) : Int) := Int.emod_nonneg _ (by omega)
 have h1 : ((a % ((2 ^ w : Nat) : Int)).toNat : Int) = a % ((2 ^ w : Nat) : Int) := Int.toNat_of_nonneg h0
 rw [Int.natCast_emod, h1]
 have hd : ((2 ^ k : Nat) : Int) ∣ ((2 ^ w : Nat) : Int) := by
  rw [Int.natCast_dvd_natCast]; exact Nat.pow_dvd_pow 2 hk
 exact Int.emod_emod_of_dvd a hd
structure XS where
  op : Int
  w : Int
  dst : Int
  src : Int
  base : Int
  disp : Int
  imm : Int
  cc : Int
deriving DecidableEq
def XS.d (x : XS) : D := xD x.op x.w x.dst x.src x.base x.disp x.imm x.cc
structure IrS where
  kind : Int
  op : Int
  w : Int
  dst : Int
  src : Int
  base : Int
  disp : Int
  imm : Int
  cc : Int
  reg : Int
  phys : Int
  num : Int
  to : Int
deriving DecidableEq
def IrS.d (x : IrS) : D := irD x.kind x.op x.w x.dst x.src x.base x.disp x.imm x.cc x.reg x.phys x.num x.to
structure InstS where
  kind : Int
  op : Int
  width : Int
  size : Int
  byReg : Bool
  dst : Int
  src : Int
  off : Int
  imm : Int
deriving DecidableEq
def InstS.d (x : InstS) : D := instD x.kind x.op x.width x.size x.byReg x.dst x.src x.off x.imm
abbrev irC (kind op w dst src base disp imm cc reg phys num to : Int) : List D :=
  [.int .i8 kind, .int .i8 op, .int .i8 w, .int .i8 dst, .int .i8 src, .int .i8 base, .int .i64 disp, .int .i64 imm, .int .i8 cc, .int .i8 reg, .int .i8 phys, .int .i64 num, .int .i64 to]
def sh1 (n : Int) : Int := IntKind.i64.wrap (1 * 2 ^ (min (IntKind.u64.wrap n).toNat IntKind.i64.bits))
def sh8 (n : Int) : Int := IntKind.i64.wrap (1 * 2 ^ (min n.toNat IntKind.i64.bits))
def or64 (a b : Int) : Int := IntKind.i64.wrap ((BitVec.ofInt IntKind.i64.bits a ||| BitVec.ofInt IntKind.i64.bits b).toNat : Int)
def andNot64 (a b : Int) : Int := IntKind.i64.wrap ((BitVec.ofInt IntKind.i64.bits a &&& ~~~BitVec.ofInt IntKind.i64.bits b).toNat : Int)
end Go.Ev
namespace Go.Proofs.YtglcgdnaanhddaaGreat
open Go Go.Ev
theorem mixed : Tryz.prog.follows .mixedOrders = true := by kernel_rfl
theorem flat_X : FlatEq Tryz.prog 54 [.int .i8, .int .i8, .int .i8, .int .i8, .int .i8, .int .i64, .int .i64, .int .i8] := FlatEq.of_flat (d := 5) (by kernel_rfl) (by kernel_rfl) (by kernel_rfl) (by kernel_rfl)
theorem flat_Term : FlatEq Tryz.prog 107 [.int .i8, .int .i8, .int .i8, .int .u64, .int .i64, .int .i64, .int .i64] := FlatEq.of_flat (d := 5) (by kernel_rfl) (by kernel_rfl) (by kernel_rfl) (by kernel_rfl)
theorem key_Place : FlatKey Tryz.prog 67 [.int .i8, .int .i8] := FlatKey.of_flat (d := 5) (by kernel_rfl) (by kernel_rfl) (by kernel_rfl) (by kernel_rfl) (by kernel_rfl)
theorem key_Term : FlatKey Tryz.prog 107 [.int .i8, .int .i8, .int .i8, .int .u64, .int .i64, .int .i64, .int .i64] := FlatKey.of_flat (d := 5) (by kernel_rfl) (by kernel_rfl) (by kernel_rfl) (by kernel_rfl) (by kernel_rfl)
theorem key_Slot : FlatKey Tryz.prog 114 [.int .i64] := FlatKey.of_flat (d := 5) (by kernel_rfl) (by kernel_rfl) (by kernel_rfl) (by kernel_rfl) (by kernel_rfl)
end Go.Proofs.YtglcgdnaanhddaaGreat
namespace Go.Ev
open Go
def shapeM (op : Int) : Int :=
  if op = 0 ∨ (2 ≤ op ∧ op ≤ 8) then 1
  else if op = 16 then 2
  else if op = 1 ∨ (9 ≤ op ∧ op ≤ 15) then 3
  else if 17 ≤ op ∧ op ≤ 19 then 4
  else if 20 ≤ op ∧ op ≤ 24 then 5
  else if op = 25 then 6
  else if op = 26 then 7
  else if op = 27 then 8
  else if op = 28 then 9
  else if op = 29 then 10
  else if op = 30 ∨ op = 31 then 11
  else 0
def codeM (op : Int) : Int :=
  if op = 0 then 0x89 else if op = 1 then 0xC7 else if op = 2 then 0x01 else if op = 3 then 0x09 else if op = 4 then 0x21 else if op = 5 then 0x29 else if op = 6 then 0x31 else if op = 7 then 0x39 else if op = 8 then 0x85
  else if 9 ≤ op ∧ op ≤ 14 then 0x81 else if op = 15 then 0xF7 else if op = 16 then 0xAF else if 17 ≤ op ∧ op ≤ 19 then 0xC1 else if 20 ≤ op ∧ op ≤ 22 then 0xD3 else if op = 23 ∨ op = 24 then 0xF7
  else if op = 25 then 0x40 else if op = 26 then 0x8B else if op = 27 then 0x89 else if op = 28 then 0xE9 else if op = 29 then 0x80 else if op = 30 then 0xC3 else if op = 31 then 0x05 else 0
def numM (op : Int) : Int :=
  if op = 10 then 1 else if op = 11 ∨ op = 17 ∨ op = 20 then 4 else if op = 12 ∨ op = 18 ∨ op = 21 then 5 else if op = 13 ∨ op = 24 then 6 else if op = 14 ∨ op = 19 ∨ op = 22 then 7 else if op = 23 then 3 else 0
def classM (op : Int) : Int :=
  if shapeM op = 1 ∨ shapeM op = 2 then 1 else if shapeM op = 0 then 0 else shapeM op - 1
def regM (n : Int) : Bool := decide (0 ≤ n ∧ n ≤ 15)
def ccM (n : Int) : Bool := decide ((2 ≤ n ∧ n ≤ 7) ∨ (12 ≤ n ∧ n ≤ 15))
def longM (w : Int) : Bool := decide (w = 32 ∨ w = 64)
def widthM (w : Int) : Bool := decide (w = 8 ∨ w = 16 ∨ w = 32 ∨ w = 64)
def jumpM (w imm : Int) : Bool := decide (w = 32 ∨ (w = 8 ∧ -128 ≤ imm ∧ imm ≤ 127))
def mayS (sh w dst src base disp imm cc : Int) : Bool :=
  if sh = 1 ∨ sh = 2 then longM w && decide (base = 0 ∧ disp = 0 ∧ imm = 0 ∧ cc = 0)
  else if sh = 3 then longM w && decide (src = 0 ∧ base = 0 ∧ disp = 0 ∧ cc = 0)
  else if sh = 4 then longM w && decide (src = 0 ∧ base = 0 ∧ disp = 0 ∧ cc = 0 ∧ 0 ≤ imm ∧ imm < w)
  else if sh = 5 then longM w && decide (src = 0 ∧ base = 0 ∧ disp = 0 ∧ imm = 0 ∧ cc = 0)
  else if sh = 6 then longM w && decide (base = 0 ∧ disp = 0 ∧ imm = 0) && ccM cc
  else if sh = 7 then widthM w && decide (src = 0 ∧ imm = 0 ∧ cc = 0)
  else if sh = 8 then widthM w && decide (dst = 0 ∧ imm = 0 ∧ cc = 0)
  else if sh = 9 then jumpM w imm && decide (dst = 0 ∧ src = 0 ∧ base = 0 ∧ disp = 0 ∧ cc = 0)
  else if sh = 10 then jumpM w imm && decide (dst = 0 ∧ src = 0 ∧ base = 0 ∧ disp = 0) && ccM cc
  else if sh = 11 then decide (w = 0 ∧ dst = 0 ∧ src = 0 ∧ base = 0 ∧ disp = 0 ∧ imm = 0 ∧ cc = 0)
  else false
def mayX (op w dst src base disp imm cc : Int) : Bool :=
  regM dst && regM src && regM base && decide (-2147483648 ≤ disp ∧ disp ≤ 2147483647) && decide (-2147483648 ≤ imm ∧ imm ≤ 2147483647) && mayS (shapeM op) w dst src base disp imm cc
def fourM (n : Int) : List Int := [n % 256, n / 256 % 256, n / 65536 % 256, n / 16777216 % 256]
def rexB (wide : Bool) (r m : Int) : Int := 64 + (if wide then 8 else 0) + 4 * (r / 8) + m / 8
def needM (wide : Bool) (r m : Int) (always : Bool) : Bool := wide || always || decide (8 ≤ r ∨ 8 ≤ m)
def rexM (wide : Bool) (r m : Int) (always : Bool) : List Int := if needM wide r m always then [rexB wide r m] else []
def regsM (r m : Int) : Int := 192 + 8 * (r % 8) + m % 8
def memM (r b disp : Int) : List Int := if b % 8 = 4 then (128 + 8 * (r % 8) + b % 8) :: 36 :: fourM disp else (128 + 8 * (r % 8) + b % 8) :: fourM disp
def bytesM (op w dst src base disp imm cc : Int) : List Int :=
  let sh := shapeM op
  let wide := decide (w = 64)
  if sh = 1 then rexM wide src dst false ++ [codeM op, regsM src dst]
  else if sh = 2 then rexM wide dst src false ++ [15, codeM op, regsM dst src]
  else if sh = 6 then rexM wide dst src false ++ [15, 64 + cc, regsM dst src]
  else if sh = 3 then (if op = 1 ∧ w = 32 then rexM false 0 dst false ++ ((184 + dst % 8) :: fourM imm) else rexM wide 0 dst false ++ (codeM op :: regsM (numM op) dst :: fourM imm))
  else if sh = 4 then rexM wide 0 dst false ++ [codeM op, regsM (numM op) dst, imm % 256]
  else if sh = 5 then rexM wide 0 dst false ++ [codeM op, regsM (numM op) dst]
  else if sh = 7 then rexM wide dst base false ++ ((if w = 8 then [15, 182] else if w = 16 then [15, 183] else [139]) ++ memM dst base disp)
  else if sh = 8 then (if w = 16 then [102] else []) ++ (rexM wide src base (decide (w = 8)) ++ ((if w = 8 then [136] else [137]) ++ memM src base disp))
  else if sh = 9 then (if w = 8 then [235, imm % 256] else 233 :: fourM imm)
  else if sh = 10 then (if w = 8 then [112 + cc, imm % 256] else 15 :: (128 + cc) :: fourM imm)
  else if op = 31 then [15, 5]
  else [195]
def bD (l : List Int) : List D := l.map fun n => .int .u8 n
def bytesL (op w dst src base disp imm cc : Int) : List D := if mayX op w dst src base disp imm cc then bD (bytesM op w dst src base disp imm cc) else []
def bytesE (op w dst src base disp imm cc : Int) : Int := if mayX op w dst src base disp imm cc then 0 else 2
def signed4 (a b c d : Int) : Int := (a + 256 * b + 65536 * c + 16777216 * d + 2147483648) % 4294967296 - 2147483648
def signed1 (a : Int) : Int := (a + 128) % 256 - 128
theorem four_back {n : Int} (h0 : -2147483648 ≤ n) (h1 : n ≤ 2147483647) : signed4 (n % 256) (n / 256 % 256) (n / 65536 % 256) (n / 16777216 % 256) = n := by
 simp only [signed4]
 omega
theorem one_back {n : Int} (h0 : -128 ≤ n) (h1 : n ≤ 127) : signed1 (n % 256) = n := by
 simp only [signed1]
 omega
theorem mayX_parts {op w dst src base disp imm cc : Int} (h : mayX op w dst src base disp imm cc = true) :
  (0 ≤ dst ∧ dst ≤ 15 ∧ 0 ≤ src ∧ src ≤ 15 ∧ 0 ≤ base ∧ base ≤ 15 ∧ -2147483648 ≤ disp ∧ disp ≤ 2147483647 ∧ -2147483648 ≤ imm ∧ imm ≤ 2147483647) ∧ mayS (shapeM op) w dst src base disp imm cc = true := by
 simp only [mayX, regM, Bool.and_eq_true, decide_eq_true_eq] at h
 exact ⟨by omega, h.2⟩
theorem shape_ops {op : Int} (h : shapeM op ≠ 0) : op = 0 ∨ op = 1 ∨ op = 2 ∨ op = 3 ∨ op = 4 ∨ op = 5 ∨ op = 6 ∨ op = 7 ∨ op = 8 ∨ op = 9 ∨ op = 10 ∨ op = 11 ∨ op = 12 ∨ op = 13 ∨ op = 14 ∨ op = 15 ∨ op = 16 ∨ op = 17 ∨ op = 18 ∨ op = 19 ∨ op = 20 ∨ op = 21 ∨ op = 22 ∨ op = 23 ∨ op = 24 ∨ op = 25 ∨ op = 26 ∨ op = 27 ∨ op = 28 ∨ op = 29 ∨ op = 30 ∨ op = 31 := by
 by_cases h2 : 0 ≤ op ∧ op ≤ 31
 ·omega
 ·refine absurd ?_ h
  unfold shapeM
  repeat (rw [if_neg (by omega)])
def rd4 : List Int → Int
  | a :: b :: c :: d :: _ => signed4 a b c d
  | _ => 0
def hd (l : List Int) : Int := l.headD 0
def ops32 : List Int := [0, 1, 2, 3, 4, 5, 6, 7, 8, 9, 10, 11, 12, 13, 14, 15, 16, 17, 18, 19, 20, 21, 22, 23, 24, 25, 26, 27, 28, 29, 30, 31]
def findOp (p : Int → Bool) : Int := (ops32.find? p).getD (-1)
def opPairs (c : Int) : Int := findOp fun o => decide (shapeM o = 1 ∧ codeM o = c)
def opGroup (c k : Int) : Int := findOp fun o => decide ((shapeM o = 3 ∨ shapeM o = 4 ∨ shapeM o = 5) ∧ codeM o = c ∧ numM o = k)
def preM : List Int → Bool × Int × Int × List Int
  | h :: t => if 64 ≤ h ∧ h ≤ 79 then (decide (72 ≤ h), (h - 64) / 4 % 2, (h - 64) % 2, t) else (false, 0, 0, h :: t)
  | [] => (false, 0, 0, [])
def behM (t : List Int) : List Int := if hd t % 8 = 4 then t.drop 2 else t.drop 1
def dec2 (wide : Bool) (r m c : Int) (t : List Int) : XS :=
  let w := if wide then 64 else 32
  let reg := hd t / 8 % 8 + 8 * r
  let rm := hd t % 8 + 8 * m
  if c = 175 then ⟨16, w, reg, rm, 0, 0, 0, 0⟩
  else if 64 ≤ c ∧ c ≤ 79 then ⟨25, w, reg, rm, 0, 0, 0, c - 64⟩
  else if 128 ≤ c ∧ c ≤ 143 then ⟨29, 32, 0, 0, 0, 0, rd4 t, c - 128⟩
  else if c = 182 then ⟨26, 8, reg, 0, rm, rd4 (behM t), 0, 0⟩
  else if c = 183 then ⟨26, 16, reg, 0, rm, rd4 (behM t), 0, 0⟩
  else ⟨31, 0, 0, 0, 0, 0, 0, 0⟩
def dec1 (half wide : Bool) (r m c : Int) (t : List Int) : XS :=
  let w := if wide then 64 else 32
  let reg := hd t / 8 % 8 + 8 * r
  let rm := hd t % 8 + 8 * m
  if c = 15 then dec2 wide r m (hd t) (t.drop 1)
  else if 184 ≤ c ∧ c ≤ 191 then ⟨1, 32, c - 184 + 8 * m, 0, 0, 0, rd4 t, 0⟩
  else if 112 ≤ c ∧ c ≤ 127 then ⟨29, 8, 0, 0, 0, 0, signed1 (hd t), c - 112⟩
  else if c = 235 then ⟨28, 8, 0, 0, 0, 0, signed1 (hd t), 0⟩
  else if c = 233 then ⟨28, 32, 0, 0, 0, 0, rd4 t, 0⟩
  else if c = 195 then ⟨30, 0, 0, 0, 0, 0, 0, 0⟩
  else if c = 139 then ⟨26, w, reg, 0, rm, rd4 (behM t), 0, 0⟩
  else if c = 136 then ⟨27, 8, 0, reg, rm, rd4 (behM t), 0, 0⟩
  else if c = 137 ∧ hd t < 192 then ⟨27, if half then 16 else w, 0, reg, rm, rd4 (behM t), 0, 0⟩
  else if opPairs c ≠ -1 then ⟨opPairs c, w, rm, reg, 0, 0, 0, 0⟩
  else
    let o := opGroup c (hd t / 8 % 8)
    if shapeM o = 3 then ⟨o, w, rm, 0, 0, 0, rd4 (t.drop 1), 0⟩
    else if shapeM o = 4 then ⟨o, w, rm, 0, 0, 0, hd (t.drop 1), 0⟩
    else ⟨o, w, rm, 0, 0, 0, 0, 0⟩
def decR (half : Bool) (p : Bool × Int × Int × List Int) : XS := dec1 half p.1 p.2.1 p.2.2.1 (hd p.2.2.2) (p.2.2.2.drop 1)
def decM (l : List Int) : XS := if hd l = 102 then decR true (preM (l.drop 1)) else decR false (preM l)
theorem pre_rex {wide al : Bool} {r m c : Int} {t : List Int} (r0 : 0 ≤ r) (r1 : r ≤ 15) (m0 : 0 ≤ m) (m1 : m ≤ 15) (hc : ¬ (64 ≤ c ∧ c ≤ 79)) : preM (rexM wide r m al ++ c :: t) = (wide, r / 8, m / 8, c :: t) := by
 unfold rexM
 split
 ·simp only [List.cons_append, List.nil_append, preM, rexB]
  cases wide
  ·simp only [Bool.false_eq_true, if_false]
   rw [if_pos (by omega)]
   refine Prod.ext ?_ (Prod.ext ?_ (Prod.ext ?_ rfl)) <;> simp <;> omega
  ·simp only [if_true]
   rw [if_pos (by omega)]
   refine Prod.ext ?_ (Prod.ext ?_ (Prod.ext ?_ rfl)) <;> simp <;> omega
 ·rename_i h
  simp only [needM, Bool.or_eq_true, decide_eq_true_eq, not_or, Bool.not_eq_true] at h
  simp only [List.nil_append, preM, if_neg hc]
  rw [h.1.1]
  refine Prod.ext rfl (Prod.ext ?_ (Prod.ext ?_ rfl)) <;> simp <;> omega
theorem hd_rex {wide al : Bool} {r m c : Int} {t : List Int} (r0 : 0 ≤ r) (r1 : r ≤ 15) (m0 : 0 ≤ m) (m1 : m ≤ 15) (hc : c ≠ 102) : hd (rexM wide r m al ++ c :: t) ≠ 102 := by
 unfold rexM
 split
 ·simp only [List.cons_append, hd, List.headD_cons, rexB]
  cases wide <;> simp <;> omega
 ·simpa [hd] using hc
theorem dec_rex {wide al : Bool} {r m c : Int} {t : List Int} (r0 : 0 ≤ r) (r1 : r ≤ 15) (m0 : 0 ≤ m) (m1 : m ≤ 15) (hc : ¬ (64 ≤ c ∧ c ≤ 79)) (h2 : c ≠ 102) : decM (rexM wide r m al ++ c :: t) = dec1 false wide (r / 8) (m / 8) c t := by
 unfold decM
 rw [if_neg (hd_rex r0 r1 m0 m1 h2), pre_rex r0 r1 m0 m1 hc]
 rfl
theorem dec_half {wide al : Bool} {r m c : Int} {t : List Int} (r0 : 0 ≤ r) (r1 : r ≤ 15) (m0 : 0 ≤ m) (m1 : m ≤ 15) (hc : ¬ (64 ≤ c ∧ c ≤ 79)) : decM (102 :: (rexM wide r m al ++ c :: t)) = dec1 true wide (r / 8) (m / 8) c t := by
 unfold decM
 rw [if_pos (show hd (102 :: (rexM wide r m al ++ c :: t)) = 102 from rfl), List.drop_one, List.tail_cons, pre_rex r0 r1 m0 m1 hc]
 rfl
theorem dec_bare {c : Int} {t : List Int} (hc : ¬ (64 ≤ c ∧ c ≤ 79)) (h2 : c ≠ 102) : decM (c :: t) = dec1 false false 0 0 c t := by
 unfold decM
 rw [if_neg (by simpa [hd] using h2), preM, if_neg hc]
 rfl
theorem regs_reg {r m : Int} (r0 : 0 ≤ r) (r1 : r ≤ 15) (m0 : 0 ≤ m) (m1 : m ≤ 15) : regsM r m / 8 % 8 + 8 * (r / 8) = r := by unfold regsM; omega
theorem regs_rm {r m : Int} (r0 : 0 ≤ r) (r1 : r ≤ 15) (m0 : 0 ≤ m) (m1 : m ≤ 15) : regsM r m % 8 + 8 * (m / 8) = m := by unfold regsM; omega
theorem regs_num {r m : Int} (r0 : 0 ≤ r) (r1 : r ≤ 7) (m0 : 0 ≤ m) (m1 : m ≤ 15) : regsM r m / 8 % 8 = r := by unfold regsM; omega
theorem regs_ge {r m : Int} (r0 : 0 ≤ r) (m0 : 0 ≤ m) : ¬ regsM r m < 192 := by unfold regsM; omega
theorem mem_hd {r b disp : Int} {t : List Int} : hd (memM r b disp ++ t) = 128 + 8 * (r % 8) + b % 8 := by unfold memM; split <;> simp [hd]
theorem mem_beh {r b disp : Int} {t : List Int} : behM (memM r b disp ++ t) = fourM disp ++ t := by
 unfold behM
 rw [mem_hd]
 unfold memM
 split <;> rename_i h <;> split <;> rename_i h2 <;> first | (exfalso; omega) | simp
theorem rd4_four {n : Int} {t : List Int} (h0 : -2147483648 ≤ n) (h1 : n ≤ 2147483647) : rd4 (fourM n ++ t) = n := by
 simp only [fourM, List.cons_append, rd4]
 exact four_back h0 h1
theorem mem_reg {r b : Int} (r0 : 0 ≤ r) (r1 : r ≤ 15) : (128 + 8 * (r % 8) + b % 8) / 8 % 8 + 8 * (r / 8) = r := by omega
theorem mem_rm {r b : Int} (b0 : 0 ≤ b) (b1 : b ≤ 15) : (128 + 8 * (r % 8) + b % 8) % 8 + 8 * (b / 8) = b := by omega
theorem mem_lt {r b : Int} : 128 + 8 * (r % 8) + b % 8 < 192 := by omega
theorem opPairs_back : ∀ n : Fin 32, shapeM (n.val : Int) = 1 → opPairs (codeM (n.val : Int)) = n.val := by decide +kernel
theorem opGroup_back : ∀ n : Fin 32, shapeM (n.val : Int) = 3 ∨ shapeM (n.val : Int) = 4 ∨ shapeM (n.val : Int) = 5 → opGroup (codeM (n.val : Int)) (numM (n.val : Int)) = n.val := by decide +kernel
theorem code_pairs : ∀ n : Fin 32, shapeM (n.val : Int) = 1 → (let c := codeM (n.val : Int); c ≠ 15 ∧ ¬ (64 ≤ c ∧ c ≤ 79) ∧ c ≠ 102 ∧ ¬ (184 ≤ c ∧ c ≤ 191) ∧ ¬ (112 ≤ c ∧ c ≤ 127) ∧ c ≠ 235 ∧ c ≠ 233 ∧ c ≠ 195 ∧ c ≠ 139 ∧ c ≠ 136 ∧ opPairs c ≠ -1) := by decide +kernel
theorem code_group : ∀ n : Fin 32, shapeM (n.val : Int) = 3 ∨ shapeM (n.val : Int) = 4 ∨ shapeM (n.val : Int) = 5 → (let c := codeM (n.val : Int); c ≠ 15 ∧ ¬ (64 ≤ c ∧ c ≤ 79) ∧ c ≠ 102 ∧ ¬ (184 ≤ c ∧ c ≤ 191) ∧ ¬ (112 ≤ c ∧ c ≤ 127) ∧ c ≠ 235 ∧ c ≠ 233 ∧ c ≠ 195 ∧ c ≠ 139 ∧ c ≠ 136 ∧ c ≠ 137 ∧ opPairs c = -1 ∧ 0 ≤ numM (n.val : Int) ∧ numM (n.val : Int) ≤ 7) := by decide +kernel
theorem op_fin {op : Int} (h : shapeM op ≠ 0) : ∃ n : Fin 32, op = n.val := by
 have := shape_ops h
 exact ⟨⟨op.toNat, by omega⟩, by simp; omega⟩
theorem long_cases {w : Int} (h : longM w = true) : w = 32 ∨ w = 64 := by simpa [longM] using h
theorem w_back {w : Int} (h : longM w = true) : (if decide (w = 64) = true then 64 else 32) = w := by rcases long_cases h with rfl | rfl <;> rfl
theorem shape_6 : ∀ n : Fin 32, shapeM (n.val : Int) = 6 → (n.val : Int) = 25 := by decide +kernel
theorem shape_7 : ∀ n : Fin 32, shapeM (n.val : Int) = 7 → (n.val : Int) = 26 := by decide +kernel
theorem shape_8 : ∀ n : Fin 32, shapeM (n.val : Int) = 8 → (n.val : Int) = 27 := by decide +kernel
theorem shape_9 : ∀ n : Fin 32, shapeM (n.val : Int) = 9 → (n.val : Int) = 28 := by decide +kernel
theorem shape_10 : ∀ n : Fin 32, shapeM (n.val : Int) = 10 → (n.val : Int) = 29 := by decide +kernel
theorem shape_11 : ∀ n : Fin 32, shapeM (n.val : Int) = 11 → (n.val : Int) = 30 ∨ (n.val : Int) = 31 := by decide +kernel
theorem width_cases {w : Int} (h : widthM w = true) : w = 8 ∨ w = 16 ∨ w = 32 ∨ w = 64 := by simpa [widthM] using h
theorem dec_back {op w dst src base disp imm cc : Int} (h : mayX op w dst src base disp imm cc = true) (t : List Int) : decM (bytesM op w dst src base disp imm cc ++ t) = ⟨op, w, dst, src, base, disp, imm, cc⟩ := by
 obtain ⟨⟨d0, d1, s0, s1, b0, b1, p0, p1, i0, i1⟩, hs⟩ := mayX_parts h
 have hsh : shapeM op ≠ 0 := by
  intro e
  rw [e] at hs
  simp [mayS] at hs
 obtain ⟨k, rfl⟩ := op_fin hsh
 unfold mayS at hs
 split at hs
 ·rename_i h12
  simp only [Bool.and_eq_true, decide_eq_true_eq] at hs
  obtain ⟨hw, rfl, rfl, rfl, rfl⟩ := hs
  have ew := w_back hw
  rcases h12 with h1 | h1
  ·
   obtain ⟨c1, c2, c3, c4, c5, c6, c7, c8, c9, c10, c11⟩ := code_pairs k h1
   have e : bytesM (k.val : Int) w dst src 0 0 0 0 = rexM (decide (w = 64)) src dst false ++ [codeM (k.val : Int), regsM src dst] := by simp only [bytesM, h1, if_true]
   rw [e, List.append_assoc, List.cons_append, List.cons_append, List.nil_append, dec_rex s0 s1 d0 d1 c2 c3]
   simp only [dec1, if_neg c1, if_neg c4, if_neg c5, if_neg c6, if_neg c7, if_neg c8, if_neg c9, if_neg c10]
   have g : hd (regsM src dst :: t) = regsM src dst := rfl
   rw [g, if_neg (by have := regs_ge (m := dst) s0 d0; omega), if_pos c11, opPairs_back k h1, regs_reg s0 s1 d0 d1, regs_rm s0 s1 d0 d1, ew]
  ·
   have hk : (k.val : Int) = 16 := by
    have := shape_ops (op := (k.val : Int)) (by omega)
    revert h1
    rcases this with e | e | e | e | e | e | e | e | e | e | e | e | e | e | e | e | e | e | e | e | e | e | e | e | e | e | e | e | e | e | e | e <;> rw [e] <;> decide
   rw [hk]
   have e : bytesM 16 w dst src 0 0 0 0 = rexM (decide (w = 64)) dst src false ++ [15, 175, regsM dst src] := by
    simp only [bytesM, show shapeM 16 = 2 from rfl, show codeM 16 = 175 from rfl, if_true, show ¬ (2 : Int) = 1 by decide, if_false]
   rw [e, List.append_assoc, List.cons_append, List.cons_append, List.cons_append, List.nil_append, dec_rex d0 d1 s0 s1 (by decide) (by decide)]
   simp only [dec1, if_true, dec2, hd, List.headD_cons, List.drop_succ_cons, List.drop_zero]
   rw [regs_reg d0 d1 s0 s1, regs_rm d0 d1 s0 s1, ew]
 ·rename_i n12
  have n1 : ¬ shapeM (k.val : Int) = 1 := fun e => n12 (.inl e)
  have n2 : ¬ shapeM (k.val : Int) = 2 := fun e => n12 (.inr e)
  split at hs
  ·
   rename_i h3
   simp only [Bool.and_eq_true, decide_eq_true_eq] at hs
   obtain ⟨hw, rfl, rfl, rfl, rfl⟩ := hs
   have ew := w_back hw
   by_cases hm : (k.val : Int) = 1 ∧ w = 32
   ·obtain ⟨hm, rfl⟩ := hm
    have e : bytesM (k.val : Int) 32 dst 0 0 0 imm 0 = rexM false 0 dst false ++ ((184 + dst % 8) :: fourM imm) := by
     rw [hm]
     simp [bytesM, show shapeM 1 = 3 from rfl]
    rw [e, List.append_assoc, List.cons_append, dec_rex (by omega) (by omega) d0 d1 (by omega) (by omega)]
    have c1 : ¬ 184 + dst % 8 = 15 := by omega
    simp only [dec1, if_neg c1]
    rw [if_pos (by omega), rd4_four i0 i1, hm]
    congr 1
    omega
   ·obtain ⟨c1, c2, c3, c4, c5, c6, c7, c8, c9, c10, c11, c12, u0, u1⟩ := code_group k (.inl h3)
    have e : bytesM (k.val : Int) w dst 0 0 0 imm 0 = rexM (decide (w = 64)) 0 dst false ++ (codeM (k.val : Int) :: regsM (numM (k.val : Int)) dst :: fourM imm) := by
     simp only [bytesM, h3, if_neg hm, show ¬ (3 : Int) = 1 by decide, show ¬ (3 : Int) = 2 by decide, show ¬ (3 : Int) = 6 by decide, if_false, if_true]
    rw [e, List.append_assoc, List.cons_append, List.cons_append, dec_rex (by omega) (by omega) d0 d1 c2 c3]
    simp only [dec1, if_neg c1, if_neg c4, if_neg c5, if_neg c6, if_neg c7, if_neg c8, if_neg c9, if_neg c10]
    have g : hd (regsM (numM (k.val : Int)) dst :: (fourM imm ++ t)) = regsM (numM (k.val : Int)) dst := rfl
    rw [g, if_neg (by omega), if_neg (by simp [c12]), regs_num u0 u1 d0 d1, opGroup_back k (.inl h3), if_pos h3, List.drop_one, List.tail_cons, rd4_four i0 i1, regs_rm u0 (by omega) d0 d1, ew]
  ·rename_i n3
   split at hs
   ·
    rename_i h4
    simp only [Bool.and_eq_true, decide_eq_true_eq] at hs
    obtain ⟨hw, rfl, rfl, rfl, rfl, j0, j1⟩ := hs
    have ew := w_back hw
    have hw' := long_cases hw
    obtain ⟨c1, c2, c3, c4, c5, c6, c7, c8, c9, c10, c11, c12, u0, u1⟩ := code_group k (.inr (.inl h4))
    have e : bytesM (k.val : Int) w dst 0 0 0 imm 0 = rexM (decide (w = 64)) 0 dst false ++ [codeM (k.val : Int), regsM (numM (k.val : Int)) dst, imm % 256] := by
     simp only [bytesM, h4, show ¬ (4 : Int) = 1 by decide, show ¬ (4 : Int) = 2 by decide, show ¬ (4 : Int) = 6 by decide, show ¬ (4 : Int) = 3 by decide, if_false, if_true]
    rw [e, List.append_assoc, List.cons_append, List.cons_append, List.cons_append, List.nil_append, dec_rex (by omega) (by omega) d0 d1 c2 c3]
    simp only [dec1, if_neg c1, if_neg c4, if_neg c5, if_neg c6, if_neg c7, if_neg c8, if_neg c9, if_neg c10]
    have g : hd (regsM (numM (k.val : Int)) dst :: imm % 256 :: t) = regsM (numM (k.val : Int)) dst := rfl
    rw [g, if_neg (by omega), if_neg (by simp [c12]), regs_num u0 u1 d0 d1, opGroup_back k (.inr (.inl h4)), if_neg (by omega), if_pos h4, List.drop_one, List.tail_cons, regs_rm u0 (by omega) d0 d1, ew]
    have : hd (imm % 256 :: t) = imm := by simp only [hd, List.headD_cons]; omega
    rw [this]
   ·rename_i n4
    split at hs
    ·
     rename_i h5
     simp only [Bool.and_eq_true, decide_eq_true_eq] at hs
     obtain ⟨hw, rfl, rfl, rfl, rfl, rfl⟩ := hs
     have ew := w_back hw
     obtain ⟨c1, c2, c3, c4, c5, c6, c7, c8, c9, c10, c11, c12, u0, u1⟩ := code_group k (.inr (.inr h5))
     have e : bytesM (k.val : Int) w dst 0 0 0 0 0 = rexM (decide (w = 64)) 0 dst false ++ [codeM (k.val : Int), regsM (numM (k.val : Int)) dst] := by
      simp only [bytesM, h5, show ¬ (5 : Int) = 1 by decide, show ¬ (5 : Int) = 2 by decide, show ¬ (5 : Int) = 6 by decide, show ¬ (5 : Int) = 3 by decide, show ¬ (5 : Int) = 4 by decide, if_false, if_true]
     rw [e, List.append_assoc, List.cons_append, List.cons_append, List.nil_append, dec_rex (by omega) (by omega) d0 d1 c2 c3]
     simp only [dec1, if_neg c1, if_neg c4, if_neg c5, if_neg c6, if_neg c7, if_neg c8, if_neg c9, if_neg c10]
     have g : hd (regsM (numM (k.val : Int)) dst :: t) = regsM (numM (k.val : Int)) dst := rfl
     rw [g, if_neg (by omega), if_neg (by simp [c12]), regs_num u0 u1 d0 d1, opGroup_back k (.inr (.inr h5)), if_neg (by omega), if_neg (by omega), regs_rm u0 (by omega) d0 d1, ew]
    ·rename_i n5
     split at hs
     ·
      rename_i h6
      have hk := shape_6 k h6
      rw [hk] at h6 ⊢
      simp only [Bool.and_eq_true, decide_eq_true_eq] at hs
      obtain ⟨⟨hw, rfl, rfl, rfl⟩, hc⟩ := hs
      have ew := w_back hw
      simp only [ccM, decide_eq_true_eq] at hc
      have e : bytesM 25 w dst src 0 0 0 cc = rexM (decide (w = 64)) dst src false ++ [15, 64 + cc, regsM dst src] := by
       simp [bytesM, show shapeM 25 = 6 from rfl]
      rw [e, List.append_assoc, List.cons_append, List.cons_append, List.cons_append, List.nil_append, dec_rex d0 d1 s0 s1 (by decide) (by decide)]
      have c1 : ¬ 64 + cc = 175 := by omega
      have c2 : 64 ≤ 64 + cc ∧ 64 + cc ≤ 79 := by omega
      simp only [dec1, if_true, dec2, hd, List.headD_cons, List.drop_succ_cons, List.drop_zero, if_neg c1, if_pos c2]
      rw [regs_reg d0 d1 s0 s1, regs_rm d0 d1 s0 s1, ew]
      congr 1
      omega
     ·rename_i n6
      split at hs
      ·
       rename_i h7
       have hk := shape_7 k h7
       rw [hk] at h7 ⊢
       simp only [Bool.and_eq_true, decide_eq_true_eq] at hs
       obtain ⟨hw, rfl, rfl, rfl⟩ := hs
       have e : bytesM 26 w dst 0 base disp 0 0 = rexM (decide (w = 64)) dst base false ++ ((if w = 8 then [15, 182] else if w = 16 then [15, 183] else [139]) ++ memM dst base disp) := by
        simp [bytesM, show shapeM 26 = 7 from rfl]
       rw [e]
       rcases width_cases hw with rfl | rfl | rfl | rfl
       ·rw [if_pos rfl, List.append_assoc, List.append_assoc, List.cons_append, dec_rex d0 d1 b0 b1 (by decide) (by decide)]
        simp only [dec1, if_true, dec2, List.cons_append, List.nil_append]
        have g : hd (182 :: (memM dst base disp ++ t)) = 182 := rfl
        simp only [g, List.drop_one, List.tail_cons, mem_hd, mem_beh, rd4_four p0 p1, mem_reg d0 d1, mem_rm b0 b1]
        rfl
       ·rw [if_neg (by decide), if_pos rfl, List.append_assoc, List.append_assoc, List.cons_append, dec_rex d0 d1 b0 b1 (by decide) (by decide)]
        simp only [dec1, if_true, dec2, List.cons_append, List.nil_append]
        have g : hd (183 :: (memM dst base disp ++ t)) = 183 := rfl
        simp only [g, List.drop_one, List.tail_cons, mem_hd, mem_beh, rd4_four p0 p1, mem_reg d0 d1, mem_rm b0 b1]
        rfl
       ·rw [if_neg (by decide), if_neg (by decide), List.append_assoc, List.append_assoc, List.cons_append, List.nil_append, dec_rex d0 d1 b0 b1 (by decide) (by decide)]
        simp only [dec1, mem_hd, mem_beh, rd4_four p0 p1, mem_reg d0 d1, mem_rm b0 b1]
        rfl
       ·rw [if_neg (by decide), if_neg (by decide), List.append_assoc, List.append_assoc, List.cons_append, List.nil_append, dec_rex d0 d1 b0 b1 (by decide) (by decide)]
        simp only [dec1, mem_hd, mem_beh, rd4_four p0 p1, mem_reg d0 d1, mem_rm b0 b1]
        rfl
      ·rename_i n7
       split at hs
       ·
        rename_i h8
        have hk := shape_8 k h8
        rw [hk] at h8 ⊢
        simp only [Bool.and_eq_true, decide_eq_true_eq] at hs
        obtain ⟨hw, rfl, rfl, rfl⟩ := hs
        have e : bytesM 27 w 0 src base disp 0 0 = (if w = 16 then [102] else []) ++ (rexM (decide (w = 64)) src base (decide (w = 8)) ++ ((if w = 8 then [136] else [137]) ++ memM src base disp)) := by
         simp [bytesM, show shapeM 27 = 8 from rfl]
        rw [e]
        have ml := @mem_lt src base
        rcases width_cases hw with rfl | rfl | rfl | rfl
        ·rw [if_neg (by decide), if_pos rfl, List.nil_append, List.append_assoc, List.append_assoc, List.cons_append, List.nil_append, dec_rex s0 s1 b0 b1 (by decide) (by decide)]
         simp only [dec1, mem_hd, mem_beh, rd4_four p0 p1, mem_reg s0 s1, mem_rm b0 b1]
         rfl
        ·rw [if_pos rfl, if_neg (by decide), List.append_assoc, List.append_assoc, List.append_assoc, List.cons_append, List.cons_append, List.nil_append, List.nil_append, dec_half s0 s1 b0 b1 (by decide)]
         simp only [dec1, mem_hd, mem_beh, rd4_four p0 p1, mem_reg s0 s1, mem_rm b0 b1, ml, and_true]
         rfl
        ·rw [if_neg (by decide), if_neg (by decide), List.nil_append, List.append_assoc, List.append_assoc, List.cons_append, List.nil_append, dec_rex s0 s1 b0 b1 (by decide) (by decide)]
         simp only [dec1, mem_hd, mem_beh, rd4_four p0 p1, mem_reg s0 s1, mem_rm b0 b1, ml, and_true]
         rfl
        ·rw [if_neg (by decide), if_neg (by decide), List.nil_append, List.append_assoc, List.append_assoc, List.cons_append, List.nil_append, dec_rex s0 s1 b0 b1 (by decide) (by decide)]
         simp only [dec1, mem_hd, mem_beh, rd4_four p0 p1, mem_reg s0 s1, mem_rm b0 b1, ml, and_true]
         rfl
       ·rename_i n8
        split at hs
        ·
         rename_i h9
         have hk := shape_9 k h9
         rw [hk] at h9 ⊢
         simp only [Bool.and_eq_true, decide_eq_true_eq, jumpM] at hs
         obtain ⟨hw, rfl, rfl, rfl, rfl, rfl⟩ := hs
         have e : bytesM 28 w 0 0 0 0 imm 0 = if w = 8 then [235, imm % 256] else 233 :: fourM imm := by
          simp [bytesM, show shapeM 28 = 9 from rfl]
         rw [e]
         rcases hw with rfl | ⟨rfl, j0, j1⟩
         ·rw [if_neg (by decide), List.cons_append, dec_bare (by decide) (by decide)]
          simp only [dec1, rd4_four i0 i1]
          rfl
         ·rw [if_pos rfl, List.cons_append, dec_bare (by decide) (by decide)]
          have g : hd ([imm % 256] ++ t) = imm % 256 := rfl
          simp only [dec1, g, one_back j0 j1]
          rfl
        ·rename_i n9
         split at hs
         ·
          rename_i h10
          have hk := shape_10 k h10
          rw [hk] at h10 ⊢
          simp only [Bool.and_eq_true, decide_eq_true_eq, jumpM] at hs
          obtain ⟨⟨hw, rfl, rfl, rfl, rfl⟩, hc⟩ := hs
          simp only [ccM, decide_eq_true_eq] at hc
          have e : bytesM 29 w 0 0 0 0 imm cc = if w = 8 then [112 + cc, imm % 256] else 15 :: (128 + cc) :: fourM imm := by
           simp [bytesM, show shapeM 29 = 10 from rfl]
          rw [e]
          rcases hw with rfl | ⟨rfl, j0, j1⟩
          ·rw [if_neg (by decide), List.cons_append, List.cons_append, dec_bare (by decide) (by decide)]
           have g : hd ((128 + cc) :: (fourM imm ++ t)) = 128 + cc := rfl
           simp only [dec1, if_true, dec2, g, List.drop_one, List.tail_cons, rd4_four i0 i1]
           rw [if_neg (by omega), if_neg (by omega), if_pos (by omega)]
           congr 1
           omega
          ·rw [if_pos rfl, List.cons_append, dec_bare (by omega) (by omega)]
           have g : hd ([imm % 256] ++ t) = imm % 256 := rfl
           simp only [dec1, g, one_back j0 j1]
           rw [if_neg (by omega), if_neg (by omega), if_pos (by omega)]
           congr 1
           omega
         ·rename_i n10
          split at hs
          ·rename_i h11
           simp only [decide_eq_true_eq] at hs
           obtain ⟨rfl, rfl, rfl, rfl, rfl, rfl, rfl⟩ := hs
           rcases shape_11 k h11 with hk | hk <;> rw [hk]
           ·have e : bytesM 30 0 0 0 0 0 0 0 = [195] := rfl
            rw [e, List.cons_append, dec_bare (by decide) (by decide)]
            rfl
           ·have e : bytesM 31 0 0 0 0 0 0 0 = [15, 5] := rfl
            rw [e, List.cons_append, dec_bare (by decide) (by decide)]
            rfl
          ·cases hs
theorem fin16 {d : Int} (h0 : 0 ≤ d) (h1 : d ≤ 15) : ∃ n : Fin 16, d = (n.val : Int) := ⟨⟨d.toNat, by omega⟩, by simp; omega⟩
theorem need_or {r m : Int} (r0 : 0 ≤ r) (r1 : r ≤ 15) (m0 : 0 ≤ m) (m1 : m ≤ 15) : (IntKind.i8.wrap ((BitVec.ofInt 8 (IntKind.i8.wrap ((BitVec.ofInt 8 r ||| BitVec.ofInt 8 m).toNat : Int)) &&& BitVec.ofInt 8 8).toNat : Int) != 0) = decide (8 ≤ r ∨ 8 ≤ m) := by
 obtain ⟨n, rfl⟩ := fin16 r0 r1
 obtain ⟨k, rfl⟩ := fin16 m0 m1
 clear r0 r1 m0 m1
 revert n k
 decide +kernel
theorem reg_yes {r : Int} (r0 : 0 ≤ r) (r1 : r ≤ 15) : regM r = true := by simp [regM, r0, r1]
theorem rex_raw0 {r m : Int} (r0 : 0 ≤ r) (r1 : r ≤ 15) (m0 : 0 ≤ m) (m1 : m ≤ 15) : IntKind.u8.wrap ((BitVec.ofInt 8 (IntKind.u8.wrap ((BitVec.ofInt 8 64 ||| BitVec.ofInt 8 (4 * (r / 8))).toNat : Int)) ||| BitVec.ofInt 8 (m / 8)).toNat : Int) = rexB false r m := by
 obtain ⟨n, rfl⟩ := fin16 r0 r1
 obtain ⟨k, rfl⟩ := fin16 m0 m1
 clear r0 r1 m0 m1
 revert n k
 decide +kernel
theorem rex_raw1 {r m : Int} (r0 : 0 ≤ r) (r1 : r ≤ 15) (m0 : 0 ≤ m) (m1 : m ≤ 15) : IntKind.u8.wrap ((BitVec.ofInt 8 (IntKind.u8.wrap ((BitVec.ofInt 8 (IntKind.u8.wrap ((BitVec.ofInt 8 64 ||| BitVec.ofInt 8 (4 * (r / 8))).toNat : Int)) ||| BitVec.ofInt 8 (m / 8)).toNat : Int)) ||| BitVec.ofInt 8 8).toNat : Int) = rexB true r m := by
 obtain ⟨n, rfl⟩ := fin16 r0 r1
 obtain ⟨k, rfl⟩ := fin16 m0 m1
 clear r0 r1 m0 m1
 revert n k
 decide +kernel
theorem and7 (a : Int) : ((BitVec.ofInt 8 a &&& BitVec.ofInt 8 7).toNat : Int) = a % 8 := by have := and_ones 8 3 (by omega) a; exact this
theorem sib_t {b : Int} (h : decide (b % 8 = 4) = true) : (IntKind.i8.wrap ((BitVec.ofInt 8 b &&& BitVec.ofInt 8 7).toNat : Int) == 4) = true := by
 rw [and7, w_i8]; simp at h ⊢; omega
theorem sib_f {b : Int} (h : decide (b % 8 = 4) = false) : (IntKind.i8.wrap ((BitVec.ofInt 8 b &&& BitVec.ofInt 8 7).toNat : Int) == 4) = false := by
 rw [and7, w_i8]; simp at h ⊢; omega
theorem fd1 (a : Int) : a.fdiv 1 = a := by rw [Int.fdiv_eq_ediv_of_nonneg _ (by decide)]; omega
theorem fd256 (a : Int) : a.fdiv 256 = a / 256 := Int.fdiv_eq_ediv_of_nonneg _ (by decide)
theorem fd65536 (a : Int) : a.fdiv 65536 = a / 65536 := Int.fdiv_eq_ediv_of_nonneg _ (by decide)
theorem fd16777216 (a : Int) : a.fdiv 16777216 = a / 16777216 := Int.fdiv_eq_ediv_of_nonneg _ (by decide)
theorem or184 {r : Int} (r0 : 0 ≤ r) (r1 : r ≤ 15) : IntKind.u8.wrap ((BitVec.ofInt 8 184 ||| BitVec.ofInt 8 (IntKind.u8.wrap (IntKind.i8.wrap ((BitVec.ofInt 8 r &&& BitVec.ofInt 8 7).toNat : Int)))).toNat : Int) = 184 + r % 8 := by
 obtain ⟨n, rfl⟩ := fin16 r0 r1
 clear r0 r1
 revert n
 decide +kernel
theorem beq_dec (a b : Int) : (a == b) = decide (a = b) := by
 rw [Bool.eq_iff_iff]; simp
def lenX (op w dst src base disp imm cc : Int) : Int := ((bytesL op w dst src base disp imm cc).length : Nat)
theorem code_range_fin : ∀ n : Fin 32, (0 ≤ codeM (n.val : Int) ∧ codeM (n.val : Int) ≤ 255) ∧ 0 ≤ numM (n.val : Int) ∧ numM (n.val : Int) ≤ 7 := by decide +kernel
theorem code_range {op : Int} (h : shapeM op ≠ 0) : (0 ≤ codeM op ∧ codeM op ≤ 255) ∧ 0 ≤ numM op ∧ numM op ≤ 7 := by
 obtain ⟨n, rfl⟩ := op_fin h
 exact code_range_fin n
theorem mayS_cc {sh w dst src base disp imm cc : Int} (hs : mayS sh w dst src base disp imm cc = true) : 0 ≤ cc ∧ cc ≤ 15 := by
 unfold mayS at hs
 repeat' split at hs
 all_goals first | (cases hs; done) | (simp only [ccM, Bool.and_eq_true, decide_eq_true_eq] at hs; omega)
def A255 (l : List Int) : Prop := ∀ b ∈ l, 0 ≤ b ∧ b ≤ 255
theorem A255.nil : A255 [] := by intro b hb; cases hb
theorem A255.cons {x : Int} {l : List Int} (h0 : 0 ≤ x) (h1 : x ≤ 255) (h : A255 l) : A255 (x :: l) := by
 intro b hb
 rcases List.mem_cons.1 hb with e | hb
 ·subst e; exact ⟨h0, h1⟩
 ·exact h b hb
theorem A255.app {a b : List Int} (h : A255 a) (k : A255 b) : A255 (a ++ b) := fun x hx => (List.mem_append.1 hx).elim (h x) (k x)
theorem A255.ite {c : Prop} [Decidable c] {a b : List Int} (h : c → A255 a) (k : ¬ c → A255 b) : A255 (if c then a else b) := by
 split
 ·exact h ‹_›
 ·exact k ‹_›
theorem A255.four (n : Int) : A255 (fourM n) := by
 unfold fourM
 exact .cons (by omega) (by omega) (.cons (by omega) (by omega) (.cons (by omega) (by omega) (.cons (by omega) (by omega) .nil)))
theorem A255.rex {wd al : Bool} {r m : Int} (h1 : 0 ≤ r) (h2 : r ≤ 15) (h3 : 0 ≤ m) (h4 : m ≤ 15) : A255 (rexM wd r m al) := by
 unfold rexM
 refine .ite (fun _ => ?_) (fun _ => .nil)
 unfold rexB
 cases wd
 ·exact .cons (by simp; omega) (by simp; omega) .nil
 ·exact .cons (by simp; omega) (by simp; omega) .nil
theorem regs_range (r m : Int) : 0 ≤ regsM r m ∧ regsM r m ≤ 255 := by unfold regsM; omega
theorem A255.mem (r b n : Int) : A255 (memM r b n) := by
 unfold memM
 exact .ite (fun _ => .cons (by omega) (by omega) (.cons (by omega) (by omega) (.four n))) (fun _ => .cons (by omega) (by omega) (.four n))
theorem bytesM_range {op w dst src base disp imm cc : Int} (h : mayX op w dst src base disp imm cc = true) : A255 (bytesM op w dst src base disp imm cc) := by
 obtain ⟨⟨d0, d1, s0, s1, b0, b1, p0, p1, i0, i1⟩, hs⟩ := mayX_parts h
 have hsh : shapeM op ≠ 0 := by
  intro e
  rw [e] at hs
  simp [mayS] at hs
 obtain ⟨⟨c0, c1⟩, n0, n1⟩ := code_range hsh
 obtain ⟨k0, k1⟩ := mayS_cc hs
 have rg := fun r m => (regs_range r m).1
 have rg' := fun r m => (regs_range r m).2
 unfold bytesM
 refine .ite (fun _ => .app (.rex s0 s1 d0 d1) (.cons c0 c1 (.cons (rg _ _) (rg' _ _) .nil))) fun _ => ?_
 refine .ite (fun _ => .app (.rex d0 d1 s0 s1) (.cons (by omega) (by omega) (.cons c0 c1 (.cons (rg _ _) (rg' _ _) .nil)))) fun _ => ?_
 refine .ite (fun _ => .app (.rex d0 d1 s0 s1) (.cons (by omega) (by omega) (.cons (by omega) (by omega) (.cons (rg _ _) (rg' _ _) .nil)))) fun _ => ?_
 refine .ite (fun _ => .ite (fun _ => .app (.rex (by omega) (by omega) d0 d1) (.cons (by omega) (by omega) (.four _))) (fun _ => .app (.rex (by omega) (by omega) d0 d1) (.cons c0 c1 (.cons (rg _ _) (rg' _ _) (.four _))))) fun _ => ?_
 refine .ite (fun _ => .app (.rex (by omega) (by omega) d0 d1) (.cons c0 c1 (.cons (rg _ _) (rg' _ _) (.cons (by omega) (by omega) .nil)))) fun _ => ?_
 refine .ite (fun _ => .app (.rex (by omega) (by omega) d0 d1) (.cons c0 c1 (.cons (rg _ _) (rg' _ _) .nil))) fun _ => ?_
 refine .ite (fun _ => .app (.rex d0 d1 b0 b1) (.app (.ite (fun _ => .cons (by omega) (by omega) (.cons (by omega) (by omega) .nil)) fun _ => .ite (fun _ => .cons (by omega) (by omega) (.cons (by omega) (by omega) .nil)) fun _ => .cons (by omega) (by omega) .nil) (.mem _ _ _))) fun _ => ?_
 refine .ite (fun _ => .app (.ite (fun _ => .cons (by omega) (by omega) .nil) fun _ => .nil) (.app (.rex s0 s1 b0 b1) (.app (.ite (fun _ => .cons (by omega) (by omega) .nil) fun _ => .cons (by omega) (by omega) .nil) (.mem _ _ _)))) fun _ => ?_
 refine .ite (fun _ => .ite (fun _ => .cons (by omega) (by omega) (.cons (by omega) (by omega) .nil)) fun _ => .cons (by omega) (by omega) (.four _)) fun _ => ?_
 refine .ite (fun _ => .ite (fun _ => .cons (by omega) (by omega) (.cons (by omega) (by omega) .nil)) fun _ => .cons (by omega) (by omega) (.cons (by omega) (by omega) (.four _))) fun _ => ?_
 exact .ite (fun _ => .cons (by omega) (by omega) (.cons (by omega) (by omega) .nil)) fun _ => .cons (by omega) (by omega) .nil
theorem bD_inj : ∀ {a b : List Int}, (∀ x ∈ a, 0 ≤ x ∧ x ≤ 255) → (∀ x ∈ b, 0 ≤ x ∧ x ≤ 255) → (strD (bD a)).toList = (strD (bD b)).toList → a = b := by
 intro a b ha hb h
 have e : ∀ l : List Int, (strD (bD l)).toList = l.map fun n => UInt8.ofNat n.toNat := by
  intro l
  unfold strD
  rw [ByteArray.toList_eq]
  simp [bD, byteOf, Function.comp_def]
 rw [e, e] at h
 clear e
 induction a generalizing b with
 | nil => cases b with
  | nil => rfl
  | cons y b => simp at h
 | cons x a ih => cases b with
  | nil => simp at h
  | cons y b =>
   simp only [List.map_cons, List.cons.injEq] at h
   have h1 := ha x (by simp)
   have h2 := hb y (by simp)
   have : x = y := by
    have := congrArg UInt8.toNat h.1
    simp at this
    omega
   rw [this, ih (fun z hz => ha z (by simp [hz])) (fun z hz => hb z (by simp [hz])) h.2]
structure RawS where
  w : Int
  long : Bool
  code : Int
  r : Int
  m : Int
  disp : Int
  imm : Int
  small : Int
  near : Int
  jump : Int
  high : Int
def pkM (b : List Int) (i : Nat) : Int := b.getD i 0
def tlM (b : List Int) (i : Nat) : Int := if b.length < i + 4 then 0 else rd4 (b.drop i)
def mrN (b : List Int) : Nat :=
  match b with
  | [] => 0
  | a :: t =>
    if a / 64 = 3 then 1
    else if a / 64 = 2 then
      if a % 8 = 4 then (if 5 ≤ t.length ∧ hd t = 36 then 6 else 0) else (if 4 ≤ t.length then 5 else 0)
    else 0
def mrR (b : List Int) : Int := if mrN b = 0 then 0 else hd b / 8 % 8
def mrB (b : List Int) : Int := if mrN b = 0 then 0 else hd b % 8
def mrD (b : List Int) : Int := if mrN b ≤ 1 then 0 else rd4 (b.drop (mrN b - 4))
def mrE (b : List Int) : Int := if mrN b = 0 then 30 else 0
def parRest (w regs high : Int) (long : Bool) (code : Int) (v : List Int) : RawS :=
  ⟨w, long, code, mrR v + regs, mrB v + high, mrD v, tlM v (mrN v), pkM v (mrN v), tlM v 0, signed1 (pkM v 0), high⟩
def parCode (w regs high : Int) : List Int → Option RawS
  | [] => none
  | c :: v => if c = 15 then (match v with | [] => some (parRest w regs high false 15 []) | d :: z => some (parRest w regs high true d z)) else some (parRest w regs high false c v)
def rexQ (h : Int) : Bool := decide (h / 16 = 4 ∧ h / 2 % 2 = 0)
def parRex (w : Int) : List Int → Option RawS
  | [] => none
  | h :: u => if rexQ h then parCode (if h / 8 % 2 = 1 then 64 else w) (h / 4 % 2 * 8) (h % 2 * 8) u else parCode w 0 0 (h :: u)
def parM (b : List Int) : Option RawS := if hd b = 102 then parRex 16 (b.drop 1) else parRex 32 b
def asS (s : RawS) (op sh : Int) : XS :=
  if sh = 1 then ⟨op, s.w, s.m, s.r, 0, 0, 0, 0⟩
  else if sh = 2 then ⟨op, s.w, s.r, s.m, 0, 0, 0, 0⟩
  else if sh = 3 then (if op = 1 ∧ 184 ≤ s.code ∧ s.code < 192 then ⟨op, s.w, s.code % 8 + s.high, 0, 0, 0, s.near, 0⟩ else ⟨op, s.w, s.m, 0, 0, 0, s.imm, 0⟩)
  else if sh = 4 then ⟨op, s.w, s.m, 0, 0, 0, s.small, 0⟩
  else if sh = 5 then ⟨op, s.w, s.m, 0, 0, 0, 0, 0⟩
  else if sh = 6 then ⟨op, s.w, s.r, s.m, 0, 0, 0, signed1 (s.code - codeM op)⟩
  else if sh = 7 then ⟨op, if s.long then (if s.code % 2 = 1 then 16 else 8) else s.w, s.r, 0, s.m, s.disp, 0, 0⟩
  else if sh = 8 then ⟨op, if s.code = 136 then 8 else s.w, 0, s.r, s.m, s.disp, 0, 0⟩
  else if sh = 9 ∨ sh = 10 then
    (if s.long = false ∧ s.code ≠ 233 then ⟨op, 8, 0, 0, 0, 0, s.jump, if sh = 10 then s.code % 16 else 0⟩ else ⟨op, 32, 0, 0, 0, 0, s.near, if sh = 10 then s.code % 16 else 0⟩)
  else if sh = 11 then ⟨op, 0, 0, 0, 0, 0, 0, 0⟩
  else ⟨op, s.w, 0, 0, 0, 0, 0, 0⟩
def asM (s : RawS) (op : Int) : XS := asS s op (shapeM op)
theorem parRex_rex {wide al : Bool} {r m c w : Int} {t : List Int} (r0 : 0 ≤ r) (r1 : r ≤ 15) (m0 : 0 ≤ m) (m1 : m ≤ 15) (hc : ¬ (64 ≤ c ∧ c ≤ 79)) : parRex w (rexM wide r m al ++ c :: t) = parCode (if wide then 64 else w) (8 * (r / 8)) (8 * (m / 8)) (c :: t) := by
 unfold rexM
 split
 ·simp only [List.cons_append, List.nil_append, parRex]
  have hq : rexQ (rexB wide r m) = true := by
   simp only [rexQ, rexB, decide_eq_true_eq]
   cases wide <;> simp <;> omega
  rw [if_pos hq]
  have h1 : rexB wide r m / 4 % 2 * 8 = 8 * (r / 8) := by simp only [rexB]; cases wide <;> simp <;> omega
  have h2 : rexB wide r m % 2 * 8 = 8 * (m / 8) := by simp only [rexB]; cases wide <;> simp <;> omega
  have h3 : (if rexB wide r m / 8 % 2 = 1 then (64 : Int) else w) = if wide then 64 else w := by
   have h4 : rexB wide r m / 8 % 2 = if wide then 1 else 0 := by simp only [rexB]; cases wide <;> simp <;> omega
   rw [h4]
   cases wide <;> simp
  rw [h1, h2, h3]
 ·rename_i h
  simp only [needM, Bool.or_eq_true, decide_eq_true_eq, not_or, Bool.not_eq_true] at h
  have hq : ¬ rexQ c = true := by simp only [rexQ, decide_eq_true_eq]; omega
  have h1 : r / 8 = 0 := by omega
  have h2 : m / 8 = 0 := by omega
  simp only [List.nil_append, parRex, if_neg hq, h1, h2, h.1.1]
  simp
theorem par_rex {wide al : Bool} {r m c : Int} {t : List Int} (r0 : 0 ≤ r) (r1 : r ≤ 15) (m0 : 0 ≤ m) (m1 : m ≤ 15) (hc : ¬ (64 ≤ c ∧ c ≤ 79)) (h2 : c ≠ 102) : parM (rexM wide r m al ++ c :: t) = parCode (if wide then 64 else 32) (8 * (r / 8)) (8 * (m / 8)) (c :: t) := by
 unfold parM
 rw [if_neg (hd_rex r0 r1 m0 m1 h2), parRex_rex r0 r1 m0 m1 hc]
theorem par_half {wide al : Bool} {r m c : Int} {t : List Int} (r0 : 0 ≤ r) (r1 : r ≤ 15) (m0 : 0 ≤ m) (m1 : m ≤ 15) (hc : ¬ (64 ≤ c ∧ c ≤ 79)) : parM (102 :: (rexM wide r m al ++ c :: t)) = parCode (if wide then 64 else 16) (8 * (r / 8)) (8 * (m / 8)) (c :: t) := by
 unfold parM
 rw [if_pos (show hd (102 :: (rexM wide r m al ++ c :: t)) = 102 from rfl), List.drop_one, List.tail_cons, parRex_rex r0 r1 m0 m1 hc]
theorem par_bare {c : Int} {t : List Int} (hc : ¬ (64 ≤ c ∧ c ≤ 79)) (h2 : c ≠ 102) : parM (c :: t) = parCode 32 0 0 (c :: t) := by
 unfold parM
 have hq : ¬ rexQ c = true := by simp only [rexQ, decide_eq_true_eq]; omega
 rw [if_neg (by simpa [hd] using h2)]
 simp only [parRex, if_neg hq]
theorem parCode_c {w R M c : Int} {v : List Int} (hc : c ≠ 15) : parCode w R M (c :: v) = some (parRest w R M false c v) := by
 simp only [parCode, if_neg hc]
theorem parCode_15 {w R M d : Int} {z : List Int} : parCode w R M (15 :: d :: z) = some (parRest w R M true d z) := rfl
theorem mrN_reg {r m : Int} {t : List Int} (r0 : 0 ≤ r) (m0 : 0 ≤ m) : mrN (regsM r m :: t) = 1 := by
 simp only [mrN]
 rw [if_pos (by simp only [regsM]; omega)]
theorem mrR_reg {r m : Int} {t : List Int} (r0 : 0 ≤ r) (m0 : 0 ≤ m) : mrR (regsM r m :: t) = r % 8 := by
 simp only [mrR, mrN_reg r0 m0]
 rw [if_neg (by decide)]
 simp only [hd, List.headD_cons, regsM]
 omega
theorem mrB_reg {r m : Int} {t : List Int} (r0 : 0 ≤ r) (m0 : 0 ≤ m) : mrB (regsM r m :: t) = m % 8 := by
 simp only [mrB, mrN_reg r0 m0]
 rw [if_neg (by decide)]
 simp only [hd, List.headD_cons, regsM]
 omega
theorem mrN_mem {r b disp : Int} {t : List Int} : mrN (memM r b disp ++ t) = if b % 8 = 4 then 6 else 5 := by
 unfold memM
 split
 ·rename_i h
  simp only [List.cons_append, mrN]
  rw [if_neg (by omega), if_pos (by omega), if_pos (by omega), if_pos (by simp [fourM, hd])]
 ·rename_i h
  simp only [List.cons_append, mrN]
  rw [if_neg (by omega), if_pos (by omega), if_neg (by omega), if_pos (by simp [fourM])]
theorem mrR_mem {r b disp : Int} {t : List Int} : mrR (memM r b disp ++ t) = r % 8 := by
 simp only [mrR, mrN_mem, mem_hd]
 rw [if_neg (by split <;> decide)]
 omega
theorem mrB_mem {r b disp : Int} {t : List Int} : mrB (memM r b disp ++ t) = b % 8 := by
 simp only [mrB, mrN_mem, mem_hd]
 rw [if_neg (by split <;> decide)]
 omega
theorem mrD_mem {r b disp : Int} {t : List Int} (h0 : -2147483648 ≤ disp) (h1 : disp ≤ 2147483647) : mrD (memM r b disp ++ t) = disp := by
 simp only [mrD, mrN_mem]
 rw [if_neg (by split <;> decide)]
 unfold memM
 split
 ·simp only [List.cons_append, List.drop_succ_cons, List.drop_zero]
  exact rd4_four h0 h1
 ·simp only [List.cons_append, List.drop_succ_cons, List.drop_zero]
  exact rd4_four h0 h1
theorem tl_four {n : Int} {t : List Int} (h0 : -2147483648 ≤ n) (h1 : n ≤ 2147483647) : tlM (fourM n ++ t) 0 = n := by
 simp only [tlM, List.drop_zero]
 rw [if_neg (by simp [fourM]), rd4_four h0 h1]
theorem tl_four1 {x n : Int} {t : List Int} (h0 : -2147483648 ≤ n) (h1 : n ≤ 2147483647) : tlM (x :: (fourM n ++ t)) 1 = n := by
 simp only [tlM, List.drop_succ_cons, List.drop_zero]
 rw [if_neg (by simp [fourM]), rd4_four h0 h1]
theorem hi8 {r : Int} (r0 : 0 ≤ r) (r1 : r ≤ 15) : r % 8 + 8 * (r / 8) = r := by omega
theorem par_back {op w dst src base disp imm cc : Int} (h : mayX op w dst src base disp imm cc = true) (t : List Int) : ∃ s, parM (bytesM op w dst src base disp imm cc ++ t) = some s ∧ asM s op = ⟨op, w, dst, src, base, disp, imm, cc⟩ := by
 obtain ⟨⟨d0, d1, s0, s1, b0, b1, p0, p1, i0, i1⟩, hs⟩ := mayX_parts h
 have hsh : shapeM op ≠ 0 := by
  intro e
  rw [e] at hs
  simp [mayS] at hs
 obtain ⟨k, rfl⟩ := op_fin hsh
 unfold mayS at hs
 split at hs
 ·rename_i h12
  simp only [Bool.and_eq_true, decide_eq_true_eq] at hs
  obtain ⟨hw, rfl, rfl, rfl, rfl⟩ := hs
  have ew := w_back hw
  rcases h12 with h1 | h1
  ·
   obtain ⟨c1, c2, c3, c4, c5, c6, c7, c8, c9, c10, c11⟩ := code_pairs k h1
   have e : bytesM (k.val : Int) w dst src 0 0 0 0 = rexM (decide (w = 64)) src dst false ++ [codeM (k.val : Int), regsM src dst] := by simp only [bytesM, h1, if_true]
   rw [e, List.append_assoc, List.cons_append, List.cons_append, List.nil_append, par_rex s0 s1 d0 d1 c2 c3, parCode_c c1]
   refine ⟨_, rfl, ?_⟩
   simp only [asM, h1, asS, if_true, parRest, mrR_reg s0 d0, mrB_reg s0 d0, hi8 s0 s1, hi8 d0 d1, ew]
  ·
   have hk : (k.val : Int) = 16 := by
    have := shape_ops (op := (k.val : Int)) (by omega)
    revert h1
    rcases this with e | e | e | e | e | e | e | e | e | e | e | e | e | e | e | e | e | e | e | e | e | e | e | e | e | e | e | e | e | e | e | e <;> rw [e] <;> decide
   rw [hk]
   have e : bytesM 16 w dst src 0 0 0 0 = rexM (decide (w = 64)) dst src false ++ [15, 175, regsM dst src] := by
    simp only [bytesM, show shapeM 16 = 2 from rfl, show codeM 16 = 175 from rfl, if_true, show ¬ (2 : Int) = 1 by decide, if_false]
   rw [e, List.append_assoc, List.cons_append, List.cons_append, List.cons_append, List.nil_append, par_rex d0 d1 s0 s1 (by decide) (by decide), parCode_15]
   refine ⟨_, rfl, ?_⟩
   simp only [asM, show shapeM 16 = 2 from rfl, asS, if_true, show ¬ (2 : Int) = 1 by decide, if_false, parRest, mrR_reg d0 s0, mrB_reg d0 s0, hi8 s0 s1, hi8 d0 d1, ew]
 ·rename_i n12
  have n1 : ¬ shapeM (k.val : Int) = 1 := fun e => n12 (.inl e)
  have n2 : ¬ shapeM (k.val : Int) = 2 := fun e => n12 (.inr e)
  split at hs
  ·
   rename_i h3
   simp only [Bool.and_eq_true, decide_eq_true_eq] at hs
   obtain ⟨hw, rfl, rfl, rfl, rfl⟩ := hs
   have ew := w_back hw
   by_cases hm : (k.val : Int) = 1 ∧ w = 32
   ·obtain ⟨hm, rfl⟩ := hm
    have e : bytesM (k.val : Int) 32 dst 0 0 0 imm 0 = rexM false 0 dst false ++ ((184 + dst % 8) :: fourM imm) := by
     rw [hm]
     simp [bytesM, show shapeM 1 = 3 from rfl]
    rw [e, List.append_assoc, List.cons_append, par_rex (by omega) (by omega) d0 d1 (by omega) (by omega), parCode_c (by omega)]
    refine ⟨_, rfl, ?_⟩
    rw [hm]
    simp only [asM, show shapeM 1 = 3 from rfl, asS, show ¬ (3 : Int) = 1 by decide, show ¬ (3 : Int) = 2 by decide, if_false, if_true, parRest, tl_four i0 i1, true_and, Bool.false_eq_true]
    rw [if_pos (by omega)]
    congr 1
    omega
   ·obtain ⟨c1, c2, c3, c4, c5, c6, c7, c8, c9, c10, c11, c12, u0, u1⟩ := code_group k (.inl h3)
    have e : bytesM (k.val : Int) w dst 0 0 0 imm 0 = rexM (decide (w = 64)) 0 dst false ++ (codeM (k.val : Int) :: regsM (numM (k.val : Int)) dst :: fourM imm) := by
     simp only [bytesM, h3, if_neg hm, show ¬ (3 : Int) = 1 by decide, show ¬ (3 : Int) = 2 by decide, show ¬ (3 : Int) = 6 by decide, if_false, if_true]
    rw [e, List.append_assoc, List.cons_append, List.cons_append, par_rex (by omega) (by omega) d0 d1 c2 c3, parCode_c c1]
    refine ⟨_, rfl, ?_⟩
    have c4' : ¬ ((k.val : Int) = 1 ∧ 184 ≤ codeM (k.val : Int) ∧ codeM (k.val : Int) < 192) := by omega
    simp only [asM, h3, asS, show ¬ (3 : Int) = 1 by decide, show ¬ (3 : Int) = 2 by decide, if_false, if_true, parRest, if_neg c4', mrN_reg u0 d0, mrB_reg u0 d0, tl_four1 i0 i1, hi8 d0 d1, ew]
  ·rename_i n3
   split at hs
   ·
    rename_i h4
    simp only [Bool.and_eq_true, decide_eq_true_eq] at hs
    obtain ⟨hw, rfl, rfl, rfl, rfl, j0, j1⟩ := hs
    have ew := w_back hw
    have hw' := long_cases hw
    obtain ⟨c1, c2, c3, c4, c5, c6, c7, c8, c9, c10, c11, c12, u0, u1⟩ := code_group k (.inr (.inl h4))
    have e : bytesM (k.val : Int) w dst 0 0 0 imm 0 = rexM (decide (w = 64)) 0 dst false ++ [codeM (k.val : Int), regsM (numM (k.val : Int)) dst, imm % 256] := by
     simp only [bytesM, h4, show ¬ (4 : Int) = 1 by decide, show ¬ (4 : Int) = 2 by decide, show ¬ (4 : Int) = 6 by decide, show ¬ (4 : Int) = 3 by decide, if_false, if_true]
    rw [e, List.append_assoc, List.cons_append, List.cons_append, List.cons_append, List.nil_append, par_rex (by omega) (by omega) d0 d1 c2 c3, parCode_c c1]
    refine ⟨_, rfl, ?_⟩
    have g : pkM (regsM (numM (k.val : Int)) dst :: imm % 256 :: t) 1 = imm := by
     show imm % 256 = imm
     omega
    simp only [asM, h4, asS, show ¬ (4 : Int) = 1 by decide, show ¬ (4 : Int) = 2 by decide, show ¬ (4 : Int) = 3 by decide, if_false, if_true, parRest, mrN_reg u0 d0, mrB_reg u0 d0, g, hi8 d0 d1, ew]
   ·rename_i n4
    split at hs
    ·
     rename_i h5
     simp only [Bool.and_eq_true, decide_eq_true_eq] at hs
     obtain ⟨hw, rfl, rfl, rfl, rfl, rfl⟩ := hs
     have ew := w_back hw
     obtain ⟨c1, c2, c3, c4, c5, c6, c7, c8, c9, c10, c11, c12, u0, u1⟩ := code_group k (.inr (.inr h5))
     have e : bytesM (k.val : Int) w dst 0 0 0 0 0 = rexM (decide (w = 64)) 0 dst false ++ [codeM (k.val : Int), regsM (numM (k.val : Int)) dst] := by
      simp only [bytesM, h5, show ¬ (5 : Int) = 1 by decide, show ¬ (5 : Int) = 2 by decide, show ¬ (5 : Int) = 6 by decide, show ¬ (5 : Int) = 3 by decide, show ¬ (5 : Int) = 4 by decide, if_false, if_true]
     rw [e, List.append_assoc, List.cons_append, List.cons_append, List.nil_append, par_rex (by omega) (by omega) d0 d1 c2 c3, parCode_c c1]
     refine ⟨_, rfl, ?_⟩
     simp only [asM, h5, asS, show ¬ (5 : Int) = 1 by decide, show ¬ (5 : Int) = 2 by decide, show ¬ (5 : Int) = 3 by decide, show ¬ (5 : Int) = 4 by decide, if_false, if_true, parRest, mrB_reg u0 d0, hi8 d0 d1, ew]
    ·rename_i n5
     split at hs
     ·
      rename_i h6
      have hk := shape_6 k h6
      rw [hk] at h6 ⊢
      simp only [Bool.and_eq_true, decide_eq_true_eq] at hs
      obtain ⟨⟨hw, rfl, rfl, rfl⟩, hc⟩ := hs
      have ew := w_back hw
      simp only [ccM, decide_eq_true_eq] at hc
      have e : bytesM 25 w dst src 0 0 0 cc = rexM (decide (w = 64)) dst src false ++ [15, 64 + cc, regsM dst src] := by
       simp [bytesM, show shapeM 25 = 6 from rfl]
      rw [e, List.append_assoc, List.cons_append, List.cons_append, List.cons_append, List.nil_append, par_rex d0 d1 s0 s1 (by decide) (by decide), parCode_15]
      refine ⟨_, rfl, ?_⟩
      have g : signed1 (64 + cc - codeM 25) = cc := by
       show signed1 (64 + cc - 64) = cc
       simp only [signed1]
       omega
      simp only [asM, show shapeM 25 = 6 from rfl, asS, show ¬ (6 : Int) = 1 by decide, show ¬ (6 : Int) = 2 by decide, show ¬ (6 : Int) = 3 by decide, show ¬ (6 : Int) = 4 by decide, show ¬ (6 : Int) = 5 by decide, if_false, if_true, parRest, mrR_reg d0 s0, mrB_reg d0 s0, g, hi8 s0 s1, hi8 d0 d1, ew]
     ·rename_i n6
      split at hs
      ·
       rename_i h7
       have hk := shape_7 k h7
       rw [hk] at h7 ⊢
       simp only [Bool.and_eq_true, decide_eq_true_eq] at hs
       obtain ⟨hw, rfl, rfl, rfl⟩ := hs
       have e : bytesM 26 w dst 0 base disp 0 0 = rexM (decide (w = 64)) dst base false ++ ((if w = 8 then [15, 182] else if w = 16 then [15, 183] else [139]) ++ memM dst base disp) := by
        simp [bytesM, show shapeM 26 = 7 from rfl]
       rw [e]
       have fin7 : ∀ (lw R : Int) (long : Bool) (code : Int), (if long then (if code % 2 = 1 then (16 : Int) else 8) else R) = lw → asM (parRest R (8 * (dst / 8)) (8 * (base / 8)) long code (memM dst base disp ++ t)) 26 = ⟨26, lw, dst, 0, base, disp, 0, 0⟩ := by
        intro lw R long code hl
        simp only [asM, show shapeM 26 = 7 from rfl, asS, show ¬ (7 : Int) = 1 by decide, show ¬ (7 : Int) = 2 by decide, show ¬ (7 : Int) = 3 by decide, show ¬ (7 : Int) = 4 by decide, show ¬ (7 : Int) = 5 by decide, show ¬ (7 : Int) = 6 by decide, if_false, if_true, parRest, mrR_mem, mrB_mem, mrD_mem p0 p1, hi8 d0 d1, hi8 b0 b1, hl]
       rcases width_cases hw with rfl | rfl | rfl | rfl
       ·rw [if_pos rfl, List.append_assoc, List.append_assoc, List.cons_append, par_rex d0 d1 b0 b1 (by decide) (by decide), List.cons_append, List.nil_append, parCode_15]
        exact ⟨_, rfl, fin7 _ _ _ _ (by decide)⟩
       ·rw [if_neg (by decide), if_pos rfl, List.append_assoc, List.append_assoc, List.cons_append, par_rex d0 d1 b0 b1 (by decide) (by decide), List.cons_append, List.nil_append, parCode_15]
        exact ⟨_, rfl, fin7 _ _ _ _ (by decide)⟩
       ·rw [if_neg (by decide), if_neg (by decide), List.append_assoc, List.append_assoc, List.cons_append, List.nil_append, par_rex d0 d1 b0 b1 (by decide) (by decide), parCode_c (by decide)]
        exact ⟨_, rfl, fin7 _ _ _ _ (by decide)⟩
       ·rw [if_neg (by decide), if_neg (by decide), List.append_assoc, List.append_assoc, List.cons_append, List.nil_append, par_rex d0 d1 b0 b1 (by decide) (by decide), parCode_c (by decide)]
        exact ⟨_, rfl, fin7 _ _ _ _ (by decide)⟩
      ·rename_i n7
       split at hs
       ·
        rename_i h8
        have hk := shape_8 k h8
        rw [hk] at h8 ⊢
        simp only [Bool.and_eq_true, decide_eq_true_eq] at hs
        obtain ⟨hw, rfl, rfl, rfl⟩ := hs
        have e : bytesM 27 w 0 src base disp 0 0 = (if w = 16 then [102] else []) ++ (rexM (decide (w = 64)) src base (decide (w = 8)) ++ ((if w = 8 then [136] else [137]) ++ memM src base disp)) := by
         simp [bytesM, show shapeM 27 = 8 from rfl]
        rw [e]
        have fin8 : ∀ (lw R : Int) (code : Int), (if code = 136 then (8 : Int) else R) = lw → asM (parRest R (8 * (src / 8)) (8 * (base / 8)) false code (memM src base disp ++ t)) 27 = ⟨27, lw, 0, src, base, disp, 0, 0⟩ := by
         intro lw R code hl
         simp only [asM, show shapeM 27 = 8 from rfl, asS, show ¬ (8 : Int) = 1 by decide, show ¬ (8 : Int) = 2 by decide, show ¬ (8 : Int) = 3 by decide, show ¬ (8 : Int) = 4 by decide, show ¬ (8 : Int) = 5 by decide, show ¬ (8 : Int) = 6 by decide, show ¬ (8 : Int) = 7 by decide, if_false, if_true, parRest, mrR_mem, mrB_mem, mrD_mem p0 p1, hi8 s0 s1, hi8 b0 b1, hl]
        rcases width_cases hw with rfl | rfl | rfl | rfl
        ·rw [if_neg (by decide), if_pos rfl, List.nil_append, List.append_assoc, List.append_assoc, List.cons_append, List.nil_append, par_rex s0 s1 b0 b1 (by decide) (by decide), parCode_c (by decide)]
         exact ⟨_, rfl, fin8 _ _ _ (by decide)⟩
        ·rw [if_pos rfl, if_neg (by decide), List.append_assoc, List.append_assoc, List.append_assoc, List.cons_append, List.cons_append, List.nil_append, List.nil_append, par_half s0 s1 b0 b1 (by decide), parCode_c (by decide)]
         exact ⟨_, rfl, fin8 _ _ _ (by decide)⟩
        ·rw [if_neg (by decide), if_neg (by decide), List.nil_append, List.append_assoc, List.append_assoc, List.cons_append, List.nil_append, par_rex s0 s1 b0 b1 (by decide) (by decide), parCode_c (by decide)]
         exact ⟨_, rfl, fin8 _ _ _ (by decide)⟩
        ·rw [if_neg (by decide), if_neg (by decide), List.nil_append, List.append_assoc, List.append_assoc, List.cons_append, List.nil_append, par_rex s0 s1 b0 b1 (by decide) (by decide), parCode_c (by decide)]
         exact ⟨_, rfl, fin8 _ _ _ (by decide)⟩
       ·rename_i n8
        have k1 : ∀ {n : Int}, 9 ≤ n → ¬ n = 1 := fun h => by omega
        split at hs
        ·
         rename_i h9
         have hk := shape_9 k h9
         rw [hk] at h9 ⊢
         simp only [Bool.and_eq_true, decide_eq_true_eq, jumpM] at hs
         obtain ⟨hw, rfl, rfl, rfl, rfl, rfl⟩ := hs
         have e : bytesM 28 w 0 0 0 0 imm 0 = if w = 8 then [235, imm % 256] else 233 :: fourM imm := by
          simp [bytesM, show shapeM 28 = 9 from rfl]
         rw [e]
         rcases hw with rfl | ⟨rfl, j0, j1⟩
         ·rw [if_neg (by decide), List.cons_append, par_bare (by decide) (by decide), parCode_c (by decide)]
          refine ⟨_, rfl, ?_⟩
          simp [asM, show shapeM 28 = 9 from rfl, asS, parRest, tl_four i0 i1]
         ·rw [if_pos rfl, List.cons_append, par_bare (by decide) (by decide), parCode_c (by decide)]
          refine ⟨_, rfl, ?_⟩
          have g : signed1 (pkM ([imm % 256] ++ t) 0) = imm := one_back j0 j1
          simp [asM, show shapeM 28 = 9 from rfl, asS, parRest]
          exact g
        ·rename_i n9
         split at hs
         ·
          rename_i h10
          have hk := shape_10 k h10
          rw [hk] at h10 ⊢
          simp only [Bool.and_eq_true, decide_eq_true_eq, jumpM] at hs
          obtain ⟨⟨hw, rfl, rfl, rfl, rfl⟩, hc⟩ := hs
          simp only [ccM, decide_eq_true_eq] at hc
          have e : bytesM 29 w 0 0 0 0 imm cc = if w = 8 then [112 + cc, imm % 256] else 15 :: (128 + cc) :: fourM imm := by
           simp [bytesM, show shapeM 29 = 10 from rfl]
          rw [e]
          rcases hw with rfl | ⟨rfl, j0, j1⟩
          ·rw [if_neg (by decide), List.cons_append, List.cons_append, par_bare (by decide) (by decide), parCode_15]
           refine ⟨_, rfl, ?_⟩
           simp [asM, show shapeM 29 = 10 from rfl, asS, parRest, tl_four i0 i1]
           omega
          ·rw [if_pos rfl, List.cons_append, par_bare (by omega) (by omega), parCode_c (by omega)]
           refine ⟨_, rfl, ?_⟩
           have g : signed1 (pkM ([imm % 256] ++ t) 0) = imm := one_back j0 j1
           have g2 : ¬ 112 + cc = 233 := by omega
           simp only [asM, show shapeM 29 = 10 from rfl, asS, parRest, g]
           simp [g2]
           omega
         ·rename_i n10
          split at hs
          ·rename_i h11
           simp only [decide_eq_true_eq] at hs
           obtain ⟨rfl, rfl, rfl, rfl, rfl, rfl, rfl⟩ := hs
           rcases shape_11 k h11 with hk | hk <;> rw [hk]
           ·have e : bytesM 30 0 0 0 0 0 0 0 = [195] := rfl
            rw [e, List.cons_append, par_bare (by decide) (by decide), parCode_c (by decide)]
            exact ⟨_, rfl, rfl⟩
           ·have e : bytesM 31 0 0 0 0 0 0 0 = [15, 5] := rfl
            rw [e, List.cons_append, List.cons_append, par_bare (by decide) (by decide), parCode_15]
            exact ⟨_, rfl, rfl⟩
          ·cases hs
theorem fin256 {d : Int} (h0 : 0 ≤ d) (h1 : d ≤ 255) : ∃ n : Fin 256, d = (n.val : Int) := ⟨⟨d.toNat, by omega⟩, by simp; omega⟩
theorem fin8 {d : Int} (h0 : 0 ≤ d) (h1 : d ≤ 7) : ∃ n : Fin 8, d = (n.val : Int) := ⟨⟨d.toNat, by omega⟩, by simp; omega⟩
theorem or_nat (x y : Nat) (h : y < 256) : (x * 256) ||| y = x * 256 + y := by
 rw [show x * 256 = x <<< 8 by rw [Nat.shiftLeft_eq]]
 exact (Nat.shiftLeft_add_eq_or_of_lt (i := 8) h x).symm
theorem or_bv {x y : Int} (x0 : -36028797018963968 ≤ x) (x1 : x < 36028797018963968) (y0 : 0 ≤ y) (y1 : y < 256) : ((BitVec.ofInt 64 (x * 256) ||| BitVec.ofInt 64 y).toNat : Int) = (x * 256 + y) % 18446744073709551616 := by
 rw [BitVec.toNat_or, BitVec.toNat_ofInt, BitVec.toNat_ofInt]
 have hy : (y % ((2 ^ 64 : Nat) : Int)).toNat = y.toNat := by congr 1; omega
 have hx : ((x * 256) % ((2 ^ 64 : Nat) : Int)).toNat = (x % 72057594037927936).toNat * 256 := by omega
 rw [hx, hy, or_nat _ _ (by omega)]
 omega
theorem orb64 {x y : Int} (x0 : 0 ≤ x) (x1 : x < 36028797018963968) (y0 : 0 ≤ y) (y1 : y < 256) : IntKind.u64.wrap ((BitVec.ofInt 64 (IntKind.u64.wrap (x * 256)) ||| BitVec.ofInt 64 (IntKind.u64.wrap y)).toNat : Int) = x * 256 + y := by
 have e1 : IntKind.u64.wrap (x * 256) = x * 256 := by rw [w_u64]; omega
 have e2 : IntKind.u64.wrap y = y := by rw [w_u64]; omega
 rw [e1, e2, or_bv (by omega) x1 y0 y1, w_u64]
 omega
theorem orb64i {x y : Int} (x0 : -36028797018963968 ≤ x) (x1 : x < 36028797018963968) (y0 : 0 ≤ y) (y1 : y < 256) : IntKind.i64.wrap ((BitVec.ofInt 64 (IntKind.i64.wrap (x * 256)) ||| BitVec.ofInt 64 (IntKind.i64.wrap y)).toNat : Int) = x * 256 + y := by
 have e1 : IntKind.i64.wrap (x * 256) = x * 256 := by rw [w_i64]; omega
 have e2 : IntKind.i64.wrap y = y := by rw [w_i64]; omega
 rw [e1, e2, or_bv x0 x1 y0 y1, w_i64]
 omega
theorem orb64z {y : Int} (y0 : 0 ≤ y) (y1 : y < 256) : IntKind.u64.wrap ((BitVec.ofInt 64 0 ||| BitVec.ofInt 64 (IntKind.u64.wrap y)).toNat : Int) = y := by
 have := orb64 (x := 0) (y := y) (by omega) (by omega) y0 y1
 simpa [w_u64] using this
theorem or8 {x y : Int} (x0 : 0 ≤ x) (x1 : x ≤ 7) (hy : y = 0 ∨ y = 8) : IntKind.i8.wrap ((BitVec.ofInt 8 x ||| BitVec.ofInt 8 y).toNat : Int) = x + y := by
 obtain ⟨n, rfl⟩ := fin8 x0 x1
 clear x0 x1
 rcases hy with rfl | rfl <;> (revert n; decide +kernel)
def isB (l : List Int) : Prop := ∀ x ∈ l, 0 ≤ x ∧ x ≤ 255
theorem nilB : isB [] := fun _ h => by cases h
theorem isB_cons {a : Int} {l : List Int} : isB (a :: l) ↔ (0 ≤ a ∧ a ≤ 255) ∧ isB l := by simp [isB]
theorem len_bD (l : List Int) : (bD l).length = l.length := by simp [bD]
theorem get_bD {b : List Int} {i : Int} (h0 : 0 ≤ i) (h1 : i < ((bD b).length : Int)) : (bD b)[i.toNat]? = some (.int .u8 (pkM b i.toNat)) := by
 rw [len_bD] at h1
 simp only [bD, List.getElem?_map, pkM, List.getD_eq_getElem?_getD]
 have : i.toNat < b.length := by omega
 simp [this]
theorem pk_short {b : List Int} {i : Int} (h : ((bD b).length : Int) ≤ i) : pkM b i.toNat = 0 := by
 rw [len_bD] at h
 simp only [pkM, List.getD_eq_getElem?_getD]
 rw [List.getElem?_eq_none (by omega)]
 rfl
theorem fd64 (a : Int) : a.fdiv 64 = a / 64 := Int.fdiv_eq_ediv_of_nonneg _ (by decide)
theorem top3_t {v : Int} (h : v / 64 = 3) : (v.fdiv 64 == 3) = true := by rw [fd64, h]; rfl
theorem top3_f {v : Int} (h : v / 64 = 2) : (v.fdiv 64 == 3) = false := by rw [fd64, h]; rfl
theorem top3_f' {v : Int} (h : v / 64 < 2) : (v.fdiv 64 == 3) = false := by rw [fd64, beq_eq_false_iff_ne]; omega
theorem top2_t {v : Int} (h : v / 64 = 2) : (v.fdiv 64 == 2) = true := by rw [fd64, h]; rfl
theorem top2_f {v : Int} (h : v / 64 < 2) : (v.fdiv 64 == 2) = false := by rw [fd64, beq_eq_false_iff_ne]; omega
theorem low8 (v : Int) : IntKind.i8.wrap (IntKind.u8.wrap ((BitVec.ofInt 8 v &&& BitVec.ofInt 8 7).toNat : Int)) = v % 8 := by
 rw [BitVec.toNat_and, BitVec.toNat_ofInt, BitVec.toNat_ofInt]
 have e : (v % ((2 ^ 8 : Nat) : Int)).toNat &&& (7 % ((2 ^ 8 : Nat) : Int)).toNat = (v % 256).toNat % 8 := by
  have : (7 % ((2 ^ 8 : Nat) : Int)).toNat = 2 ^ 3 - 1 := by decide
  rw [this, Nat.and_two_pow_sub_one_eq_mod]
  rfl
 rw [e, w_u8, w_i8]
 omega
theorem mid8 {v : Int} (v0 : 0 ≤ v) (v1 : v ≤ 255) : IntKind.i8.wrap (IntKind.u8.wrap ((BitVec.ofInt 8 (v.fdiv 8) &&& BitVec.ofInt 8 7).toNat : Int)) = v / 8 % 8 := by
 rw [low8, Int.fdiv_eq_ediv_of_nonneg _ (by decide)]
theorem low4_t {v : Int} (h : v % 8 = 4) : (IntKind.i8.wrap (IntKind.u8.wrap ((BitVec.ofInt 8 v &&& BitVec.ofInt 8 7).toNat : Int)) == 4) = true := by rw [low8, h]; rfl
theorem low4_f {v : Int} (h : ¬ v % 8 = 4) : (IntKind.i8.wrap (IntKind.u8.wrap ((BitVec.ofInt 8 v &&& BitVec.ofInt 8 7).toNat : Int)) == 4) = false := by rw [low8, beq_eq_false_iff_ne]; exact h
def rawD (s : RawS) : D := .agg [.int .i8 s.w, .bool s.long, .int .u8 s.code, .int .i8 s.r, .int .i8 s.m, .int .i64 s.disp, .int .i64 s.imm, .int .i64 s.small, .int .i64 s.near, .int .i64 s.jump, .int .i8 s.high]
theorem pk_bound {v : List Int} (hv : isB v) (i : Nat) : 0 ≤ pkM v i ∧ pkM v i ≤ 255 := by
 simp only [pkM, List.getD_eq_getElem?_getD]
 cases e : v[i]? with
 | none => simp
 | some x => exact hv x (List.mem_of_getElem? e)
theorem hd_bound {v : List Int} (hv : isB v) : 0 ≤ hd v ∧ hd v ≤ 255 := by
 cases v with
 | nil => simp [hd]
 | cons a t => exact hv a (by simp)
theorem mrR_bound {v : List Int} (hv : isB v) : 0 ≤ mrR v ∧ mrR v ≤ 7 := by
 have := hd_bound hv
 unfold mrR
 split <;> omega
theorem mrB_bound {v : List Int} (hv : isB v) : 0 ≤ mrB v ∧ mrB v ≤ 7 := by
 have := hd_bound hv
 unfold mrB
 split <;> omega
theorem or8r {v : List Int} (hv : isB v) {y : Int} (hy : y = 0 ∨ y = 8) : IntKind.i8.wrap ((BitVec.ofInt 8 (mrR v) ||| BitVec.ofInt 8 y).toNat : Int) = mrR v + y := or8 (mrR_bound hv).1 (mrR_bound hv).2 hy
theorem or8b {v : List Int} (hv : isB v) {y : Int} (hy : y = 0 ∨ y = 8) : IntKind.i8.wrap ((BitVec.ofInt 8 (mrB v) ||| BitVec.ofInt 8 y).toNat : Int) = mrB v + y := or8 (mrB_bound hv).1 (mrB_bound hv).2 hy
theorem or8r4 {v : List Int} (hv : isB v) {h : Int} : IntKind.i8.wrap ((BitVec.ofInt 8 (mrR v) ||| BitVec.ofInt 8 (h / 4 % 2 * 8)).toNat : Int) = mrR v + h / 4 % 2 * 8 := or8r hv (by omega)
theorem or8b2 {v : List Int} (hv : isB v) {h : Int} : IntKind.i8.wrap ((BitVec.ofInt 8 (mrB v) ||| BitVec.ofInt 8 (h % 2 * 8)).toNat : Int) = mrB v + h % 2 * 8 := or8b hv (by omega)
theorem mrE_n' {v : List Int} (h : ¬ mrE v = 0) : mrN v = 0 := by
 unfold mrE at h
 split at h
 ·assumption
 ·simp at h
theorem w_small {v : List Int} (hv : isB v) (i : Nat) : IntKind.i64.wrap (pkM v i) = pkM v i := by
 have := pk_bound hv i
 rw [w_i64]; omega
theorem w_jump {v : List Int} (i : Nat) : IntKind.i64.wrap (IntKind.i8.wrap (pkM v i)) = signed1 (pkM v i) := by
 rw [w_i64, w_i8, signed1]; omega
def parF (w high : Int) : RawS := ⟨w, false, 0, 0, 0, 0, 0, 0, 0, 0, high⟩
theorem low_or {c h : Int} (c0 : 0 ≤ c) (c1 : c ≤ 255) (hh : h = 0 ∨ h = 8) : IntKind.i8.wrap ((BitVec.ofInt 8 (IntKind.i8.wrap (IntKind.u8.wrap ((BitVec.ofInt 8 c &&& BitVec.ofInt 8 7).toNat : Int))) ||| BitVec.ofInt 8 h).toNat : Int) = c % 8 + h := by
 rw [low8]
 exact or8 (by omega) (by omega) hh
theorem low15 {c : Int} (c0 : 0 ≤ c) (c1 : c ≤ 255) : IntKind.i8.wrap (IntKind.u8.wrap ((BitVec.ofInt 8 c &&& BitVec.ofInt 8 15).toNat : Int)) = c % 16 := by
 obtain ⟨n, rfl⟩ := fin256 c0 c1
 clear c0 c1
 revert n
 decide +kernel
theorem shl_one {c : Int} (c0 : 0 ≤ c) (c1 : c ≤ 255) : IntKind.i8.wrap (8 * 2 ^ (min (IntKind.u8.wrap ((BitVec.ofInt 8 c &&& BitVec.ofInt 8 1).toNat : Int)).toNat 8)) = if c % 2 = 1 then 16 else 8 := by
 obtain ⟨n, rfl⟩ := fin256 c0 c1
 clear c0 c1
 revert n
 decide +kernel
def u64 (n : Int) : Int := IntKind.u64.wrap n
def cutM (v w : Int) : Int := if w = 8 then v % 256 else if w = 16 then v % 65536 else if w = 32 then v % 4294967296 else v
def signM (v w : Int) : Int :=
  if w = 8 then u64 (IntKind.i8.wrap v) else if w = 16 then u64 (IntKind.i16.wrap v) else if w = 32 then u64 (IntKind.i32.wrap v) else v
def negM (v w : Int) : Bool := decide (IntKind.i64.wrap (signM v w) < 0)
def xor64 (a b : Int) : Int := u64 ((BitVec.ofInt 64 a ^^^ BitVec.ofInt 64 b).toNat : Int)
def and64u (a b : Int) : Int := u64 ((BitVec.ofInt 64 a &&& BitVec.ofInt 64 b).toNat : Int)
def or64u (a b : Int) : Int := u64 ((BitVec.ofInt 64 a ||| BitVec.ofInt 64 b).toNat : Int)
def fD (k c z s o : Bool) : D := .agg [.bool k, .bool c, .bool z, .bool s, .bool o]
def byM (b w : Int) : Int := and64u b (u64 (IntKind.i8.wrap (w - 1)))
def opM (op a b by' w : Int) : Int :=
  if op = 0 then u64 (a + b)
  else if op = 1 then u64 (a - b)
  else if op = 2 then u64 (a * b)
  else if op = 3 then (if b = 0 then 0 else u64 (a.tdiv b))
  else if op = 4 then or64u a b
  else if op = 5 then and64u a b
  else if op = 6 then u64 (a * 2 ^ (min by'.toNat 64))
  else if op = 7 then a.fdiv (2 ^ (min by'.toNat 64))
  else if op = 8 then u64 (0 - a)
  else if op = 9 then (if b = 0 then a else a.tmod b)
  else if op = 10 then xor64 a b
  else if op = 11 then b
  else u64 ((IntKind.i64.wrap (signM a w)).fdiv (2 ^ (min by'.toNat 64)))
def doM (op w a b : Int) : Int := cutM (opM op (cutM a w) (cutM b w) (byM (cutM b w) w) w) w
def rg (l : List Int) (i : Int) : Int := l.getD i.toNat 0
def st (j i v r : Int) : Int := if i = j then v else r
def putD (i v r0 r1 r2 r3 r4 r5 r6 r7 r8 r9 r10 r11 r12 r13 r14 r15 : Int) (tl : List D) : List D := .int .u64 (st 0 i v r0) :: .int .u64 (st 1 i v r1) :: .int .u64 (st 2 i v r2) :: .int .u64 (st 3 i v r3) :: .int .u64 (st 4 i v r4) :: .int .u64 (st 5 i v r5) :: .int .u64 (st 6 i v r6) :: .int .u64 (st 7 i v r7) :: .int .u64 (st 8 i v r8) :: .int .u64 (st 9 i v r9) :: .int .u64 (st 10 i v r10) :: .int .u64 (st 11 i v r11) :: .int .u64 (st 12 i v r12) :: .int .u64 (st 13 i v r13) :: .int .u64 (st 14 i v r14) :: .int .u64 (st 15 i v r15) :: tl
abbrev uu : D := .undef
abbrev PutsA (l : List D) (i : Nat) (xs l' : List D) : Prop := l.take i ++ (xs ++ l.drop (i + xs.length)) = l' ∧ i + xs.length ≤ l.length
abbrev GetsA (l : List D) (i n : Nat) (l' : List D) : Prop := (l.drop i).take n = l' ∧ i + n ≤ l.length
section
variable {r0 r1 r2 r3 r4 r5 r6 r7 r8 r9 r10 r11 r12 r13 r14 r15 i v : Int} {tl : List D}
end
end Go.Ev
