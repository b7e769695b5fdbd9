/- Contracts and plain laws that a statement's proof leans on (texts merged: EvQ, EvP). -/
import Derived.LoopN
import Derived.LoopNIn
import Derived.Scope
import Derived.RangeFuncRecord
import Derived.Test.YtglcgdnaanhddaaGreatN02
import Derived.Test.YtglcgdnaanhddaaGreatN03
set_option linter.unusedVariables false
set_option linter.unusedSimpArgs false
namespace Go.Ev
open Go Go.RowKit
theorem memN_iff {i : Nat} : ∀ {l : List Nat}, memN i l = true ↔ i ∈ l
 | [] => by simp [memN]
 | a :: r => by
  unfold memN
  split
  ·rename_i h; rw [Nat.beq_eq] at h; subst h; simp
  ·rename_i h
   rw [memN_iff]
   have : a ≠ i := fun e => by subst e; simp at h
   simp [Ne.symm this]
theorem MM.cut_mono {M M' : MM} (h : M.Le M') (n : Nat) : (M.cut n).Le (M'.cut n) := by
 refine ⟨h.cell, fun i b k => ?_, fun i v b k => ?_, h.mrk⟩
 ·simp only [MM.cut] at k ⊢
  split at k
  ·rename_i q; rw [if_pos q]; exact h.box _ _ k
  ·cases k
 ·simp only [MM.cut] at k ⊢
  split at k
  ·rename_i q; rw [if_pos q]; exact h.hist _ _ _ k
  ·cases k
theorem MM.cut_cut {M : MM} {n : Nat} : ((M.cut n).cut n) = M.cut n := by
 unfold MM.cut
 congr 1
 ·funext i; by_cases h : i < n <;> simp [h]
 ·funext i v; by_cases h : i < n <;> simp [h]
theorem MM.le_cut {M : MM} {n : Nat} (h : M.upto n) : M.Le (M.cut n) := by
 refine ⟨fun _ _ _ h => h, fun i b k => ?_, fun i v b k => ?_, fun _ h => h⟩
 ·simp only [MM.cut]
  split
  ·exact k
  ·rw [h.1 i (by omega)] at k; cases k
 ·simp only [MM.cut]
  split
  ·exact k
  ·rw [h.2 i v (by omega)] at k; cases k
theorem idsBL_eq (n : Nat) : ∀ l : List D, idsBL n l = l.all (idsB n)
 | [] => by simp [idsBL]
 | d :: r => by simp [idsBL, idsBL_eq n r]
theorem Rep.cut {M : MM} {d : D} {v : Value} (h : Rep M d v) : ∀ {n : Nat}, idsB n d = true → Rep (M.cut n) d v := by
 induction h with
 | undef v => exact fun _ => .undef v
 | int k n => exact fun _ => .int k n
 | bool b => exact fun _ => .bool b
 | str s => exact fun _ => .str s
 | nilp => exact fun _ => .nilp
 | ptr q h => intro n c; simp only [idsB, Nat.blt_eq] at c; exact .ptr q (by simp only [MM.cut, c, if_true]; exact h)
 | eptr q vs hx hc hr ih => intro n c; exact .eptr q vs hx hc hr
 | mapp h => intro n c; simp only [idsB, Nat.blt_eq] at c; exact .mapp (by simp only [MM.cut, c, if_true]; exact h)
 | yld h => intro n c; simp only [idsB, Nat.blt_eq] at c; exact .yld (by simp only [MM.cut, c, if_true]; exact h)
 | slc h hh hc => intro n c; simp only [idsB, Nat.blt_eq] at c; exact .slc (by simp only [MM.cut, c, if_true]; exact h) (by simp only [MM.cut, c, if_true]; exact hh) hc
 | sub h hc hp ho => intro n c; simp only [idsB, Nat.blt_eq] at c; exact .sub (by simp only [MM.cut, c, if_true]; exact h) hc hp ho
 | lst b off vs hl hcap ha hsz hc hr hst ho ih =>
  intro n c
  refine .lst b off vs hl hcap ha hsz hc hr hst ?_
  rename_i M o _ _ _ _ _
  cases o with
  | tok t v => simp only [idsB, Nat.blt_eq] at c; simp only [MM.owns, MM.cut, c, if_true]; exact ho
  | no => trivial
  | fresh k => trivial
  | tight => exact ho
 | nilf => exact fun _ => .nilf
 | fn h1 h2 r1 r2 i1 i2 =>
  intro n c
  rw [idsB, idsBL_eq, idsBL_eq, Bool.and_eq_true, List.all_eq_true, List.all_eq_true] at c
  exact .fn h1 h2 (fun i d v a b => i1 i d v a b (c.1 _ (List.mem_of_getElem? a))) (fun i d v a b => i2 i d v a b (c.2 _ (List.mem_of_getElem? a)))
 | agg h r ih =>
  intro n c
  rw [idsB, idsBL_eq, List.all_eq_true] at c
  exact .agg h (fun i d v a b => ih i d v a b (c _ (List.mem_of_getElem? a)))
 | tup h r ih =>
  intro n c
  rw [idsB, idsBL_eq, List.all_eq_true] at c
  exact .tup h (fun i d v a b => ih i d v a b (c _ (List.mem_of_getElem? a)))
theorem growc_out {s : List Ob} {size id : Nat} {d d' : D} {o : Option Nat} {ob : Ob} (h : growc s size id d = some (d', o, ob)) :
  (∃ fl sz xs, d = .lst fl sz xs ∧ d' = .lst (.tok id 0) size xs ∧ ob = .fam 0 size ∧ (sz = size ∨ xs = []) ∧ ((fl = .tight ∧ o = none) ∨ ∃ i v, fl = .tok i v ∧ o = some i ∧ s.getD i .dead = .fam v size)) ∨
  (∃ i n cs, d = .slc i size n ∧ d' = .slc id size n ∧ o = some i ∧ s.getD i .dead = .box cs ∧ ob = .box (cs.map D.demote)) := by
 unfold growc at h
 split at h
 ·rename_i sz xs
  split at h
  ·rename_i hk
   simp only [Option.some.injEq, Prod.mk.injEq] at h
   obtain ⟨rfl, rfl, rfl⟩ := h
   simp only [okSz, Bool.or_eq_true, Nat.beq_eq, List.isEmpty_iff] at hk
   exact .inl ⟨_, sz, xs, rfl, rfl, rfl, hk, .inl ⟨rfl, rfl⟩⟩
  ·cases h
 ·rename_i i v sz xs
  split at h
  ·rename_i v' sz2 hs
   split at h
   ·rename_i hk
    simp only [Option.some.injEq, Prod.mk.injEq] at h
    obtain ⟨rfl, rfl, rfl⟩ := h
    simp only [okSz, Bool.or_eq_true, Bool.and_eq_true, Nat.beq_eq, List.isEmpty_iff] at hk
    obtain ⟨rfl, rfl, hk⟩ := hk
    exact .inl ⟨_, sz, xs, rfl, rfl, rfl, hk, .inr ⟨i, v', rfl, rfl, hs⟩⟩
   ·cases h
  ·cases h
 ·rename_i i sz n
  split at h
  ·rename_i cs hs
   split at h
   ·rename_i hk
    rw [Nat.beq_eq] at hk
    subst hk
    simp only [Option.some.injEq, Prod.mk.injEq] at h
    obtain ⟨rfl, rfl, rfl⟩ := h
    exact .inr ⟨i, n, cs, rfl, rfl, rfl, hs, rfl⟩
   ·cases h
  ·cases h
 ·cases h
theorem growL_out {t : List D} {s : List Ob} : ∀ {fs : List (Nat × Nat)} {id : Nat} {used : List (Option Nat)} {new : List Ob}, growL t s fs id = some (used, new) →
  (used.length = fs.length ∧ new.length = fs.length) ∧ ∀ (j k size : Nat), fs[j]? = some (k, size) → ∃ d' o ob, growc s size (id + j) (rootD t s k) = some (d', o, ob) ∧ used[j]? = some o ∧ new[j]? = some ob
 | [], id, used, new, h => by
  simp only [growL, Option.some.injEq, Prod.mk.injEq] at h
  obtain ⟨rfl, rfl⟩ := h
  exact ⟨⟨rfl, rfl⟩, fun j k size h => by simp at h⟩
 | (k, size) :: r, id, used, new, h => by
  simp only [growL] at h
  split at h
  ·rename_i d' o ob l obs h1 h2
   simp only [Option.some.injEq, Prod.mk.injEq] at h
   obtain ⟨rfl, rfl⟩ := h
   obtain ⟨k1, k2⟩ := growL_out h2
   refine ⟨by simp [k1.1, k1.2], fun j k' size' hj => ?_⟩
   cases j with
   | zero =>
    simp only [List.getElem?_cons_zero, Option.some.injEq, Prod.mk.injEq] at hj
    obtain ⟨rfl, rfl⟩ := hj
    exact ⟨d', o, ob, h1, rfl, rfl⟩
   | succ j =>
    simp only [List.getElem?_cons_succ] at hj
    obtain ⟨d2, o2, ob2, q1, q2, q3⟩ := k2 j k' size' hj
    exact ⟨d2, o2, ob2, by rw [show id + (j + 1) = id + 1 + j by omega]; exact q1, by simpa using q2, by simpa using q3⟩
  ·cases h
theorem findF_out {i : Nat} : ∀ {fs : List (Nat × Nat)} {id id' size : Nat}, findF i fs id = some (id', size) → ∃ j, id' = id + j ∧ fs[j]? = some (i, size)
 | [], id, id', size, h => by simp [findF] at h
 | (k, sz) :: r, id, id', size, h => by
  simp only [findF] at h
  split at h
  ·rename_i hk
   rw [Nat.beq_eq] at hk
   simp only [Option.some.injEq, Prod.mk.injEq] at h
   obtain ⟨rfl, rfl⟩ := h
   exact ⟨0, rfl, by simp [hk]⟩
  ·obtain ⟨j, h1, h2⟩ := findF_out h
   exact ⟨j + 1, by omega, by simpa using h2⟩
theorem findS_out {i : Nat} {fs : List (Nat × Nat)} {n0 id size : Nat} (h : findS i fs n0 = some (id, size)) : i < cellK ∧ findF i fs n0 = some (id, size) := by
 unfold findS at h
 split at h
 ·cases h
 ·rename_i hb
  refine ⟨?_, h⟩
  rcases Nat.lt_or_ge i cellK with q | q
  ·exact q
  ·rw [Nat.ble_eq_true_of_le q] at hb; cases hb
theorem findC_out {i j : Nat} {fs : List (Nat × Nat)} {n0 id size : Nat} (h : findC i j fs n0 = some (id, size)) : j < 1000 ∧ findF (cellK + i * 1000 + j) fs n0 = some (id, size) := by
 unfold findC at h
 split at h
 ·rename_i hb
  exact ⟨by rw [Nat.blt_eq] at hb; exact hb, h⟩
 ·cases h
theorem slotsc_out {sp : HS} {n0 : Nat} {s : List Ob} : ∀ {t : List D} {i : Nat} {t' : List D}, slotsc sp n0 s i t = some t' →
  t'.length = t.length ∧ ∀ k d d', t[k]? = some d → t'[k]? = some d' → slotc sp n0 s (i + k) d = some d'
 | [], i, t', h => by
  simp only [slotsc, Option.some.injEq] at h
  subst h
  exact ⟨rfl, fun k d d' h => by simp at h⟩
 | d :: r, i, t', h => by
  simp only [slotsc] at h
  split at h
  ·rename_i d1 l h1 h2
   obtain rfl := Option.some.inj h
   obtain ⟨k1, k2⟩ := slotsc_out h2
   refine ⟨by simp [k1], fun k d2 d3 a b => ?_⟩
   cases k with
   | zero => simp at a b; subst a b; exact h1
   | succ k =>
    simp at a b
    rw [show i + (k + 1) = i + 1 + k by omega]
    exact k2 k d2 d3 a b
  ·cases h
theorem cellsc_out {sp : HS} {n0 : Nat} {s : List Ob} {i : Nat} : ∀ {cs : List D} {j : Nat} {cs' : List D}, cellsc sp n0 s i j cs = some cs' →
  cs'.length = cs.length ∧ ∀ (k : Nat) (d d' : D), cs[k]? = some d → cs'[k]? = some d' → (∃ id size o ob, findC i (j + k) sp.fams n0 = some (id, size) ∧ growc s size id d = some (d', o, ob)) ∨ (idsB n0 d = true ∧ d' = d)
 | [], j, cs', h => by
  simp only [cellsc, Option.some.injEq] at h
  subst h
  exact ⟨rfl, fun k d d' h => by simp at h⟩
 | a :: r, j, cs', h => by
  rw [cellsc] at h
  split at h
  ·rename_i d1 l h1 h2
   obtain rfl := Option.some.inj h
   obtain ⟨k1, k2⟩ := cellsc_out h2
   refine ⟨by simp [k1], fun k d d' p q => ?_⟩
   cases k with
   | zero =>
    simp at p q
    subst p q
    split at h1
    ·rename_i id size hf
     split at h1
     ·rename_i d2 o hg
      obtain rfl := Option.some.inj h1
      exact .inl ⟨id, size, o.1, o.2, hf, hg⟩
     ·cases h1
    ·split at h1
     ·rename_i hids
      exact .inr ⟨hids, (Option.some.inj h1).symm⟩
     ·cases h1
   | succ k =>
    simp at p q
    rw [show j + (k + 1) = j + 1 + k by omega]
    exact k2 k d d' p q
  ·cases h
theorem obsc_out {sp : HS} {n0 : Nat} {s0 : List Ob} {used : List (Option Nat)} {new : List Ob} : ∀ {n i : Nat} {s s' : List Ob}, obsc sp n0 s0 used new n i s = some s' →
  ∃ l, s' = l ++ new ∧ l.length = n ∧ ∀ k o, l[k]? = some o → ∃ o0, s[k]? = some o0 ∧ obc sp n0 s0 used (i + k) o0 = some o
 | 0, i, s, s', h => by
  simp only [obsc, Option.some.injEq] at h
  exact ⟨[], by simp [h], rfl, fun k o h => by simp at h⟩
 | n + 1, i, [], s', h => by simp [obsc] at h
 | n + 1, i, o :: r, s', h => by
  simp only [obsc] at h
  split at h
  ·rename_i o' l h1 h2
   obtain rfl := Option.some.inj h
   obtain ⟨l', rfl, k2, k3⟩ := obsc_out h2
   refine ⟨o' :: l', rfl, by simp [k2], fun k o2 hk => ?_⟩
   cases k with
   | zero => simp at hk; subst hk; exact ⟨o, rfl, h1⟩
   | succ k =>
    simp at hk
    obtain ⟨o0, q1, q2⟩ := k3 k o2 hk
    exact ⟨o0, by simpa using q1, by rw [show i + (k + 1) = i + 1 + k by omega]; exact q2⟩
  ·cases h
theorem hasO_iff {i : Nat} : ∀ {l : List (Option Nat)}, hasO i l = true ↔ some i ∈ l
 | [] => by simp [hasO]
 | none :: r => by simp [hasO, hasO_iff]
 | some a :: r => by
  unfold hasO
  split
  ·rename_i h; rw [Nat.beq_eq] at h; subst h; simp
  ·rename_i h
   rw [hasO_iff]
   have : a ≠ i := fun e => by subst e; simp at h
   simp [Ne.symm this]
def placeO (i : Nat) : List (Option Nat) → Nat → Option Nat
  | [], _ => none
  | none :: r, id => placeO i r (id + 1)
  | some a :: r, id => if a = i then some id else placeO i r (id + 1)
theorem placeO_none {i : Nat} : ∀ {l : List (Option Nat)} {id : Nat}, some i ∉ l → placeO i l id = none
 | [], id, _ => rfl
 | none :: r, id, h => by simp only [placeO]; exact placeO_none (by simpa using h)
 | some a :: r, id, h => by
  simp only [List.mem_cons, Option.some.injEq, not_or] at h
  simp only [placeO, if_neg (Ne.symm h.1)]
  exact placeO_none h.2
theorem placeO_at {i : Nat} : ∀ {l : List (Option Nat)} {id j : Nat}, distO l = true → l[j]? = some (some i) → placeO i l id = some (id + j)
 | [], id, j, _, h => by simp at h
 | none :: r, id, j, hd, h => by
  simp only [distO] at hd
  simp only [placeO]
  cases j with
  | zero => simp at h
  | succ j => rw [show id + (j + 1) = id + 1 + j by omega]; exact placeO_at hd (by simpa using h)
 | some a :: r, id, j, hd, h => by
  simp only [distO, Bool.and_eq_true, Bool.not_eq_true'] at hd
  simp only [placeO]
  cases j with
  | zero => simp at h; simp [h]
  | succ j =>
   have hm : some i ∈ r := List.mem_of_getElem? (by simpa using h)
   have : a ≠ i := fun e => by subst e; rw [hasO_iff.2 hm] at hd; simp at hd
   rw [if_neg this, show id + (j + 1) = id + 1 + j by omega]
   exact placeO_at hd.2 (by simpa using h)
def headOK (sp : HS) (t : List D) (s : List Ob) : Prop := ∀ cs ∈ headBs sp t s, ∀ c ∈ cs, c.clean = true
theorem headB1_mem {s : List Ob} {i : Nat} {cs : List D} (h : s.getD i .dead = .box cs) : ∀ {l : List Nat}, memN (cellK + i) l = true → cs ∈ headB1 s l
 | [], h1 => by simp [memN] at h1
 | o :: r, h1 => by
  rw [memN_iff] at h1
  rcases List.mem_cons.1 h1 with e | e
  ·rw [headB1, ← e, show Nat.ble cellK (cellK + i) = true by rw [Nat.ble_eq]; omega]
   simp only []
   rw [show cellK + i - cellK = i by omega, boxAt, h]
   simp
  ·rw [headB1]
   split
   ·exact List.mem_append_right _ (headB1_mem h (memN_iff.2 e))
   ·exact headB1_mem h (memN_iff.2 e)
theorem headB2_mem {t : List D} {s : List Ob} {k size i sz n : Nat} {cs : List D} (hr : rootD t s k = .slc i sz n) (h : s.getD i .dead = .box cs) : ∀ {l : List (Nat × Nat)} {j : Nat}, l[j]? = some (k, size) → cs ∈ headB2 t s l
 | [], j, h1 => by simp at h1
 | (k', z) :: r, j, h1 => by
  rw [headB2]
  cases j with
  | zero =>
   simp only [List.getElem?_cons_zero, Option.some.injEq, Prod.mk.injEq] at h1
   obtain ⟨rfl, rfl⟩ := h1
   rw [hr]
   simp only [boxAt, h]
   simp
  | succ j => exact List.mem_append_right _ (headB2_mem hr h (by simpa using h1))
theorem obc_out {sp : HS} {n0 : Nat} {s : List Ob} {used : List (Option Nat)} {i : Nat} {o0 o : Ob} (h : obc sp n0 s used i o0 = some o) (hd : o ≠ .dead) : some i ∉ used ∧
  ((∃ cs, o0 = .box cs ∧ o = .box (cs.map D.demote) ∧ memN (cellK + i) sp.obs = true) ∨ (∃ cs, o0 = .box cs ∧ o = .box cs ∧ idsBL n0 cs = true) ∨ (∃ cs cs', o0 = .box cs ∧ o = .box cs' ∧ cellsc sp n0 s i 0 cs = some cs') ∨
   (∃ k t ps ag bd, o0 = .lp k t ps ag bd ∧ o = .lp k t ps ag bd ∧ idsBL n0 t = true) ∨ (o = o0 ∧ (∀ cs, o ≠ .box cs) ∧ ∀ k t ps ag bd, o ≠ .lp k t ps ag bd)) := by
 have nu : ∀ {b : Bool}, (b && !hasO i used) = true → some i ∉ used := fun {b} hk hm => by
  simp only [Bool.and_eq_true, Bool.not_eq_true'] at hk
  rw [hasO_iff.2 hm] at hk
  simp at hk
 unfold obc at h
 split at h
 ·rename_i hk
  refine ⟨nu hk, ?_⟩
  split at h
  ·rename_i cs
   simp only [Bool.and_eq_true] at hk
   exact .inl ⟨cs, rfl, (Option.some.inj h).symm, hk.1⟩
  ·cases h
 ·split at h
  ·exact absurd (Option.some.inj h).symm hd
  ·rename_i hk
   refine ⟨nu hk, ?_⟩
   split at h
   ·rename_i cs
    split at h
    ·rename_i cs' hc
     exact .inr (.inr (.inl ⟨cs, cs', rfl, (Option.some.inj h).symm, hc⟩))
    ·cases h
   ·rename_i k t ps ag bd
    split at h
    ·rename_i hids
     exact .inr (.inr (.inr (.inl ⟨k, t, ps, ag, bd, rfl, (Option.some.inj h).symm, hids⟩)))
    ·cases h
   ·rename_i h1 h2
    obtain rfl := Option.some.inj h
    exact .inr (.inr (.inr (.inr ⟨rfl, h1, h2⟩)))
theorem headc_out {sp : HS} {n0 : Nat} {t t' : List D} {s s' : List Ob} (h : headc sp n0 t s = some (t', s')) (hcl : headOK sp t s) :
  (n0 ≤ s'.length ∧ s'.length = n0 + sp.fams.length) ∧ ∀ {w0 : Base} {M : MM} {own : Nat → Option Nat} {w : World} {tmps : Array Value}, n0 ≤ s.length → WRel w0 M own (stAt s) w → M.upto s.length → RepL M t tmps →
   ∃ M' own', WRel w0 M' own' (stAt s') w ∧ M'.upto s'.length ∧ (M.cut n0).Le M' ∧ RepL M' t' tmps := by
 unfold headc at h
 split at h
 ·rename_i used new hu
  split at h
  ·rename_i hdist
   split at h
   ·rename_i t1 s1 ht hs
    simp only [Option.some.injEq, Prod.mk.injEq] at h
    obtain ⟨rfl, rfl⟩ := h
    obtain ⟨l, rfl, hl, hob⟩ := obsc_out hs
    obtain ⟨ht1, hslot⟩ := slotsc_out ht
    obtain ⟨⟨hu1, hu2⟩, hgrow⟩ := growL_out hu
    have hlen : (l ++ new).length = n0 + sp.fams.length := by simp [hl, hu2]
    refine ⟨⟨by omega, hlen⟩, ?_⟩
    intro w0 M own w tmps hn hw hup hrep
    let rv : Nat → Value := fun k => match Nat.ble cellK k with
     | false => tmps.getD k undef
     | true => match M.box ((k - cellK) / 1000) with
      | some b => (w.cell? ⟨b, (k - cellK) % 1000, none⟩).getD undef
      | none => undef
    have hrv : ∀ k, rootD t s k ≠ .undef → Rep M (rootD t s k) (rv k) := by
     intro k hne
     cases hb : Nat.ble cellK k with
     | false =>
      simp only [rootD, rv, hb]
      exact repL_getD hrep k
     | true =>
      simp only [rootD, rv, hb] at hne ⊢
      split at hne
      ·rename_i cs hcs
       obtain ⟨b, vs, ty, kb⟩ := hw.box _ cs hcs
       have hc : ∃ d, cs[(k - cellK) % 1000]? = some d := by
        cases e : cs[(k - cellK) % 1000]? with
        | none => rw [List.getD_eq_getElem?_getD, e] at hne; exact absurd rfl hne
        | some d => exact ⟨d, rfl⟩
       obtain ⟨d, hd⟩ := hc
       obtain ⟨u, h1, h2⟩ := repLe_get kb.len kb.rep hd
       rw [kb.box, List.getD_eq_getElem?_getD, hd]
       simp only [World.cell?, kb.blk, h1]
       exact h2
      ·exact absurd rfl hne
    let bxN : Nat → Option Nat := fun j => match sp.fams[j]? with
     | some (k, _) => (match rootD t s k with | .slc i _ _ => M.box i | _ => none)
     | none => none
    let hdr : Nat → Nat → Option Value := fun j v => match sp.fams[j]? with
     | some (k, size) => (match rootD t s k with | .slc _ _ _ => (if v = size then some (rv k) else none) | _ => (if v = 0 then some (rv k) else none))
     | none => none
    let M' : MM := ⟨M.cell, fun i => if i < n0 then M.box i else bxN (i - n0), fun i v => if i < n0 then M.hist i v else hdr (i - n0) v, M.mrk⟩
    let ren : Nat → Option Nat := fun i => match placeO i used n0 with | some k => some k | none => if i < n0 then some i else none
    let own' : Nat → Option Nat := fun b => (own b).bind ren
    have hle : (M.cut n0).Le M' := by
     refine ⟨fun _ _ _ h => h, fun i b k => ?_, fun i v b k => ?_, fun _ h => h⟩
     ·simp only [MM.cut] at k
      split at k
      ·rename_i q; simp only [M', if_pos q]; exact k
      ·cases k
     ·simp only [MM.cut] at k
      split at k
      ·rename_i q; simp only [M', if_pos q]; exact k
      ·cases k
    have root : ∀ (j k size : Nat), sp.fams[j]? = some (k, size) →
      (∃ fl sz xs a len cap o, rootD t s k = .lst fl sz xs ∧ rv k = .slice a len cap ∧ used[j]? = some o ∧ new[j]? = some (.fam 0 size) ∧ (sz = size ∨ xs = []) ∧ Rep M (.lst fl sz xs) (.slice a len cap) ∧ ((fl = .tight ∧ o = none) ∨ ∃ i v, fl = .tok i v ∧ o = some i ∧ s.getD i .dead = .fam v size)) ∨
      (∃ i n cs b cap, rootD t s k = .slc i size n ∧ rv k = .slice (some ⟨b, 0, none⟩) n cap ∧ used[j]? = some (some i) ∧ new[j]? = some (.box (cs.map D.demote)) ∧ s.getD i .dead = .box cs ∧ M.box i = some b ∧ M.hist i size = some (.slice (some ⟨b, 0, none⟩) n cap) ∧ n ≤ cap ∧ ∀ c ∈ cs, c.clean = true) := by
     intro j k size hj
     obtain ⟨d', o, ob, h1, h2, h3⟩ := hgrow j k size hj
     rcases growc_out h1 with ⟨fl, sz, xs, q1, q2, rfl, q3, q4⟩ | ⟨i, n, cs, q1, q2, rfl, q3, rfl⟩
     ·have hr := hrv k (by rw [q1]; simp)
      rw [q1] at hr
      generalize hv : rv k = v at hr
      cases hr with
      | lst b off vs hl hcap ha hsz hc hr hst ho =>
       exact .inl ⟨fl, sz, xs, _, _, _, o, q1, rfl, h2, h3, q3, .lst b off vs hl hcap ha hsz hc hr hst ho, q4⟩
     ·have hr := hrv k (by rw [q1]; simp)
      rw [q1] at hr
      generalize hv : rv k = v at hr
      cases hr with
      | slc hb hh hc =>
       exact .inr ⟨i, n, cs, _, _, q1, rfl, h2, h3, q3, hb, hh, hc, hcl cs (List.mem_append_right _ (headB2_mem q1 q3 hj))⟩
    have newAt : ∀ {i : Nat} {o : Ob}, stAt (l ++ new) i = o → o ≠ .dead → (i < n0 ∧ l[i]? = some o) ∨ (n0 ≤ i ∧ ∃ k size, sp.fams[i - n0]? = some (k, size) ∧ new[i - n0]? = some o) := by
     intro i o hi hne
     unfold stAt at hi
     rcases Nat.lt_or_ge i l.length with hlt | hge
     ·rw [List.getD_eq_getElem?_getD, List.getElem?_append_left hlt] at hi
      rw [List.getElem?_eq_getElem hlt] at hi ⊢
      exact .inl ⟨by omega, by simpa using hi⟩
     ·rw [List.getD_eq_getElem?_getD, List.getElem?_append_right hge] at hi
      rw [hl] at hi hge
      cases e : new[i - n0]? with
      | none => rw [e] at hi; exact absurd hi.symm hne
      | some x =>
       rw [e] at hi
       simp only [Option.getD_some] at hi
       subst hi
       have hlt : i - n0 < sp.fams.length := by
        rw [← hu2]
        rcases Nat.lt_or_ge (i - n0) new.length with q | q
        ·exact q
        ·rw [List.getElem?_eq_none q] at e; cases e
       exact .inr ⟨hge, sp.fams[i - n0].1, sp.fams[i - n0].2, by simp [hlt], rfl⟩
    have old : ∀ {i : Nat} {o0 : Ob}, s[i]? = some o0 → stAt s i = o0 := fun {i o0} h1 => by unfold stAt; rw [List.getD_eq_getElem?_getD, h1]; rfl
    have tokRep : ∀ {j k size : Nat} {fl : Own} {sz : Nat} {xs : List D}, sp.fams[j]? = some (k, size) → rootD t s k = .lst fl sz xs → Rep M (.lst fl sz xs) (rv k) → (sz = size ∨ xs = []) → Rep M' (.lst (.tok (n0 + j) 0) size xs) (rv k) := by
     intro j k size fl sz xs hj q1 hr q3
     refine Rep.resize (sz := sz) ?_ q3
     generalize hv : rv k = v at hr
     cases hr with
     | lst b off vs hl2 hcap ha hsz hc hr hst ho =>
      refine .lst b off vs hl2 hcap ha hsz hc hr hst ?_
      simp only [MM.owns, M', if_neg (show ¬ n0 + j < n0 by omega), hdr, show n0 + j - n0 = j by omega, hj, q1, if_true, hv]
    have slcRep : ∀ {j k size i n b cap : Nat}, sp.fams[j]? = some (k, size) → rootD t s k = .slc i size n → rv k = .slice (some ⟨b, 0, none⟩) n cap → M.box i = some b → n ≤ cap → Rep M' (.slc (n0 + j) size n) (rv k) := by
     intro j k size i n b cap hj q1 hv hb hc
     rw [hv]
     refine .slc (b := b) ?_ ?_ hc
     ·simp only [M', if_neg (show ¬ n0 + j < n0 by omega), bxN, show n0 + j - n0 = j by omega, hj, q1]; exact hb
     ·simp only [M', if_neg (show ¬ n0 + j < n0 by omega), hdr, show n0 + j - n0 = j by omega, hj, q1, if_true, hv]
    refine ⟨M', own', ⟨hw.below, hw.cells, hw.old, ?_, ?_, ?_, ?_, ?_, hw.mrk⟩, ?_, hle, ?_⟩
    ·intro b i k
     simp only [own'] at k
     cases e : own b with
     | none => rw [e] at k; cases k
     | some i' => exact hw.owned b i' e
    ·
     intro i cs hi
     rcases newAt hi (by simp) with ⟨hlt, hli⟩ | ⟨hge, k, size, hj, hnew⟩
     ·obtain ⟨o0, h1, h2⟩ := hob i _ hli
      rw [Nat.zero_add] at h2
      obtain ⟨hnu, hcase⟩ := obc_out h2 (by simp)
      have kept : ∀ {cs0 : List D}, o0 = .box cs0 → cs.length = cs0.length → (∀ (b : Nat) (vs : Array Value) (ty : TypeId), BoxOK w0 M own i cs0 w b vs ty → ∀ (j : Nat) (d : D) (v : Value), cs[j]? = some d → vs[j]? = some v → Rep M' d v) → ∃ b vs ty, BoxOK w0 M' own' i cs w b vs ty := by
       intro cs0 e hle2 hreps
       subst e
       obtain ⟨b, vs, ty, k⟩ := hw.box i cs0 (old h1)
       refine ⟨b, vs, ty, by simp only [M', if_pos hlt]; exact k.box, k.base, ?_, k.none, k.blk, by rw [hle2]; exact k.len, hreps b vs ty k, fun sz a len cap q => k.room sz a len cap (by simpa only [M', if_pos hlt] using q)⟩
       simp only [own', k.own, Option.bind_some, ren, placeO_none hnu, if_pos hlt]
      rcases hcase with ⟨cs0, rfl, e, hm⟩ | ⟨cs0, rfl, e, hids⟩ | ⟨cs0, cs', rfl, e, hc⟩ | ⟨_, _, _, _, _, _, e, _⟩ | ⟨rfl, hnb, _⟩
      ·obtain rfl := Ob.box.inj e
       have hclean := hcl cs0 (List.mem_append_left _ (headB1_mem (old h1) hm))
       refine kept rfl (by simp) fun b vs ty k j d v p q => ?_
       rw [List.getElem?_map, Option.map_eq_some_iff] at p
       obtain ⟨d0, p0, rfl⟩ := p
       exact ((k.rep j d0 v p0 q).toBare (hclean _ (List.mem_of_getElem? p0))).mono (MM.bare_le M')
      ·obtain rfl := Ob.box.inj e
       rw [idsBL_eq, List.all_eq_true] at hids
       exact kept rfl rfl fun b vs ty k j d v p q => ((k.rep j d v p q).cut (hids _ (List.mem_of_getElem? p))).mono hle
      ·obtain rfl := Ob.box.inj e
       obtain ⟨c1, c2⟩ := cellsc_out hc
       refine kept rfl c1 fun b vs ty k j d v p q => ?_
       have hj0 : j < cs0.length := by
        rw [← c1]
        rcases Nat.lt_or_ge j cs.length with h | h
        ·exact h
        ·rw [List.getElem?_eq_none h] at p; cases p
       have hd0 : cs0[j]? = some cs0[j] := by simp [hj0]
       rcases c2 j _ d hd0 p with ⟨id, size, o, ob, hf, hg⟩ | ⟨hids, rfl⟩
       ·rw [Nat.zero_add] at hf
        obtain ⟨hj1, hf⟩ := findC_out hf
        obtain ⟨jj, rfl, hjj⟩ := findF_out hf
        obtain ⟨d2, o2, ob2, hg2, hu3, hn3⟩ := hgrow jj _ size hjj
        have e1 : (cellK + i * 1000 + j - cellK) / 1000 = i := by omega
        have e2 : (cellK + i * 1000 + j - cellK) % 1000 = j := by omega
        have hbl : Nat.ble cellK (cellK + i * 1000 + j) = true := by rw [Nat.ble_eq]; omega
        have hroot : rootD t s (cellK + i * 1000 + j) = cs0[j] := by
         simp only [rootD, hbl, e1, e2]
         rw [show s.getD i .dead = .box cs0 from old h1]
         simp only []
         rw [List.getD_eq_getElem?_getD, hd0]
         rfl
        have hval : rv (cellK + i * 1000 + j) = v := by
         simp only [rv, hbl, e1, e2]
         rw [k.box]
         simp only [World.cell?, k.blk, q]
         rfl
        rcases growc_out hg with ⟨fl, sz, xs, q1, rfl, _, q3, _⟩ | ⟨i', n, cs', q1, rfl, _, q3, _⟩
        ·have hr := tokRep hjj (hroot.trans q1) (by rw [hval, ← q1]; exact k.rep j _ v hd0 q) q3
         rw [hval] at hr
         exact hr
        ·rcases root jj _ size hjj with ⟨_, _, _, _, _, _, _, r1, _⟩ | ⟨i2, n2, cs2, b2, cap2, r1, r2, _, _, _, r3, _, r4, _⟩
         ·rw [hroot, q1] at r1; cases r1
         ·rw [hroot, q1] at r1
          cases r1
          have hr := slcRep hjj (hroot.trans q1) r2 r3 r4
          rw [hval] at hr
          exact hr
       ·exact ((k.rep j _ v hd0 q).cut hids).mono hle
      ·cases e
      ·exact absurd rfl (hnb cs)
     ·rcases root _ k size hj with ⟨_, _, _, _, _, _, _, _, _, _, r, _⟩ | ⟨i', n, cs0, b, cap, q1, q2, q3, q4, q5, q6, q7, q8, q9⟩
      ·rw [hnew] at r; cases r
      ·rw [hnew] at q4
       obtain rfl := Ob.box.inj (Option.some.inj q4)
       obtain ⟨b2, vs, ty, kb⟩ := hw.box i' cs0 q5
       obtain rfl : b2 = b := by have := kb.box; rw [q6] at this; exact (Option.some.inj this).symm
       have hi0 : ¬ i < n0 := by omega
       refine ⟨b2, vs, ty, ?_, kb.base, ?_, kb.none, kb.blk, by simpa using kb.len, fun j d v p q => ?_, fun sz a len cap' q => ?_⟩
       ·simp only [M', if_neg hi0, bxN, hj, q1]; exact q6
       ·simp only [own', kb.own, Option.bind_some, ren, placeO_at hdist q3]
        congr 1
        omega
       ·rw [List.getElem?_map, Option.map_eq_some_iff] at p
        obtain ⟨d0, p0, rfl⟩ := p
        exact ((kb.rep j d0 v p0 q).toBare (q9 _ (List.mem_of_getElem? p0))).mono (MM.bare_le M')
       ·simp only [M', if_neg hi0, hdr, hj, q1] at q
        split at q
        ·rename_i e
         subst e
         rw [q2] at q
         obtain ⟨rfl, rfl, rfl⟩ := Value.slice.inj (Option.some.inj q)
         exact kb.room _ _ _ _ q7
        ·cases q
    ·
     intro i ver sz hi
     rcases newAt hi (by simp) with ⟨hlt, hli⟩ | ⟨hge, k, size, hj, hnew⟩
     ·obtain ⟨o0, h1, h2⟩ := hob i _ hli
      rw [Nat.zero_add] at h2
      obtain ⟨hnu, hcase⟩ := obc_out h2 (by simp)
      have ho : o0 = .fam ver sz := by
       rcases hcase with ⟨_, _, e, _⟩ | ⟨_, _, e, _⟩ | ⟨_, _, _, e, _⟩ | ⟨_, _, _, _, _, _, e, _⟩ | ⟨rfl, _⟩
       ·cases e
       ·cases e
       ·cases e
       ·cases e
       ·rfl
      subst ho
      obtain ⟨a, len, cap, k⟩ := hw.fam i ver sz (old h1)
      refine ⟨a, len, cap, by simp only [M', if_pos hlt]; exact k.hist, fun v hv => by simp only [M', if_pos hlt]; exact k.last v hv, ?_⟩
      rcases k.room with q | ⟨b, vs, ty, fz, ha, r⟩
      ·exact .inl q
      ·refine .inr ⟨b, vs, ty, fz, ha, r.base, ?_, r.blk, r.fz, r.cap, r.none⟩
       simp only [own', r.own, Option.bind_some, ren, placeO_none hnu, if_pos hlt]
     ·have hnlt : ¬ i < n0 := by omega
      rcases root _ k size hj with ⟨fl, sz0, xs, a, len, cap, o, q1, q2, q3, q4, q5, q6, q7⟩ | ⟨_, _, _, _, _, _, _, _, r, _⟩
      ·rw [hnew] at q4
       obtain ⟨rfl, rfl⟩ := Ob.fam.inj (Option.some.inj q4)
       refine ⟨a, len, cap, ?_, fun v hv => ?_, ?_⟩
       ·simp only [M', if_neg hnlt, hdr, hj, q1, if_true, q2]
       ·simp only [M', if_neg hnlt, hdr, hj, q1, if_neg (show ¬ v = 0 by omega)]
       ·cases q6 with
        | lst b off vs hl2 hcap ha hsz hc hr hst ho =>
         rcases q7 with ⟨rfl, rfl⟩ | ⟨i', v, rfl, rfl, hs'⟩
         ·exact .inl ho
         ·obtain ⟨a', len', cap', k2⟩ := hw.fam i' v _ hs'
          have : M.hist i' v = some _ := ho
          rw [k2.hist] at this
          obtain ⟨rfl, rfl, rfl⟩ := Value.slice.inj (Option.some.inj this)
          rcases k2.room with q | ⟨b, vs, ty, fz, ha, r⟩
          ·exact .inl q
          ·refine .inr ⟨b, vs, ty, fz, ha, r.base, ?_, r.blk, r.fz, r.cap, r.none⟩
           simp only [own', r.own, Option.bind_some, ren, placeO_at hdist q3]
           congr 1
           omega
      ·rw [hnew] at r; cases r
    ·
     intro i F hi
     obtain ⟨o, hoo⟩ : ∃ o, stAt (l ++ new) i = o := ⟨_, rfl⟩
     rw [hoo] at hi
     have nb : ∀ cs, o ≠ .box cs := fun cs e => by rw [e] at hi; cases hi
     have nd : o ≠ .dead := fun e => by rw [e] at hi; cases hi
     have nf : ∀ v sz, o ≠ .fam v sz := fun v sz e => by rw [e] at hi; cases hi
     have nl : ∀ k t ps ag bd, o ≠ .lp k t ps ag bd := fun k t ps ag bd e => by rw [e] at hi; cases hi
     rcases newAt hoo nd with ⟨hlt, hli⟩ | ⟨hge, k, size, hj, hnew⟩
     ·obtain ⟨o0, h1, h2⟩ := hob i _ hli
      rw [Nat.zero_add] at h2
      obtain ⟨hnu, hcase⟩ := obc_out h2 nd
      have ho : o0 = o := by
       rcases hcase with ⟨_, _, e, _⟩ | ⟨_, _, e, _⟩ | ⟨_, _, _, e, _⟩ | ⟨_, _, _, _, _, _, e, _⟩ | ⟨rfl, _⟩
       ·exact absurd e (nb _)
       ·exact absurd e (nb _)
       ·exact absurd e (nb _)
       ·exact absurd e (nl _ _ _ _ _)
       ·rfl
      subst ho
      obtain ⟨b, ents, clock, k⟩ := hw.mp i F (by rw [old h1]; exact hi)
      refine ⟨b, ents, clock, by simp only [M', if_pos hlt]; exact k.box, k.base, ?_, k.none, k.blk, k.fits⟩
      simp only [own', k.own, Option.bind_some, ren, placeO_none hnu, if_pos hlt]
     ·rcases root _ k size hj with ⟨_, _, _, _, _, _, _, _, _, _, r, _⟩ | ⟨_, _, _, _, _, _, _, _, r, _⟩ <;> rw [hnew] at r <;> obtain rfl := Option.some.inj r
      ·exact absurd rfl (nf _ _)
      ·exact absurd rfl (nb _)
    ·
     intro i kk tt ps ag bd hi
     rcases newAt hi (by simp) with ⟨hlt, hli⟩ | ⟨hge, k, size, hj, hnew⟩
     ·obtain ⟨o0, h1, h2⟩ := hob i _ hli
      rw [Nat.zero_add] at h2
      obtain ⟨hnu, hcase⟩ := obc_out h2 (by simp)
      have ho : o0 = .lp kk tt ps ag bd ∧ idsBL n0 tt = true := by
       rcases hcase with ⟨_, _, e, _⟩ | ⟨_, _, e, _⟩ | ⟨_, _, _, e, _⟩ | ⟨_, _, _, _, _, rfl, e, hids⟩ | ⟨_, _, hnl⟩
       ·cases e
       ·cases e
       ·cases e
       ·cases e; exact ⟨rfl, hids⟩
       ·exact absurd rfl (hnl _ _ _ _ _)
      obtain ⟨rfl, hids⟩ := ho
      rw [idsBL_eq, List.all_eq_true] at hids
      obtain ⟨b, r, k⟩ := hw.lp i kk tt ps ag bd (old h1)
      refine ⟨b, r, by simp only [M', if_pos hlt]; exact k.box, k.base, ?_, k.blk, k.st, k.pd, ⟨k.tm.1, fun j d v p q => ((k.tm.2 j d v p q).cut (hids _ (List.mem_of_getElem? p))).mono hle⟩, k.ps, k.ag, k.bd⟩
      simp only [own', k.own, Option.bind_some, ren, placeO_none hnu, if_pos hlt]
     ·rcases root _ k size hj with ⟨_, _, _, _, _, _, _, _, _, _, r, _⟩ | ⟨_, _, _, _, _, _, _, _, r, _⟩ <;> rw [hnew] at r <;> cases r
    ·
     refine ⟨fun id hid => ?_, fun id v hid => ?_⟩
     ·simp only [M', if_neg (show ¬ id < n0 by omega), bxN]
      rw [List.getElem?_eq_none (by omega)]
     ·simp only [M', if_neg (show ¬ id < n0 by omega), hdr]
      rw [List.getElem?_eq_none (by omega)]
    ·
     refine ⟨by rw [ht1]; exact hrep.1, fun i d' v p q => ?_⟩
     have hit : i < t.length := by
      rcases Nat.lt_or_ge i t.length with h | h
      ·exact h
      ·rw [List.getElem?_eq_none (by omega)] at p; cases p
     have hd : t[i]? = some t[i] := by simp [hit]
     have hsl := hslot i _ d' hd p
     rw [Nat.zero_add] at hsl
     unfold slotc at hsl
     split at hsl
     ·rename_i id size hf
      split at hsl
      ·rename_i d2 o hg
       obtain rfl := Option.some.inj hsl
       obtain ⟨hbi, hf⟩ := findS_out hf
       obtain ⟨j, rfl, hj⟩ := findF_out hf
       ·have hbf : Nat.ble cellK i = false := by
         cases e : Nat.ble cellK i with
         | false => rfl
         | true => rw [Nat.ble_eq] at e; omega
        have hroot : rootD t s i = t[i] := by
         simp only [rootD, hbf]
         rw [List.getD_eq_getElem?_getD, hd]
         rfl
        have hval : rv i = v := by
         simp only [rv, hbf]
         rw [Array.getD_eq_getD_getElem?, q]
         rfl
        rcases growc_out hg with ⟨fl, sz, xs, q1, rfl, _, q3, _⟩ | ⟨i', n, cs', q1, rfl, _, q3, _⟩
        ·have hr := tokRep hj (hroot.trans q1) (by rw [hval, ← q1]; exact hrep.2 i _ v hd q) q3
         rw [hval] at hr
         exact hr
        ·rcases root j _ size hj with ⟨_, _, _, _, _, _, _, r1, _⟩ | ⟨i2, n2, cs2, b2, cap2, r1, r2, _, _, _, r3, _, r4, _⟩
         ·rw [hroot, q1] at r1; cases r1
         ·rw [hroot, q1] at r1
          cases r1
          have hr := slcRep hj (hroot.trans q1) r2 r3 r4
          rw [hval] at hr
          exact hr
      ·cases hsl
     ·split at hsl
      ·split at hsl
       ·rename_i hids
        obtain rfl := Option.some.inj hsl
        exact ((hrep.2 i _ v hd q).cut hids).mono hle
       ·cases hsl
      ·obtain rfl := Option.some.inj hsl
       exact .undef v
   ·cases h
  ·cases h
 ·cases h
section
variable {P : Program}
inductive Rounds (P : Program) (c : Code) (n0 : Nat) : List D → List Ob → Ex → List D → List Ob → Prop
  | out {t : List D} {s : List Ob} {ex : Ex} {t1 t' : List D} {s1 s' : List Ob} (sp : HS) (h : CodeRun P c t s ex t1 s1) (hx : ex ≠ .norm) (hh : headc sp n0 t1 s1 = some (t', s')) (hcl : headOK sp t1 s1) : Rounds P c n0 t s ex t' s'
  | again {t : List D} {s : List Ob} {t1 t2 : List D} {s1 s2 : List Ob} {ex : Ex} {t' : List D} {s' : List Ob} (sp : HS) (h : CodeRun P c t s .norm t1 s1) (hh : headc sp n0 t1 s1 = some (t2, s2)) (hcl : headOK sp t1 s1) (k : Rounds P c n0 t2 s2 ex t' s') : Rounds P c n0 t s ex t' s'
theorem Rounds.depth {c : Code} {n0 : Nat} {t : List D} {s : List Ob} {ex : Ex} {t' : List D} {s' : List Ob} (h : Rounds P c n0 t s ex t' s') : n0 ≤ s.length → n0 ≤ s'.length ∧
  ∃ n, ∀ (rr : Option Nat) (K : Nat → Prop) (w0 : Base) (M : MM) (own : Nat → Option Nat) (w : World) (a : Act) (L : MM), L.Le (M.cut n0) → WRel w0 M own (stAt s) w → M.upto s.length → RepL M t a.tmps → DefsOK K M a.defers →
   Code.roundsIn (FW rr) 0 P c (fun e a' w' => ex.is e ∧ ∃ M' own', WRel w0 M' own' (stAt s') w' ∧ M'.upto s'.length ∧ L.Le M' ∧ RepL M' t' a'.tmps ∧ DefsOK K M' a'.defers) n a w := by
 induction h with
 | out sp h hx hh hcl =>
  intro hn
  obtain ⟨hl, hhead⟩ := headc_out hh hcl
  refine ⟨hl.1, 1, fun rr K w0 M own w a L le hw hu ht hd => ?_⟩
  rw [roundsIn_succ]
  refine wpIn_mono (h.run rr (fun e => by cases e) K w0 M own w a hw hu ht hd) ?_
  rintro e a' w' ⟨h0, M1, own1, q1, q2, q3, q4, q5⟩
  obtain ⟨M2, own2, r1, r2, r3, r4⟩ := hhead (Nat.le_trans hn h.len) q1 q2 q4
  have fin : ∃ M' own', WRel w0 M' own' (stAt _) w' ∧ M'.upto _ ∧ L.Le M' ∧ RepL M' _ a'.tmps ∧ DefsOK K M' a'.defers := ⟨M2, own2, r1, r2, (le.trans (MM.cut_mono q3 n0)).trans r3, r4, q5.mono r3.mrk⟩
  rename_i ex _ _ _ _
  cases ex with
  | norm => exact absurd rfl hx
  | exit i => cases e <;> simp only [Ex.is] at h0; exact ⟨h0, fin⟩
  | ret => cases e <;> simp only [Ex.is] at h0; exact ⟨h0, fin⟩
 | again sp h hh hcl k ih =>
  intro hn
  obtain ⟨hl, hhead⟩ := headc_out hh hcl
  obtain ⟨i1, n, i2⟩ := ih hl.1
  refine ⟨i1, n + 1, fun rr K w0 M own w a L le hw hu ht hd => ?_⟩
  rw [roundsIn_succ]
  refine wpIn_mono (h.run rr (fun e => by cases e) K w0 M own w a hw hu ht hd) ?_
  rintro e a' w' ⟨h0, M1, own1, q1, q2, q3, q4, q5⟩
  obtain ⟨M2, own2, r1, r2, r3, r4⟩ := hhead (Nat.le_trans hn h.len) q1 q2 q4
  cases e <;> simp only [Ex.is] at h0
  refine i2 rr K w0 M2 own2 w' a' L ?_ r1 r2 r4 (q5.mono r3.mrk)
  have := MM.cut_mono r3 n0
  rw [MM.cut_cut] at this
  exact (le.trans (MM.cut_mono q3 n0)).trans this
theorem LoopRun.of_rounds {c : Code} {n0 : Nat} {t : List D} {s : List Ob} {ex : Ex} {t' : List D} {s' : List Ob} (hn : n0 ≤ s.length) (h : Rounds P c n0 t s ex t' s') : LoopRun P n0 (.loop c) t s ex t' s' := by
 obtain ⟨h1, n, h2⟩ := h.depth hn
 exact ⟨fun rr K w0 M own w a hw hu ht hd => wpIn_loop_rounds n (h2 rr K w0 M own w a (M.cut n0) (.refl _) hw hu ht hd), h1⟩
theorem clsc_out {ρ' : Type} {r : ρ'} : ∀ {l : List (List D)} {z : Z P} {k : Z P → Option ρ'}, clsc l z k = some r → ∃ z', k z' = some r ∧ (z'.c → z.c ∧ ∀ cs ∈ l, ∀ c ∈ cs, c.clean = true)
 | [], z, k, h => ⟨z, h, fun q => ⟨q, fun _ h => by simp at h⟩⟩
 | cs :: l, z, k, h => by
  rw [clsc] at h
  split at h
  ·rename_i cs' hc o _
   obtain ⟨z', h1, h2⟩ := clsc_out h
   refine ⟨z', h1, fun q => ⟨(h2 q).1.2, fun x hx => ?_⟩⟩
   rcases List.mem_cons.1 hx with rfl | hx
   ·exact (h2 q).1.1 ▸ hc
   ·exact (h2 q).2 x hx
  ·cases h
theorem CodeRunR.of_head {rd : Bool} {c : Code} {sp : HS} {t t1 : List D} {s s1 : List Ob} {ex : Ex} {t2 : List D} {s2 : List Ob} (h : LoopRun P s.length c t1 s1 ex t2 s2) (hh : headc sp s.length t s = some (t1, s1)) (hcl : headOK sp t s) : CodeRunR P rd c t s ex t2 s2 := by
 obtain ⟨hl, hhead⟩ := headc_out hh hcl
 refine ⟨fun rr _ K w0 M own w a hw hu ht hd => ?_, h.len⟩
 obtain ⟨M2, own2, r1, r2, r3, r4⟩ := hhead (Nat.le_refl _) hw hu ht
 refine wpIn_mono (h.run rr K w0 M2 own2 w a r1 r2 r4 (hd.mono r3.mrk)) ?_
 rintro e a' w' ⟨h0, M', own', q1, q2, q3, q4, q5⟩
 have := MM.cut_mono r3 s.length
 rw [MM.cut_cut] at this
 exact ⟨h0, M', own', q1, q2, ((MM.le_cut hu).trans this).trans q3, q4, q5⟩
inductive Rounds0 (P : Program) (rd : Bool) (c : Code) : List D → List Ob → Ex → List D → List Ob → Prop
  | out {t : List D} {s : List Ob} {ex : Ex} {t1 : List D} {s1 : List Ob} (h : CodeRunR P rd c t s ex t1 s1) (hx : ex ≠ .norm) : Rounds0 P rd c t s ex t1 s1
  | again {t : List D} {s : List Ob} {t1 : List D} {s1 : List Ob} {ex : Ex} {t' : List D} {s' : List Ob} (h : CodeRunR P rd c t s .norm t1 s1) (k : Rounds0 P rd c t1 s1 ex t' s') : Rounds0 P rd c t s ex t' s'
theorem Rounds0.depth {rd : Bool} {c : Code} {t : List D} {s : List Ob} {ex : Ex} {t' : List D} {s' : List Ob} (h : Rounds0 P rd c t s ex t' s') : s.length ≤ s'.length ∧
  ∃ n, ∀ (rr : Option Nat) (_ : rd = false → rr = none) (K : Nat → Prop) (w0 : Base) (M : MM) (own : Nat → Option Nat) (w : World) (a : Act) (L : MM), L.Le M → WRel w0 M own (stAt s) w → M.upto s.length → RepL M t a.tmps → DefsOK K M a.defers →
   Code.roundsIn (FW rr) 0 P c (fun e a' w' => ex.is e ∧ ∃ M' own', WRel w0 M' own' (stAt s') w' ∧ M'.upto s'.length ∧ L.Le M' ∧ RepL M' t' a'.tmps ∧ DefsOK K M' a'.defers) n a w := by
 induction h with
 | out h hx =>
  refine ⟨h.len, 1, fun rr hrd K w0 M own w a L le hw hu ht hd => ?_⟩
  rw [roundsIn_succ]
  refine wpIn_mono (h.run rr hrd K w0 M own w a hw hu ht hd) ?_
  rintro e a' w' ⟨h0, M1, own1, q1, q2, q3, q4, q5⟩
  have fin : ∃ M' own', WRel w0 M' own' (stAt _) w' ∧ M'.upto _ ∧ L.Le M' ∧ RepL M' _ a'.tmps ∧ DefsOK K M' a'.defers := ⟨M1, own1, q1, q2, le.trans q3, q4, q5⟩
  rename_i ex _ _
  cases ex with
  | norm => exact absurd rfl hx
  | exit i => cases e <;> simp only [Ex.is] at h0; exact ⟨h0, fin⟩
  | ret => cases e <;> simp only [Ex.is] at h0; exact ⟨h0, fin⟩
 | again h k ih =>
  obtain ⟨i1, n, i2⟩ := ih
  refine ⟨Nat.le_trans h.len i1, n + 1, fun rr hrd K w0 M own w a L le hw hu ht hd => ?_⟩
  rw [roundsIn_succ]
  refine wpIn_mono (h.run rr hrd K w0 M own w a hw hu ht hd) ?_
  rintro e a' w' ⟨h0, M1, own1, q1, q2, q3, q4, q5⟩
  cases e <;> simp only [Ex.is] at h0
  exact i2 rr hrd K w0 M1 own1 w' a' L (le.trans q3) q1 q2 q4 q5
theorem CodeRunR.of_rounds {rd : Bool} {c : Code} {t : List D} {s : List Ob} {ex : Ex} {t' : List D} {s' : List Ob} (h : Rounds0 P rd c t s ex t' s') : CodeRunR P rd (.loop c) t s ex t' s' := by
 obtain ⟨h1, n, h2⟩ := h.depth
 exact ⟨fun rr hrd K w0 M own w a hw hu ht hd => wpIn_loop_rounds n (h2 rr hrd K w0 M own w a M (.refl _) hw hu ht hd), h1⟩
theorem iter_out {rd : Bool} {ρ' : Type} {r : ρ'} {c : Code} {body : List D → List Ob → Z P → (Ex → List D → List Ob → Z P → Option ρ') → Option ρ'}
  (hb : ∀ {t : List D} {s : List Ob} {z : Z P} {K : Ex → List D → List Ob → Z P → Option ρ'}, body t s z K = some r → ∃ ex t' s' z', K ex t' s' z' = some r ∧ (z'.c → z.c ∧ CodeRunR P rd c t s ex t' s')) :
  ∀ {n : Nat} {t : List D} {s : List Ob} {z : Z P} {K : Ex → List D → List Ob → Z P → Option ρ'}, iter body n t s z K = some r → ∃ ex t' s' z', K ex t' s' z' = some r ∧ (z'.c → z.c ∧ Rounds0 P rd c t s ex t' s')
 | 0, t, s, z, K, h => by simp [iter] at h
 | n + 1, t, s, z, K, h => by
  rw [iter] at h
  obtain ⟨ex, t1, s1, z1, h1, h2⟩ := hb h
  split at h1
  ·obtain ⟨ex', t2, s2, z2, h3, h4⟩ := iter_out hb h1
   exact ⟨ex', t2, s2, z2, h3, fun q => ⟨(h2 (h4 q).1).1, .again (h2 (h4 q).1).2 (h4 q).2⟩⟩
  ·rename_i hne
   exact ⟨_, t1, s1, z1, h1, fun q => ⟨(h2 q).1, .out (h2 q).2 hne⟩⟩
end
def RunPost (K : Nat → Prop) (w0 : Base) (M : MM) (ex : Ex) (t' : List D) (s' : List Ob) : Exit → Act → World → Prop :=
  fun e a' w' => ex.is e ∧ ∃ M' own', WRel w0 M' own' (stAt s') w' ∧ M'.upto s'.length ∧ M.Le M' ∧ RepL M' t' a'.tmps ∧ DefsOK K M' a'.defers
theorem runPost_le {K : Nat → Prop} {w0 : Base} {M M1 : MM} (le : M.Le M1) {ex : Ex} {t' : List D} {s' : List Ob} {e : Exit} {a : Act} {w : World} (h : RunPost K w0 M1 ex t' s' e a w) : RunPost K w0 M ex t' s' e a w := by
 obtain ⟨h0, M', own', h1, h2, h3, h4, h5⟩ := h
 exact ⟨h0, M', own', h1, h2, le.trans h3, h4, h5⟩
theorem stepR_scope {P : Program} {b : Frame} {a : Act} {k : List Item} {cs : List Frame} {w : World} {c : Code} : step P (lone (b.atR a (.code (.scope c) :: k)) cs w) = .next (lone (b.atR a (.code c :: .inScope c :: k)) cs w) :=
 step_lone_go (by simp [stepG, stepG.exec, Frame.atR])
theorem stepR_inScope {P : Program} {b : Frame} {a : Act} {k : List Item} {cs : List Frame} {w : World} {c : Code} : step P (lone (b.atR a (.inScope c :: k)) cs w) = .next (lone (b.atR a k) cs w) :=
 step_lone_go (by simp [stepG, stepG.exec, Frame.atR])
theorem wpIn_scope_straight {P : Program} {F : Fence} {n : Nat} {Q : Exit → Act → World → Prop} {a : Act} {w : World} {c : Code} (h : c.wpIn F n P (Exit.noGoto Q) a w) : (Code.scope c).wpIn F n P Q a w := by
 intro b k cs hro hb hr
 have h0 : (lone (b.atR a (.code (.scope c) :: k)) cs w).fenced P F := fenced_calm hb hr rfl
 obtain ⟨e, a₁, w₁, hq, harr⟩ := h b (.inScope c :: k) cs hro hb hr
 cases e with
 | normal => exact ⟨.normal, a₁, w₁, hq, .head h0 stepR_scope (StepsIn.trans harr (.one (fenced_calm hb hr rfl) stepR_inScope))⟩
 | exit id =>
  have hx : exitTo id (.inScope c :: k) = exitTo id k := by simp [exitTo]
  exact ⟨.exit id, a₁, w₁, hq, fun k' hk => .head h0 stepR_scope (harr.1 k' (by rw [hx]; exact hk)),
   fun hr' hk => let ⟨k₁, h1, h2⟩ := harr.2 hr' (by rw [hx]; exact hk); ⟨k₁, h1, .head h0 stepR_scope h2⟩⟩
 | goto l => exact hq.elim
 | ret => exact ⟨_, a₁, w₁, hq, .of_steps (.one h0 stepR_scope) harr⟩
 | panic ch => exact ⟨_, a₁, w₁, hq, .of_steps (.one h0 stepR_scope) harr⟩
 | outgrown => exact ⟨_, a₁, w₁, hq, .of_steps (.one h0 stepR_scope) harr⟩
section
variable {P : Program} {rd : Bool}
theorem CodeRunR.skip (t : List D) (s : List Ob) : CodeRunR P rd .skip t s .norm t s :=
 ⟨fun _ _ _ _ M own _ _ hw hu ht hd => wpIn_skip ⟨trivial, M, own, hw, hu, .refl M, ht, hd⟩, Nat.le_refl _⟩
theorem CodeRunR.label (l : Nat) (t : List D) (s : List Ob) : CodeRunR P rd (.label l) t s .norm t s :=
 ⟨fun _ _ _ _ M own _ _ hw hu ht hd => wpIn_label ⟨trivial, M, own, hw, hu, .refl M, ht, hd⟩, Nat.le_refl _⟩
theorem CodeRunR.exit (i : Nat) (t : List D) (s : List Ob) : CodeRunR P rd (.exit i) t s (.exit i) t s :=
 ⟨fun _ _ _ _ M own _ _ hw hu ht hd => wpIn_exit ⟨rfl, M, own, hw, hu, .refl M, ht, hd⟩, Nat.le_refl _⟩
theorem CodeRunR.retC (t : List D) (s : List Ob) : CodeRunR P rd .ret t s .ret t s :=
 ⟨fun _ _ _ _ M own _ _ hw hu ht hd => wpIn_ret ⟨trivial, M, own, hw, hu, .refl M, ht, hd⟩, Nat.le_refl _⟩
theorem CodeRunR.seqN {x y : Code} {t t1 t2 : List D} {s s1 s2 : List Ob} {ex : Ex} (h : CodeRunR P rd x t s .norm t1 s1) (k : CodeRunR P rd y t1 s1 ex t2 s2) : CodeRunR P rd (.seq x y) t s ex t2 s2 := by
 refine ⟨fun rr hrd K w0 M own w a hw hu ht hd => wpIn_seq (wpIn_mono (h.run rr hrd K w0 M own w a hw hu ht hd) ?_), Nat.le_trans h.len k.len⟩
 rintro e a' w' ⟨h0, M', own', h1, h2, h3, h4, h5⟩
 cases e <;> simp only [Ex.is] at h0
 exact wpIn_mono (k.run rr hrd K w0 M' own' w' a' h1 h2 h4 h5) fun e a w hh => runPost_le h3 hh
theorem CodeRunR.seqX {x y : Code} {t t1 : List D} {s s1 : List Ob} {ex : Ex} (h : CodeRunR P rd x t s ex t1 s1) (hx : ex ≠ .norm) : CodeRunR P rd (.seq x y) t s ex t1 s1 := by
 refine ⟨fun rr hrd K w0 M own w a hw hu ht hd => wpIn_seq (wpIn_mono (h.run rr hrd K w0 M own w a hw hu ht hd) ?_), h.len⟩
 rintro e a' w' ⟨h0, h1⟩
 cases ex with
 | norm => exact absurd rfl hx
 | exit i => cases e <;> simp only [Ex.is] at h0; exact ⟨h0, h1⟩
 | ret => cases e <;> simp only [Ex.is] at h0; exact ⟨h0, h1⟩
theorem CodeRunR.cond {c : Operand} {x y : Code} {t t1 : List D} {s s1 : List Ob} {ex : Ex} {b : Bool} (hb : opnd t c = .bool b) (h : CodeRunR P rd (if b then x else y) t s ex t1 s1) : CodeRunR P rd (.cond c x y) t s ex t1 s1 := by
 refine ⟨fun rr hrd K w0 M own w a hw hu ht hd => wpIn_cond (t := b) ?_ (h.run rr hrd K w0 M own w a hw hu ht hd), h.len⟩
 have hr := rep_opnd ht c
 rw [hb] at hr
 generalize hv : a.eval c = v at hr
 cases hr
 rfl
theorem CodeRunR.blockN {id : Nat} {x : Code} {t t1 : List D} {s s1 : List Ob} (h : CodeRunR P rd x t s (.exit id) t1 s1) : CodeRunR P rd (.block id x) t s .norm t1 s1 := by
 refine ⟨fun rr hrd K w0 M own w a hw hu ht hd => wpIn_block (wpIn_mono (h.run rr hrd K w0 M own w a hw hu ht hd) ?_), h.len⟩
 rintro e a' w' ⟨h0, h1⟩
 cases e <;> simp only [Ex.is] at h0
 subst h0
 simp only [Exit.inBlock, if_true]
 exact ⟨trivial, h1⟩
theorem CodeRunR.blockX {id : Nat} {x : Code} {t t1 : List D} {s s1 : List Ob} {ex : Ex} (h : CodeRunR P rd x t s ex t1 s1) (hx : ∀ i, ex = .exit i → i ≠ id) : CodeRunR P rd (.block id x) t s ex t1 s1 := by
 refine ⟨fun rr hrd K w0 M own w a hw hu ht hd => wpIn_block (wpIn_mono (h.run rr hrd K w0 M own w a hw hu ht hd) ?_), h.len⟩
 rintro e a' w' ⟨h0, h1⟩
 cases ex with
 | norm => cases e <;> simp only [Ex.is] at h0; exact ⟨h0, h1⟩
 | exit i =>
  cases e <;> simp only [Ex.is] at h0
  subst h0
  simp only [Exit.inBlock, if_neg (hx _ rfl)]
  exact ⟨rfl, h1⟩
 | ret => cases e <;> simp only [Ex.is] at h0; exact ⟨h0, h1⟩
theorem CodeRunR.scope {x : Code} {t t1 : List D} {s s1 : List Ob} {ex : Ex} (h : CodeRunR P rd x t s ex t1 s1) : CodeRunR P rd (.scope x) t s ex t1 s1 := by
 refine ⟨fun rr hrd K w0 M own w a hw hu ht hd => wpIn_scope_straight (wpIn_mono (h.run rr hrd K w0 M own w a hw hu ht hd) ?_), h.len⟩
 rintro e a' w' ⟨h0, h1⟩
 cases ex <;> cases e <;> simp only [Ex.is] at h0 <;> exact ⟨h0, h1⟩
theorem CodeRunR.text {id : Nat} {ops : Array Oper} {t t1 : List D} {s s1 : List Ob} {tr : List Tr} (h : Trace P ops ops.toList t s tr t1 s1) : CodeRunR P rd (.region id ops false) t s .norm t1 s1 := by
 refine ⟨fun rr hrd K w0 M own w a hw hu ht hd => wpIn_region ?_, trace_slen h⟩
 rw [List.range_eq_range', show ops.size = ops.toList.length by simp]
 exact region_text rr h 0 rfl hw hu ht rfl fun M' own' w' a' le up hw' ht' hd' => ⟨trivial, M', own', hw', up, le, ht', hd' ▸ hd.mono le.mrk⟩
theorem CodeRunR.draw {id : Nat} {ops : Array Oper} {t t1 : List D} {s s1 : List Ob} {tr : List Tr} (hm : P.follows .mixedOrders = true) (h : Trace P ops ops.toList t s tr t1 s1) (hd : drawOK ops ((tr.map Tr.fp).reverse ++ []) = true) : CodeRunR P rd (.region id ops true) t s .norm t1 s1 :=
 ⟨fun rr _ K _ _ _ _ _ hw hu ht hdf => region_draw h hd hm id hw hu ht rfl rr fun M' own' _ _ le up hw' ht' hd' => ⟨trivial, M', own', hw', up, le, ht', hd' ▸ hdf.mono le.mrk⟩, trace_slen h⟩
theorem resolve_range {P : Program} {a : Act} {g : Operand} {gf : FuncId} {fv cv : Array Value} {l : Nat} (hf : a.eval g = .func (.func gf) fv cv) (w : World) :
  (resolve a.eval (rangeCall g l) 0).run P w = .ok { target := .fn (.func gf) cv, args := fv ++ #[.func (.yield l) #[] #[]] } w := by
 have e : a.eval (.const (.func (.yield l) #[] #[])) = .func (.yield l) #[] #[] := rfl
 simp [rangeCall, resolve, hf, Deferred.ofValue, e]
theorem RepL.keepT {M : MM} {keep : List Nat} : ∀ {t : List D} {vs : Array Value} (i : Nat), RepL M t vs → RepL M (keepT keep i t) vs := by
 intro t vs i h
 have len : ∀ (t : List D) (i : Nat), (Go.Ev.keepT keep i t).length = t.length := by
  intro t
  induction t with
  | nil => intro i; rfl
  | cons d r ih => intro i; simp [Go.Ev.keepT, ih]
 have at' : ∀ (t : List D) (i k : Nat) (d : D), (Go.Ev.keepT keep i t)[k]? = some d → d = .undef ∨ t[k]? = some d := by
  intro t
  induction t with
  | nil => intro i k d h; simp [Go.Ev.keepT] at h
  | cons a r ih =>
   intro i k d h
   cases k with
   | zero =>
    simp only [Go.Ev.keepT, List.getElem?_cons_zero, Option.some.injEq] at h
    split at h
    ·exact .inr (by simp [h])
    ·exact .inl h.symm
   | succ k => simp only [Go.Ev.keepT, List.getElem?_cons_succ] at h; simpa using ih _ _ _ h
 refine ⟨by rw [len]; exact h.1, fun k d v p q => ?_⟩
 rcases at' t i k d p with rfl | e
 ·exact .undef v
 ·exact h.2 k d v e q
theorem RepL.set {M : MM} {t : List D} {vs : Array Value} (h : RepL M t vs) {i : Nat} {d : D} {v : Value} (hr : Rep M d v) : RepL M (t.set i d) (vs.setIfInBounds i v) := by
 refine ⟨by simp [h.1], fun k d' v' p q => ?_⟩
 by_cases e : k = i
 ·subst e
  have hlt : k < t.length := by
   rcases Nat.lt_or_ge k t.length with x | x
   ·exact x
   ·rw [List.getElem?_eq_none (by simpa using x)] at p; cases p
  have hlt2 : k < vs.size := by rw [← h.1]; exact hlt
  simp [hlt] at p
  simp [hlt2] at q
  subst p q
  exact hr
 ·rw [List.getElem?_set_ne (Ne.symm e)] at p
  rw [Array.getElem?_setIfInBounds_ne (Ne.symm e)] at q
  exact h.2 k d' v' p q
theorem RepL.setPs {M : MM} : ∀ {ps : List Nat} {args : List D} {vs : List Value} {t : List D} {tv : Array Value}, RepL M t tv → args.length = vs.length → (∀ (i : Nat) (d : D) (v : Value), args[i]? = some d → vs[i]? = some v → Rep M d v) →
  RepL M (setPs t (ps.zip args)) ((ps.zip vs).foldl (fun tmps (x : Nat × Value) => tmps.setIfInBounds x.1 x.2) tv)
 | [], args, vs, t, tv, h, hl, hr => by simpa [Go.Ev.setPs] using h
 | p :: ps, [], [], t, tv, h, hl, hr => by simpa [Go.Ev.setPs] using h
 | p :: ps, [], v :: vs, t, tv, h, hl, hr => by simp at hl
 | p :: ps, d :: args, [], t, tv, h, hl, hr => by simp at hl
 | p :: ps, d :: args, v :: vs, t, tv, h, hl, hr => by
  simp only [List.zip_cons_cons, Go.Ev.setPs, List.foldl_cons]
  exact RepL.setPs (h.set (hr 0 d v rfl rfl)) (by simpa using hl) (fun i d' v' a b => hr (i + 1) d' v' (by simpa using a) (by simpa using b))
theorem CodeRunR.range {g : Operand} {ps : Array Tmp} {ag bd : Code} {t : List D} {s : List Ob} {gf : FuncId} {first cap : List D} {keep : List Nat} {d : D} {s2 : List Ob} {k : Lk} {t5 : List D} {ps5 : Array Nat} {ag5 bd5 : Code} {ex : Ex}
  (hg : opnd t g = .fn (.func gf) first cap) (hrun : CallRun P gf (first ++ (.yld s.length :: cap)) (s ++ [.lp .ready (keepT keep 0 t) ps ag bd]) d s2) (hk : s2.getD s.length .dead = .lp k t5 ps5 ag5 bd5)
  (hex : (k = .ready ∧ ex = .norm) ∨ (k = .ret ∧ ex = .ret) ∨ ∃ i, k = .exit i ∧ ex = .exit i) : CodeRunR P false (.rangeFunc g ps ag bd) t s ex t (s2.set s.length .dead) := by
 have hlen := hrun.len
 rw [List.length_append, List.length_singleton] at hlen
 refine ⟨fun rr hrd K w0 M own w a hw hu ht hd => ?_, by rw [List.length_set]; omega⟩
 obtain rfl := hrd rfl
 have hfr := rep_opnd ht g
 rw [hg] at hfr
 generalize hfv : a.eval g = fval at hfr
 cases hfr with
 | fn h1 h2 r1 r2 =>
  rename_i fv cv
  refine wpIn_rangeFunc ?_
  intro fn _
  have hw1 := hw.newMk
  obtain ⟨rec, hrec⟩ : ∃ rec : Loop, rec = { state := .ready, pending := none, fn, tmps := a.tmps, params := ps, assign := ag, body := bd, defers := w.heap.size } := ⟨_, rfl⟩
  have le1 := M.le_withMk w.heap.size
  have hbx : (M.withMk w.heap.size).box s.length = none := hu.1 _ (Nat.le_refl _)
  have hhs : ∀ v, (M.withMk w.heap.size).hist s.length v = none := fun v => hu.2 _ v (Nat.le_refl _)
  have hw2 := hw1.newLp (k := .ready) (t := keepT keep 0 t) (r := rec) hbx hhs (by rw [hrec]; rfl) (fun _ => by rw [hrec]; rfl) (by rw [hrec]; exact (ht.mono le1).keepT 0)
  have le2 := MM.le_withBox (b := (w.alloc (.deferred (some []))).heap.size) hbx
  have hsz : (w.alloc (.deferred (some []))).heap.size = w.heap.size + 1 := World.size_alloc _ _
  rw [show rec.params = ps by rw [hrec], show rec.assign = ag by rw [hrec], show rec.body = bd by rw [hrec], ← stAt_push] at hw2
  have hup : ((M.withMk w.heap.size).withBox s.length (w.alloc (.deferred (some []))).heap.size).upto (s ++ [Ob.lp .ready (keepT keep 0 t) ps ag bd]).length := by
   rw [List.length_append, List.length_singleton]
   refine ⟨fun i hi => ?_, fun i v hi => hu.2 i v (by omega)⟩
   simp only [MM.withBox, if_neg (show ¬ i = s.length by omega)]
   exact hu.1 i (by omega)
  have hargs : RepL ((M.withMk w.heap.size).withBox s.length (w.alloc (.deferred (some []))).heap.size) (first ++ (.yld s.length :: cap)) ((fv ++ #[.func (.yield (w.heap.size + 1)) #[] #[]]) ++ cv) := by
   rw [Array.append_assoc]
   refine RepL.append (RepL.mono ⟨h1, r1⟩ (le1.trans le2)) ?_
   rw [show (D.yld s.length :: cap) = [D.yld s.length] ++ cap from rfl]
   refine RepL.append ⟨rfl, fun i d v p q => ?_⟩ (RepL.mono ⟨h2, r2⟩ (le1.trans le2))
   cases i with
   | zero =>
    simp at p q
    subst p q
    exact .yld (by simp [MM.withBox, hsz])
   | succ i => simp at p
  obtain ⟨fnc, code, e1, e2, e3⟩ := hrun.ent
  refine ⟨w.heap.size + 1, [{ target := .collected w.heap.size, args := #[] }], (w.alloc (.deferred (some []))).alloc (.loop rec), _, _, gf, (fv ++ #[.func (.yield (w.heap.size + 1)) #[] #[]]) ++ cv, (w.alloc (.deferred (some []))).alloc (.loop rec), ?_, resolve_range hfv _, fun _ _ => trivial, ?_, fun e => (by cases e), ?_⟩
  ·rw [hrec]; exact run_enterLoop_outer _ _ _ _ _
  ·simp only [invoke, callFunc, Sem.run_bind, run_program, Result.andThen_ok, e1, e3, Bool.false_eq_true, if_false, e2, Option.isNone_some, Sem.run_pure]
  have hcall : CallsIn (FW none) (0 - 1) P gf ((fv ++ #[.func (.yield (w.heap.size + 1)) #[] #[]]) ++ cv) ((w.alloc (.deferred (some []))).alloc (.loop rec)) _ := (callsIn_wide (n := 0)).2 (hrun.run w0 _ _ _ _ hw2 hup hargs)
  refine hcall.mono ?_
  rintro e w3 ⟨v, M', own', rfl, q1, q2, q3, q4⟩
  have le3 : M.Le M' := (le1.trans le2).trans q3
  obtain ⟨l, r, q⟩ := q1.lp s.length k t5 ps5 ag5 bd5 hk
  have hbl : M'.box s.length = some (w.heap.size + 1) := q3.box _ _ (by simp [MM.withBox, hsz])
  have el : l = w.heap.size + 1 := by have := q.box; rw [hbl] at this; exact (Option.some.inj this).symm
  subst el
  have hnb : k ≠ .busy := by rcases hex with ⟨rfl, _⟩ | ⟨rfl, _⟩ | ⟨i, rfl, _⟩ <;> (intro e; cases e)
  have hst : r.state ≠ .busy := by
   rw [q.st]
   rcases hex with ⟨rfl, _⟩ | ⟨rfl, _⟩ | ⟨i, rfl, _⟩ <;> (intro e; cases e)
  have hw4 := q1.setLp (k' := .ready) (r' := { r with state := .exhausted }) q .dead (.inl rfl)
  have hlt : s.length < s2.length := by omega
  rw [← stAt_set hlt] at hw4
  have hd4 : DefsOK K M' ({ target := .collected w.heap.size, args := #[] } :: a.defers) := by
   obtain ⟨k0, bs, b1, b2, b3⟩ := hd
   have hnew : ∀ b, M.mrk b → b ≠ w.heap.size := fun b hb e => by
    have := (hw.mrk b hb).2
    rw [e] at this
    simp at this
   refine ⟨fun b hb => le3.mrk b (k0 b hb), w.heap.size :: bs, by rw [b1]; rfl, List.nodup_cons.2 ⟨fun hm => hnew _ (b3 _ hm).1 rfl, b2⟩, ?_⟩
   intro b hb
   rcases List.mem_cons.1 hb with rfl | hb
   ·exact ⟨q3.mrk _ (le2.mrk _ (.inr rfl)), fun hK => hnew _ (k0 _ hK) rfl⟩
   ·exact ⟨le3.mrk b (b3 b hb).1, (b3 b hb).2⟩
  have fin : ∃ M' own', WRel w0 M' own' (stAt (s2.set s.length .dead)) (putBlock w3 (w.heap.size + 1) (.loop { r with state := .exhausted })) ∧ M'.upto (s2.set s.length .dead).length ∧ M.Le M' ∧ RepL M' t a.tmps ∧ DefsOK K M' ({ target := .collected w.heap.size, args := #[] } :: a.defers) :=
   ⟨M', own', hw4, by rw [List.length_set]; exact q2, le3, ht.mono le3, hd4⟩
  refine ⟨k.pend, putBlock w3 (w.heap.size + 1) (.loop { r with state := .exhausted }), ?_, ?_⟩
  ·rw [← q.pd hnb]
   exact run_endLoop (P := P) q.blk hst
  ·rcases hex with ⟨rfl, rfl⟩ | ⟨rfl, rfl⟩ | ⟨i, rfl, rfl⟩
   ·exact ⟨trivial, fin⟩
   ·exact wpIn_ret ⟨trivial, fin⟩
   ·exact wpIn_exit ⟨rfl, fin⟩
variable {ρ' : Type} {r : ρ'}
theorem codec_out {inl : Inl P ρ'} (hinl : InlSound P inl) (hm : P.follows .mixedOrders = true) : ∀ {rd : Bool} (c : Code) {t : List D} {s : List Ob} {z : Z P} {K : Ex → List D → List Ob → Z P → Option ρ'}, codec P inl rd c t s z K = some r →
  ∃ ex t' s' z', K ex t' s' z' = some r ∧ (z'.c → z.c ∧ CodeRunR P rd c t s ex t' s')
 | rd, .skip, t, s, z, K, h => ⟨_, _, _, z, by simpa only [codec] using h, fun c => ⟨c, .skip t s⟩⟩
 | rd, .label l, t, s, z, K, h => ⟨_, _, _, z, by simpa only [codec] using h, fun c => ⟨c, .label l t s⟩⟩
 | rd, .exit i, t, s, z, K, h => ⟨_, _, _, z, by simpa only [codec] using h, fun c => ⟨c, .exit i t s⟩⟩
 | rd, .ret, t, s, z, K, h => ⟨_, _, _, z, by simpa only [codec] using h, fun c => ⟨c, .retC t s⟩⟩
 | rd, .scope x, t, s, z, K, h => by
  rw [codec] at h
  obtain ⟨ex, t', s', z', h1, h2⟩ := codec_out hinl hm x h
  exact ⟨ex, t', s', z', h1, fun c => ⟨(h2 c).1, (h2 c).2.scope⟩⟩
 | rd, .region id ops draw, t, s, z, K, h => by
  rw [codec] at h
  obtain ⟨tr, t', s', z', h1, h2⟩ := opsc_trace hinl h
  split at h1
  ·exact ⟨_, _, _, z', h1, fun c => ⟨(h2 c).1, .text (h2 c).2⟩⟩
  ·obtain ⟨hd, h1⟩ := chk_out h1
   exact ⟨_, _, _, z', h1, fun c => ⟨(h2 c).1, .draw hm (h2 c).2 hd⟩⟩
 | rd, .seq x y, t, s, z, K, h => by
  rw [codec] at h
  obtain ⟨ex, t1, s1, z1, h1, h2⟩ := codec_out hinl hm x h
  split at h1
  ·obtain ⟨ex', t2, s2, z2, h3, h4⟩ := codec_out hinl hm y h1
   exact ⟨ex', t2, s2, z2, h3, fun c => ⟨(h2 (h4 c).1).1, (h2 (h4 c).1).2.seqN (h4 c).2⟩⟩
  ·rename_i hne
   exact ⟨_, _, _, z1, h1, fun c => ⟨(h2 c).1, (h2 c).2.seqX hne⟩⟩
 | rd, .cond q x y, t, s, z, K, h => by
  rw [codec] at h
  split at h
  ·rename_i b hb
   obtain ⟨z1, ⟨h1, h2⟩ | ⟨h1, h2⟩⟩ := branch_out h
   ·obtain ⟨ex, t', s', z', h3, h4⟩ := codec_out hinl hm x h1
    exact ⟨ex, t', s', z', h3, fun c => ⟨(h2 (h4 c).1).1, .cond (b := true) (by rw [hb, (h2 (h4 c).1).2]) (h4 c).2⟩⟩
   ·obtain ⟨ex, t', s', z', h3, h4⟩ := codec_out hinl hm y h1
    exact ⟨ex, t', s', z', h3, fun c => ⟨(h2 (h4 c).1).1, .cond (b := false) (by rw [hb, (h2 (h4 c).1).2]) (h4 c).2⟩⟩
  ·cases h
 | rd, .block id x, t, s, z, K, h => by
  rw [codec] at h
  split at h
  ·rename_i sp n0 c' t1 s1 ex t2 s2 hg rest _
   split at h
   ·rename_i t' s' hh
    obtain ⟨hn, h'⟩ := chk_out h
    rw [Nat.beq_eq] at hn
    subst hn
    obtain ⟨z', h1, h2⟩ := clsc_out h'
    exact ⟨ex, t2, s2, _, h1, fun q => have k := (h2 q).1; ⟨k.2, .of_head (k.1.1 ▸ k.1.2.1 ▸ k.1.2.2 ▸ hg) hh (h2 q).2⟩⟩
   ·cases h
  ·obtain ⟨ex, t1, s1, z1, h1, h2⟩ := codec_out hinl hm x h
   split at h1
   ·rename_i i
    split at h1
    ·rename_i hi
     have hi : i = id := by simpa using hi
     subst hi
     exact ⟨_, _, _, z1, h1, fun c => ⟨(h2 c).1, (h2 c).2.blockN⟩⟩
    ·rename_i hi
     have hi : i ≠ id := fun e => by subst e; simp at hi
     exact ⟨_, _, _, z1, h1, fun c => ⟨(h2 c).1, (h2 c).2.blockX fun j hj => by cases hj; exact hi⟩⟩
   ·rename_i hne
    exact ⟨_, _, _, z1, h1, fun c => ⟨(h2 c).1, (h2 c).2.blockX fun j hj => absurd hj (hne j)⟩⟩
 | rd, .loop x, t, s, z, K, h => by
  rw [codec] at h
  split at h
  ·obtain ⟨ex, t', s', z', h1, h2⟩ := iter_out (c := x) (fun h => codec_out hinl hm x h) h
   exact ⟨ex, t', s', z', h1, fun k => ⟨(h2 k).1, .of_rounds (h2 k).2⟩⟩
  ·rename_i sp n0 c' t1 s1 ex t2 s2 hg rest _
   split at h
   ·rename_i t' s' hh
    obtain ⟨hn, h'⟩ := chk_out h
    rw [Nat.beq_eq] at hn
    subst hn
    obtain ⟨z', h1, h2⟩ := clsc_out h'
    exact ⟨ex, t2, s2, _, h1, fun q => have k := (h2 q).1; ⟨k.2, .of_head (k.1.1 ▸ k.1.2.1 ▸ k.1.2.2 ▸ hg) hh (h2 q).2⟩⟩
   ·cases h
  ·rename_i c' t1 s1 ex t2 s2 hg rest _
   exact ⟨ex, t2, s2, _, h, fun k => ⟨k.2, .any (k.1.1 ▸ k.1.2.1 ▸ k.1.2.2 ▸ hg) _⟩⟩
  ·cases h
 | rd, .rangeFunc g ps ag bd, t, s, z, K, h => by
  rw [codec] at h
  split at h
  ·split at h
   ·rename_i gf first cap hg
    rw [forceL_eq, pushOb_eq] at h
    obtain ⟨d, s2, z1, h1, h2⟩ := hinl (.fn gf) _ _ _ _ r h
    split at h1
    ·rename_i hk
     rw [setOb_eq] at h1
     exact ⟨_, _, _, z1, h1, fun c => ⟨(h2 c).1, CodeRunR.range hg (h2 c).2 hk (.inl ⟨rfl, rfl⟩)⟩⟩
    ·rename_i hk
     rw [setOb_eq] at h1
     exact ⟨_, _, _, z1, h1, fun c => ⟨(h2 c).1, CodeRunR.range hg (h2 c).2 hk (.inr (.inl ⟨rfl, rfl⟩))⟩⟩
    ·rename_i hk
     rw [setOb_eq] at h1
     exact ⟨_, _, _, z1, h1, fun c => ⟨(h2 c).1, CodeRunR.range hg (h2 c).2 hk (.inr (.inr ⟨_, rfl, rfl⟩))⟩⟩
    ·cases h1
   ·cases h
  ·rename_i c' t1 s1 ex t2 s2 hg rest _
   exact ⟨ex, t2, s2, _, h, fun k => ⟨k.2, .any (k.1.1 ▸ k.1.2.1 ▸ k.1.2.2 ▸ hg) _⟩⟩
  ·cases h
 | rd, .goto l, t, s, z, K, h => by
  rw [codec] at h
  split at h
  ·rename_i c' t1 s1 ex t2 s2 hg rest _
   exact ⟨ex, t2, s2, _, h, fun k => ⟨k.2, .any (k.1.1 ▸ k.1.2.1 ▸ k.1.2.2 ▸ hg) _⟩⟩
  ·cases h
  all_goals (intros; rename_i q; cases q)
 | rd, .refuse y, t, s, z, K, h => by
  rw [codec] at h
  split at h
  ·rename_i c' t1 s1 ex t2 s2 hg rest _
   exact ⟨ex, t2, s2, _, h, fun k => ⟨k.2, .any (k.1.1 ▸ k.1.2.1 ▸ k.1.2.2 ▸ hg) _⟩⟩
  ·cases h
  all_goals (intros; rename_i q; cases q)
def resF (tmps : Array Value) : ResultVar → Sem Value
  | .tmp t => pure (tmps.getD t undef)
  | .cell a t => do loadVar t (← asAddr (tmps.getD a undef))
theorem results_eq (fn : Func) (tmps : Array Value) : results fn tmps = (do
  let vs ← fn.results.mapM (resF tmps)
  pure (if h : vs.size = 1 then vs[0] else .tuple vs)) := by
 unfold results
 rfl
theorem resOne_run {w0 : Base} {M : MM} {own : Nat → Option Nat} {w : World} {t : List D} {s : List Ob} {tmps : Array Value} (hw : WRel w0 M own (stAt s) w) (ht : RepL M t tmps) {x : ResultVar} {d : D} (h : resOne P t s x = some d) :
  ∃ v, Rep M d v ∧ (resF tmps x).run P w = .ok v w := by
 cases x with
 | tmp i =>
  simp only [resOne, Option.some.injEq] at h
  subst h
  exact ⟨_, repL_getD ht i, by simp [resF]⟩
 | cell a ty =>
  simp only [resOne] at h
  split at h
  ·rename_i dyn id off hp
   split at h
   ·rename_i cs hb
    have hx := repL_getD ht a
    rw [hp] at hx
    generalize hv : tmps.getD a undef = v at hx
    cases hx with
    | ptr _ hbx =>
     rename_i b'
     obtain ⟨b, vs, tt, k⟩ := hw.box id cs hb
     rw [k.box] at hbx
     obtain rfl := Option.some.inj hbx
     have hcell : ∀ j c, cs[j]? = some c → w.cell? ⟨b, 0 + j, none⟩ = some (vs.getD j .nilFunc) ∧ Rep M c (vs.getD j .nilFunc) := by
      intro j c hj
      obtain ⟨u, hu, hru⟩ := repLe_get k.len k.rep hj
      rw [Array.getD_eq_getD_getElem?, hu]
      refine ⟨?_, hru⟩
      simp [World.cell?, k.blk, hu]
     have hp' : PartOK P ty cs off d := by
      split at h
      ·rename_i e he
       split at h
       ·rename_i ha
        split at h
        ·rename_i hk
         simp only [Bool.and_eq_true, Nat.ble_eq] at hk
         exact ⟨e, he, .inl ⟨ha, hk.2, (Option.some.inj h).symm⟩⟩
        ·cases h
       ·rename_i ha
        exact ⟨e, he, .inr ⟨ha, h⟩⟩
      ·cases h
     obtain ⟨u, h1, h2⟩ := run_loadVar_ok hp' (fun j => vs.getD j .nilFunc) hcell
     rw [Nat.zero_add] at h1
     refine ⟨u, h2, ?_⟩
     simp only [resF, hv, asAddr, Sem.run_bind, Sem.run_pure, Result.andThen_ok, h1]
   ·cases h
  ·cases h
theorem resL_run {w0 : Base} {M : MM} {own : Nat → Option Nat} {w : World} {t : List D} {s : List Ob} {tmps : Array Value} (hw : WRel w0 M own (stAt s) w) (ht : RepL M t tmps) : ∀ {l : List ResultVar} {ds : List D}, resL P t s l = some ds →
  ∃ vs : List Value, ds.length = vs.length ∧ (∀ (i : Nat) (d : D) (v : Value), ds[i]? = some d → vs[i]? = some v → Rep M d v) ∧ Sem.run P (List.mapM (resF tmps) l) w = .ok vs w
 | [], ds, h => by
  simp only [resL, Option.some.injEq] at h
  subst h
  exact ⟨[], rfl, fun i d v h => by simp at h, by simp⟩
 | x :: l, ds, h => by
  simp only [resL] at h
  split at h
  ·rename_i d ds' hd hl
   obtain rfl := Option.some.inj h
   obtain ⟨v, h1, h2⟩ := resOne_run hw ht hd
   obtain ⟨vs, k1, k2, k3⟩ := resL_run hw ht hl
   refine ⟨v :: vs, by simp [k1], ?_, ?_⟩
   ·intro i d' v' a b
    cases i with
    | zero => simp at a b; subst a b; exact h1
    | succ i => simp at a b; exact k2 i d' v' a b
   ·rw [List.mapM_cons, Sem.run_bind, h2, Result.andThen_ok, Sem.run_bind, k3, Result.andThen_ok, Sem.run_pure]
  ·cases h
theorem results_run {w0 : Base} {M : MM} {own : Nat → Option Nat} {w : World} {t : List D} {s : List Ob} {tmps : Array Value} {fn : Func} (hw : WRel w0 M own (stAt s) w) (ht : RepL M t tmps) {ds : List D} (h : resL P t s fn.results.toList = some ds) :
  ∃ v, Rep M (resD ds) v ∧ (results fn tmps).run P w = .ok v w := by
 obtain ⟨vs, k1, k2, k3⟩ := resL_run hw ht h
 have e : (results fn tmps).run P w = .ok (if h : vs.length = 1 then vs[0] else .tuple vs.toArray) w := by
  have hr : fn.results = fn.results.toList.toArray := by simp
  rw [results_eq, hr, List.mapM_toArray, Sem.run_bind]
  rw [show (List.toArray <$> List.mapM (resF tmps) fn.results.toList : Sem (Array Value)).run P w = .ok vs.toArray w by
   rw [map_eq_pure_bind, Sem.run_bind, k3]; simp]
  simp
 refine ⟨_, ?_, e⟩
 cases ds with
 | nil =>
  cases vs with
  | nil => simp only [resD]; exact .tup rfl (fun i d v a => by simp at a)
  | cons a b => simp at k1
 | cons d ds =>
  cases ds with
  | nil =>
   cases vs with
   | nil => simp at k1
   | cons a b =>
    cases b with
    | nil => simp only [resD]; exact k2 0 d a rfl rfl
    | cons b c => simp at k1
  | cons d2 ds =>
   cases vs with
   | nil => simp at k1
   | cons a b =>
    cases b with
    | nil => simp at k1
    | cons b c => simp only [resD]; exact .tup (by simpa using k1) (fun i d v p q => k2 i d v p (by simpa using q))
theorem leaves_marks {fn : Func} {tmps : Array Value} {R : Ending → World → Prop} {w0 : Base} {own : Nat → Option Nat} {σ : Nat → Ob} : ∀ (bs : List Nat) {M : MM} {w : World}, WRel w0 M own σ w → bs.Nodup → (∀ b ∈ bs, M.mrk b) →
  (∀ (f : Nat → Prop) (w2 : World), (∀ b, M.mrk b → b ∉ bs → f b) → WRel w0 { M with mrk := f } own σ w2 → ∃ v, (results fn tmps).run P w2 = .ok v w2 ∧ R (.returned v) w2) →
  LeavesInM Fence.wide 0 P fn tmps R (bs.map fun b => { target := .collected b, args := #[] }) .returning w
 | [], M, w, hw, _, _, h => h M.mrk w (fun _ hb _ => hb) hw
 | b :: bs, M, w, hw, hn, hb, h => by
  obtain ⟨hn1, hn2⟩ := List.nodup_cons.1 hn
  refine ⟨fun e => (by cases e), .inl ⟨b, _, rfl, run_takeDeferred (hw.mrk b (hb b (by simp))).2, ?_⟩⟩
  refine leaves_marks bs (hw.takeMk (hb b (by simp))) hn2 (fun c hc => ⟨hb c (by simp [hc]), fun e => hn1 (e ▸ hc)⟩) fun f w2 hf hw2 => ?_
  exact h f w2 (fun c hc hm => hf c ⟨hc, fun e => hm (by simp [e])⟩ (fun hm2 => hm (by simp [hm2]))) hw2
theorem bodyc_out {inl : Inl P ρ'} (hinl : InlSound P inl) (hm : P.follows .mixedOrders = true) {f : FuncId} {fn : Func} (hf : P.funcs[f]? = some fn) (hn : (fn.name == "runtime.NumGoroutine") = false)
  {args : List D} {s : List Ob} {z : Z P} {K : D → List Ob → Z P → Option ρ'} (h : bodyc P inl fn args s z K = some r) : ∃ d s' z', K d s' z' = some r ∧ (z'.c → z.c ∧ CallRun P f args s d s') := by
 unfold bodyc at h
 split at h
 ·rename_i c hc
  obtain ⟨hle, h⟩ := chk_out h
  rw [forceL_eq] at h
  obtain ⟨ex, t', s', z', h1, h2⟩ := codec_out (rd := false) hinl hm c h
  have main : ∀ {l}, resL P t' s' fn.results.toList = some l → (∀ i, ex ≠ .exit i) → CodeRunR P false c (args ++ List.replicate (fn.ntmps - args.length) .undef) s ex t' s' → CallRun P f args s (resD l) s' := by
   intro l hl hex hrun
   refine ⟨⟨fn, c, hf, hc, hn⟩, hrun.len, ?_⟩
   intro w0 M own w vs hw hu ha
   refine (callsIn_wide (n := 0)).1 (callsIn_of_wp_marks hf hc trivial (wpIn_mono (hrun.run none (fun _ => rfl) M.mrk w0 M own w _ hw hu ?_ ⟨fun _ h => h, [], rfl, List.nodup_nil, fun b hb => by cases hb⟩) ?_))
   ·refine ha.append ⟨by simp [ha.1], fun i d v p q => ?_⟩
    rw [List.getElem?_replicate] at p
    split at p
    ·obtain rfl := Option.some.inj p; exact .undef v
    ·cases p
   ·rintro e a' w' ⟨h0, M', own', q1, q2, q3, q4, _, bs, b1, b2, b3⟩
    have fin : LeavesInM Fence.wide 0 P fn a'.tmps (fun e w' => ∃ v M' own', e = .returned v ∧ WRel w0 M' own' (stAt s') w' ∧ M'.upto s'.length ∧ M.Le M' ∧ Rep M' (resD l) v) a'.defers .returning w' := by
     rw [b1]
     refine leaves_marks bs q1 b2 (fun b hb => (b3 b hb).1) fun f w2 hf2 hw2 => ?_
     have q4' : RepL { M' with mrk := f } t' a'.tmps := ⟨q4.1, fun i d v p q => (q4.2 i d v p q).noMk⟩
     obtain ⟨v, r1, r2⟩ := results_run hw2 q4' hl
     exact ⟨v, r2, v, _, own', rfl, hw2, ⟨q2.1, q2.2⟩, ⟨q3.cell, q3.box, q3.hist, fun b hb => hf2 b (q3.mrk b hb) (fun hm => (b3 b hm).2 hb)⟩, r1⟩
    cases ex with
    | exit i => exact absurd rfl (hex i)
    | norm => cases e <;> simp only [Ex.is] at h0; exact fin
    | ret => cases e <;> simp only [Ex.is] at h0; exact fin
  split at h1
  ·cases h1
  ·rename_i hex
   split at h1
   ·rename_i l hl
    exact ⟨_, _, z', h1, fun c => ⟨(h2 c).1, main hl (fun i hi => hex i hi) (h2 c).2⟩⟩
   ·cases h1
 ·cases h
theorem roundc_out {inl : Inl P ρ'} (hinl : InlSound P inl) (hm : P.follows .mixedOrders = true) {id : Nat} {args : List D} {s : List Ob} {z : Z P} {K : D → List Ob → Z P → Option ρ'} (h : roundc P inl id args s z K = some r) :
  ∃ d s' z', K d s' z' = some r ∧ (z'.c → z.c ∧ YldRun P id args s d s') := by
 unfold roundc at h
 split at h
 ·rename_i t ps ag bd hs
  obtain ⟨hle, h⟩ := chk_out h
  rw [Nat.beq_eq] at hle
  rw [forceL_eq] at h
  obtain ⟨ex, t2, s2, z1, h1, h2⟩ := codec_out (rd := true) hinl hm ag h
  split at h1
  ·split at h1
   ·rename_i t' ps' ag' bd' hs2
    rw [setOb_eq] at h1
    obtain ⟨ex2, t4, s4, z2, h3, h4⟩ := codec_out (rd := true) hinl hm bd h1
    split at h3
    ·rename_i t5 ps5 ag5 bd5 hs4
     have main : ∀ (k : Lk) (j : Option Code), ((ex2 = .norm ∧ k = .ready ∧ j = none) ∨ (ex2 = .ret ∧ k = .ret ∧ j = some .ret) ∨ ∃ i, ex2 = .exit i ∧ k = .exit i ∧ j = some (.exit i)) →
       CodeRunR P true ag (setPs t (ps.toList.zip args)) s .norm t2 s2 → CodeRunR P true bd t2 (s2.set id (.lp .busy t' ps' ag' bd')) ex2 t4 s4 → YldRun P id args s (.bool j.isNone) (s4.set id (.lp k t5 ps5 ag5 bd5)) := by
      intro k j hkj hrun1 hrun2
      have hl2 := hrun2.len
      rw [List.length_set] at hl2
      refine ⟨by rw [List.length_set]; exact Nat.le_trans hrun1.len hl2, ?_⟩
      intro w0 M own w vs l hw hu ha hb
      obtain ⟨l', rc, q⟩ := hw.lp id _ _ _ _ _ hs
      obtain rfl : l' = l := by have := q.box; rw [hb] at this; exact (Option.some.inj this).symm
      have hsz : vs.size = rc.params.size := by rw [← ha.1, hle, q.ps]
      refine ⟨_, _, _, _, run_yield q.blk hsz, ?_⟩
      have htm : RepL M (setPs t (ps.toList.zip args)) ((rc.params.zip vs).foldl (fun tmps (x : Nat × Value) => tmps.setIfInBounds x.1 x.2) rc.tmps) := by
       have := RepL.setPs (ps := ps.toList) (args := args) (vs := vs.toList) q.tm (by rw [ha.1]; simp) (fun i d v p u => ha.2 i d v p (by simpa using u))
       rw [q.ps, ← Array.foldl_toList, Array.toList_zip]
       exact this
      refine roundIn_of_wpIn (F := Fence.wide) (n := 0) trivial ?_
      rw [q.ag, q.bd]
      refine wpIn_mono (hrun1.run (some l') (fun e => by cases e) M.mrk w0 M own w _ hw hu htm ⟨fun _ h => h, [], rfl, List.nodup_nil, fun b hb => by cases hb⟩) ?_
      rintro e a1 w1 ⟨h0, M1, own1, q1, q2, q3, q4, q5⟩
      cases e <;> simp only [Ex.is] at h0
      obtain ⟨l1, rc1, p1⟩ := q1.lp id _ _ _ _ _ hs2
      obtain rfl : l1 = l' := by have := p1.box; rw [q3.box _ _ hb] at this; exact (Option.some.inj this).symm
      have hlt2 := lt_of_getD (s := s2) (i := id) (by rw [hs2]; simp)
      have hw2 := q1.setLp (k' := .busy) (r' := { rc1 with state := .busy }) p1 (.lp .busy t' ps' ag' bd') (.inr ⟨rfl, rfl, fun e => absurd rfl e, rfl, rfl, rfl, rfl⟩)
      rw [← stAt_set hlt2] at hw2
      refine ⟨_, run_beginRound p1.blk p1.st, ?_⟩
      refine wpIn_mono (hrun2.run (some l1) (fun e => by cases e) M.mrk w0 M1 own1 _ a1 hw2 (by rw [List.length_set]; exact q2) q4 q5) ?_
      rintro e2 a2 w3 ⟨h0', M2, own2, u1, u2, u3, u4, u5⟩
      obtain ⟨l2, rc2, p2⟩ := u1.lp id _ _ _ _ _ hs4
      obtain rfl : l2 = l1 := by have := p2.box; rw [u3.box _ _ (q3.box _ _ hb)] at this; exact (Option.some.inj this).symm
      have hlt4 := lt_of_getD (s := s4) (i := id) (by rw [hs4]; simp)
      have hw4 := u1.setLp (k' := k) (r' := { rc2 with state := if j.isNone then .ready else .done, pending := j }) p2 (.lp k t5 ps5 ag5 bd5) (.inr ⟨rfl, by
       rcases hkj with ⟨_, rfl, rfl⟩ | ⟨_, rfl, rfl⟩ | ⟨i, _, rfl, rfl⟩ <;> rfl, fun _ => by
       rcases hkj with ⟨_, rfl, rfl⟩ | ⟨_, rfl, rfl⟩ | ⟨i, _, rfl, rfl⟩ <;> rfl, rfl, rfl, rfl, rfl⟩)
      rw [← stAt_set hlt4] at hw4
      have fin : ∃ v w', (Instr.endRound l2 j).run P w3 = .ok v w' ∧ ∃ v' M' own', Ending.returned v = .returned v' ∧ WRel w0 M' own' (stAt (s4.set id (.lp k t5 ps5 ag5 bd5))) w' ∧ M'.upto (s4.set id (.lp k t5 ps5 ag5 bd5)).length ∧ M.Le M' ∧ Rep M' (.bool j.isNone) v' :=
       ⟨_, _, run_endRound j p2.blk, _, M2, own2, rfl, hw4, by rw [List.length_set]; exact u2, q3.trans u3, .bool _⟩
      rcases hkj with ⟨rfl, rfl, rfl⟩ | ⟨rfl, rfl, rfl⟩ | ⟨i, rfl, rfl, rfl⟩
      ·cases e2 <;> simp only [Ex.is] at h0'
       exact fin
      ·cases e2 <;> simp only [Ex.is] at h0'
       exact fin
      ·cases e2 <;> simp only [Ex.is] at h0'
       subst h0'
       exact fin
     split at h3
     ·rw [setOb_eq] at h3
      exact ⟨_, _, z2, h3, fun c => ⟨(h2 (h4 c).1).1, main .ready none (.inl ⟨rfl, rfl, rfl⟩) (h2 (h4 c).1).2 (h4 c).2⟩⟩
     ·rw [setOb_eq] at h3
      exact ⟨_, _, z2, h3, fun c => ⟨(h2 (h4 c).1).1, main .ret (some .ret) (.inr (.inl ⟨rfl, rfl, rfl⟩)) (h2 (h4 c).1).2 (h4 c).2⟩⟩
     ·rename_i i
      rw [setOb_eq] at h3
      exact ⟨_, _, z2, h3, fun c => ⟨(h2 (h4 c).1).1, main (.exit i) (some (.exit i)) (.inr (.inr ⟨i, rfl, rfl, rfl⟩)) (h2 (h4 c).1).2 (h4 c).2⟩⟩
    ·cases h3
   ·cases h1
  ·cases h1
 ·cases h
theorem inlN_sound (hm : P.follows .mixedOrders = true) : ∀ n : Nat, InlSound P (inlN (ρ := ρ') P n)
 | 0 => fun g args s z K r h => by simp [inlN] at h
 | n + 1 => fun g args s z K r h => by
  rw [inlN] at h
  simp only [] at h
  cases g with
  | fn f =>
   simp only [] at h
   split at h
   ·rename_i fn hf
    obtain ⟨hn, h⟩ := chk_out h
    exact bodyc_out (inlN_sound hm n) hm hf (by simpa using hn) h
   ·cases h
  | yl id =>
   simp only [] at h
   exact roundc_out (inlN_sound hm n) hm h
end
section
variable {P : Program}
theorem rep_outFlag {M : MM} {s : List Ob} {d : D} {v : Value} (h : Rep M d v) (hc : d.clean = true) : Rep (bareOf M.cell) (outFlag s d) v := by
 unfold outFlag
 split
 ·rename_i id ver sz xs
  have h1 := h.toBare hc
  have : ∀ o : Own, (o = .no ∨ ∃ k, o = .fresh k) → Rep (bareOf M.cell) (.lst o sz xs) v := by
   intro o ho
   cases h1 with
   | lst b off vs hl hcap ha hsz hcc hr hst _ => exact .lst b off vs hl hcap ha hsz hcc hr hst (by rcases ho with rfl | ⟨k, rfl⟩ <;> trivial)
  split
  ·split
   ·exact this _ (.inr ⟨_, rfl⟩)
   ·exact this _ (.inl rfl)
  ·exact this _ (.inl rfl)
 ·exact h.toBare hc
theorem demote_fresh {d : D} {sz sz' : Nat} {xs : List D} : d.demote ≠ .lst (.fresh sz) sz' xs := by
 intro h
 cases d <;> simp only [D.demote, reduceCtorEq] at h
 case lst o _ _ => cases o <;> simp [Own.demote] at h
theorem outFlag_fresh {w0 : Base} {M : MM} {own : Nat → Option Nat} {w : World} {s : List Ob} (hw : WRel w0 M own (stAt s) w) {d : D} {v : Value} (h : Rep M d v) {sz sz' : Nat} {xs : List D} (e : outFlag s d = .lst (.fresh sz) sz' xs) :
  ∃ a len cap, v = .slice a len cap ∧ sz' = sz ∧ FreshRoom w0.w.heap.size w M.cell sz a len cap := by
 unfold outFlag at e
 split at e
 ·rename_i id ver sz0 xs0
  split at e
  ·rename_i v' sz2 hs
   split at e
   ·rename_i hb
    simp only [Bool.and_eq_true, Nat.beq_eq] at hb
    obtain ⟨rfl, rfl⟩ := hb
    simp only [D.lst.injEq, Own.fresh.injEq] at e
    obtain ⟨rfl, rfl, rfl⟩ := e
    obtain ⟨a, len, cap, k⟩ := hw.fam id ver sz0 hs
    cases h with
    | lst b off vs hl hcap ha hsz hcc hr hst ho =>
     have : M.hist id ver = some _ := ho
     rw [k.hist] at this
     obtain ⟨rfl, rfl, rfl⟩ := Value.slice.inj (Option.some.inj this)
     refine ⟨_, _, _, rfl, rfl, ?_⟩
     rcases k.room with q | ⟨b, vs, ty, fz, q, r⟩
     ·exact .inl q
     ·exact .inr ⟨b, vs, ty, fz, q, r.base, r.blk, r.fz, r.cap, r.none⟩
   ·cases e
  ·cases e
 ·exact absurd e demote_fresh
theorem rep_outD {w0 : Base} {M : MM} {own : Nat → Option Nat} {w : World} {s : List Ob} (hw : WRel w0 M own (stAt s) w) {d : D} {v : Value} (h : Rep M d v) (hc : d.clean = true) : Rep (bareOf M.cell) (outD s d) v ∧ FreshD w0.w.heap.size w M.cell (outD s d) v := by
 by_cases ht : ∃ ds, d = .tup ds
 ·obtain ⟨ds, rfl⟩ := ht
  cases h with
  | tup hl r =>
   rename_i vs
   rw [D.clean, D.cleanL_eq, List.all_eq_true] at hc
   refine ⟨.tup (by simpa using hl) ?_, ?_, ?_⟩
   ·intro i d v a b
    rw [List.getElem?_map, Option.map_eq_some_iff] at a
    obtain ⟨d0, h0, rfl⟩ := a
    exact rep_outFlag (r i d0 v h0 b) (hc _ (List.mem_of_getElem? h0))
   ·intro sz sz' xs e; simp [outD] at e
   ·intro ds' vs' e1 e2 i sz sz' xs hi
    simp only [outD, D.tup.injEq] at e1
    obtain rfl := Value.tuple.inj e2
    subst e1
    rw [List.getElem?_map, Option.map_eq_some_iff] at hi
    obtain ⟨d0, h0, e⟩ := hi
    have hlt : i < vs.size := by
     rw [← hl]
     rcases Nat.lt_or_ge i ds.length with q | q
     ·exact q
     ·rw [List.getElem?_eq_none q] at h0; cases h0
    obtain ⟨a, len, cap, k1, k2, k3⟩ := outFlag_fresh hw (r i d0 vs[i] h0 (by simp [hlt])) e
    exact ⟨a, len, cap, by simp [hlt, k1], k2, k3⟩
 ·have e : outD s d = outFlag s d := by
   cases d <;> first | rfl | exact absurd ⟨_, rfl⟩ ht
  rw [e]
  refine ⟨rep_outFlag h hc, fun sz sz' xs q => outFlag_fresh hw h q, fun ds vs q => ?_⟩
  exfalso
  unfold outFlag at q
  split at q
  ·split at q
   ·split at q <;> cases q
   ·cases q
  ·cases d <;> simp only [D.demote, reduceCtorEq] at q
   exact ht ⟨_, rfl⟩
theorem Ret.of_eval (hm : P.follows .mixedOrders = true) {f : FuncId} {fn : Func} (hf : P.funcs[f]? = some fn) (hn : (fn.name == "runtime.NumGoroutine") = false) {args : List D} {d : D} (o : List (Ev P))
  (h : evalRet P fn args o = some (d, selfs o True)) : Ret P f args d := by
 unfold evalRet at h
 obtain ⟨d0, s', z', h1, h2⟩ := bodyc_out (inlN_sound hm 20) hm hf hn h
 obtain ⟨hc, h1⟩ := chk_out h1
 split at h1
 ·simp only [Option.some.injEq, Prod.mk.injEq] at h1
  obtain ⟨rfl, hz⟩ := h1
  have hrun := (h2 (by rw [hz]; exact selfs_true o trivial)).2
  refine ⟨hrun.ent, fun w C vs hC ha => Calls.mono (hrun.run ⟨w, C⟩ (bareOf C) (fun _ => none) w vs ?_ ⟨fun _ _ => rfl, fun _ _ _ => rfl⟩ ha) ?_⟩
  ·refine ⟨.refl _ _, hC, ?_, ?_, ?_, ?_, ?_, ?_, fun b hb => hb.elim⟩
   ·intro b o v k _; exact k
   ·intro b i k; cases k
   ·intro i cs k; simp [stAt] at k
   ·intro i v sz k; simp [stAt] at k
   ·intro i F q; simp [stAt, Ob.mapF] at q
   ·intro i k t ps ag bd q; simp [stAt] at q
  ·rintro e w' ⟨v, M', own', rfl, q1, q2, q3, q4⟩
   obtain ⟨r1, r2⟩ := rep_outD q1 q4 hc
   exact ⟨v, M'.cell, rfl, ⟨q1.below, q3.cell, q1.old, q1.cells⟩, r1, r2⟩
 ·cases h1
theorem Ret.cast {f : FuncId} {args args' : List D} {d d' : D} (h : Ret P f args d) (ha : args = args') (hd : d = d') : Ret P f args' d' := ha ▸ hd ▸ h
theorem CodeRun.of_eval (hm : P.follows .mixedOrders = true) {c : Code} {t : List D} {s : List Ob} {ex : Ex} {t' : List D} {s' : List Ob} (o : List (Ev P))
  (h : evalCode P c t s o = some ((ex, t', s'), selfs o True)) : CodeRun P c t s ex t' s' := by
 unfold evalCode at h
 obtain ⟨ex1, t1, s1, z', h1, h2⟩ := codec_out (rd := true) (inlN_sound hm 20) hm c h
 split at h1
 ·simp only [Option.some.injEq, Prod.mk.injEq] at h1
  obtain ⟨⟨rfl, rfl, rfl⟩, hz⟩ := h1
  exact (h2 (by rw [hz]; exact selfs_true o trivial)).2
 ·cases h1
structure RoundRun (P : Program) (c : Code) (sp : HS) (n0 : Nat) (t : List D) (s : List Ob) (ex : Ex) (t' : List D) (s' : List Ob) : Prop where
  run : ∃ t1 s1, CodeRun P c t s ex t1 s1 ∧ headc sp n0 t1 s1 = some (t', s') ∧ headOK sp t1 s1
theorem RoundRun.of_eval (hm : P.follows .mixedOrders = true) {c : Code} {sp : HS} {n0 : Nat} {t : List D} {s : List Ob} {ex : Ex} {t' : List D} {s' : List Ob} (o : List (Ev P))
  (h : evalRound P c sp n0 t s o = some ((ex, t', s'), selfs o True)) : RoundRun P c sp n0 t s ex t' s' := by
 unfold evalRound at h
 obtain ⟨ex1, t1, s1, z', h1, h2⟩ := codec_out (rd := true) (inlN_sound hm 20) hm c h
 split at h1
 ·rename_i t2 s2 hh
  obtain ⟨z2, h3, h4⟩ := clsc_out h1
  split at h3
  ·simp only [Option.some.injEq, Prod.mk.injEq] at h3
   obtain ⟨⟨rfl, rfl, rfl⟩, hz⟩ := h3
   have hz2 := h4 (by rw [hz]; exact selfs_true o trivial)
   exact ⟨t1, s1, (h2 hz2.1).2, hh, hz2.2⟩
  ·cases h3
 ·cases h1
theorem Rounds.more {c : Code} {sp : HS} {n0 : Nat} {t t2 : List D} {s s2 : List Ob} {ex : Ex} {t' : List D} {s' : List Ob} (h : RoundRun P c sp n0 t s .norm t2 s2) (k : Rounds P c n0 t2 s2 ex t' s') : Rounds P c n0 t s ex t' s' :=
 let ⟨_, _, h1, h2, h3⟩ := h.run
 .again sp h1 h2 h3 k
theorem Rounds.last {c : Code} {sp : HS} {n0 : Nat} {t : List D} {s : List Ob} {ex : Ex} {t' : List D} {s' : List Ob} (h : RoundRun P c sp n0 t s ex t' s') (hx : ex ≠ .norm) : Rounds P c n0 t s ex t' s' :=
 let ⟨_, _, h1, h2, h3⟩ := h.run
 .out sp h1 hx h2 h3
def deadO (keep : List Nat) : Nat → List Ob → List Ob
  | _, [] => []
  | i, o :: r => (match memN i keep with | true => o | false => .dead) :: deadO keep (i + 1) r
def evalCall (P : Program) (g : FuncId) (args : List D) (s : List Ob) (keep : List Nat) (o : List (Ev P)) : Option ((D × List Ob) × Prop) :=
  inlN P 20 (.fn g) args s ⟨o, True⟩ fun d s' z => match z.o with | [] => some ((d, deadO keep 0 s'), z.c) | _ => none
theorem deadO_len (keep : List Nat) : ∀ (s : List Ob) (i : Nat), (deadO keep i s).length = s.length
 | [], _ => rfl
 | o :: r, i => by simp [deadO, deadO_len keep r]
theorem deadO_at (keep : List Nat) : ∀ (s : List Ob) (i k : Nat), (deadO keep i s).getD k .dead = s.getD k .dead ∨ (deadO keep i s).getD k .dead = .dead
 | [], _, _ => .inl rfl
 | o :: r, i, 0 => by
  simp only [deadO, List.getD_cons_zero]
  split
  ·exact .inl rfl
  ·exact .inr rfl
 | o :: r, i, k + 1 => by simp only [deadO, List.getD_cons_succ]; exact deadO_at keep r (i + 1) k
theorem WRel.sub {w0 : Base} {M : MM} {own : Nat → Option Nat} {σ σ' : Nat → Ob} {w : World} (h : WRel w0 M own σ w) (hs : ∀ i, σ' i = σ i ∨ σ' i = .dead) : WRel w0 M own σ' w := by
 have at' : ∀ {i : Nat} {o : Ob}, σ' i = o → o ≠ .dead → σ i = o := fun {i o} e hn => by
  rcases hs i with q | q
  ·rw [← q]; exact e
  ·exact absurd (e ▸ q : o = .dead) hn
 exact ⟨h.below, h.cells, h.old, h.owned, fun i cs e => h.box i cs (at' e (by simp)), fun i v sz e => h.fam i v sz (at' e (by simp)), (fun i F e => (hs i).elim (fun q => h.mp i F (by rw [← q]; exact e)) (fun q => by rw [q] at e; cases e)),
  fun i k t ps ag bd e => h.lp i k t ps ag bd (at' e (by simp)), h.mrk⟩
theorem CallRun.of_eval (hm : P.follows .mixedOrders = true) {g : FuncId} {args : List D} {s : List Ob} {d : D} {s' : List Ob} {keep : List Nat} (o : List (Ev P))
  (h : evalCall P g args s keep o = some ((d, s'), selfs o True)) : CallRun P g args s d s' := by
 unfold evalCall at h
 obtain ⟨d1, s1, z', h1, h2⟩ := inlN_sound hm 20 (.fn g) args s _ _ _ h
 split at h1
 ·simp only [Option.some.injEq, Prod.mk.injEq] at h1
  obtain ⟨⟨rfl, rfl⟩, hz⟩ := h1
  have hrun : CallRun P g args s d1 s1 := (h2 (by rw [hz]; exact selfs_true o trivial)).2
  refine ⟨hrun.ent, by rw [deadO_len]; exact hrun.len, fun w0 M own w vs hw hu ha => Calls.mono (hrun.run w0 M own w vs hw hu ha) ?_⟩
  rintro e w' ⟨v, M', own', rfl, q1, q2, q3, q4⟩
  exact ⟨v, M', own', rfl, q1.sub (fun i => deadO_at keep s1 0 i), by rw [deadO_len]; exact q2, q3, q4⟩
 ·cases h1
theorem CallRun.cast {g : FuncId} {args : List D} {s : List Ob} {d d' : D} {s1 s2 : List Ob} (h : CallRun P g args s d s1) (h1 : d = d') (h2 : s1 = s2) : CallRun P g args s d' s2 := h1 ▸ h2 ▸ h
end
variable {P : Program}
def frzD (s : List Ob) (id sz n : Nat) : Option D := match s.getD id .dead with
  | .box cs => match Nat.beq cs.length (n * sz) && cs.all D.clean && cs.all (fun c => storable c.demote) with
    | true => some (.lst .no sz (rows sz n (cs.map D.demote)))
    | false => none
  | _ => none
def evalRetF (P : Program) (fn : Func) (args : List D) (o : List (Ev P)) : Option (D × Prop) :=
  bodyc P (inlN P 20) fn args [] ⟨o, True⟩ fun d s z => match d with
    | .tup (.slc id sz n :: r) => match frzD s id sz n with
      | some x => chk (r.all D.clean) (match z.o with | [] => some (.tup (x :: r.map D.demote), z.c) | _ => none)
      | none => none
    | _ => none
theorem Ret.of_ptr {f : FuncId} {args : List D} {q : Bool} {id off : Nat} {s' : List Ob} (hrun : CallRun P f args [] (.ptr q id off) s') : Ret P f args (.eptr false (.agg []) off) := by
 refine ⟨hrun.ent, fun w C vs hC ha => Calls.mono (hrun.run ⟨w, C⟩ (bareOf C) (fun _ => none) w vs ?_ ⟨fun _ _ => rfl, fun _ _ _ => rfl⟩ ha) ?_⟩
 ·refine ⟨.refl _ _, hC, ?_, ?_, ?_, ?_, ?_, ?_, fun b hb => hb.elim⟩
  ·intro b o v k _; exact k
  ·intro b i k; cases k
  ·intro i cs k; simp [stAt] at k
  ·intro i v sz k; simp [stAt] at k
  ·intro i F q; simp [stAt, Ob.mapF] at q
  ·intro i k t ps ag bd q; simp [stAt] at q
 ·rintro e w' ⟨v, M', own', rfl, q1, q2, q3, q4⟩
  cases q4 with
  | ptr _ hb =>
   rename_i b
   refine ⟨_, M'.cell, rfl, ⟨q1.below, q3.cell, q1.old, q1.cells⟩, ?_, ⟨fun sz sz' xs e => (by cases e), fun ds us e => (by cases e)⟩⟩
   have := Rep.eptr (M := bareOf M'.cell) false (x := .agg []) (cs := []) (off := off) (b := b) (base := 0) (fun _ => .nilFunc) rfl (fun j c hj => by simp at hj) (fun j c hj => by simp at hj)
   rw [Nat.zero_add] at this
   exact this
def evalRetS (P : Program) (fn : Func) (args : List D) (o : List (Ev P)) : Option ((D × List Ob) × Prop) :=
  bodyc P (inlN P 20) fn args [] ⟨o, True⟩ fun d s z => match z.o with | [] => some ((d, s), z.c) | _ => none
def frzT (s : List Ob) (d : D) : Option D := match d with
  | .tup (.slc id sz n :: r) => match frzD s id sz n with
    | some x => some (.tup (x :: r.map D.demote))
    | none => none
  | _ => none
end Go.Ev
