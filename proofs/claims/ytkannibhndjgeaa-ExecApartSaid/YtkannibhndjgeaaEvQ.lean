/- A loop's head: the state is brought into its form; the loop comes to what its rounds come to. -/
import Derived.Test.YtkannibhndjgeaaEvN
import Derived.LoopN
namespace Go.Ev
open Go Go.RowKit
set_option linter.unusedVariables false
set_option linter.unusedSimpArgs false

theorem memN_iff {i : Nat} : ∀ {l : List Nat}, memN i l = true ↔ i ∈ l
  | [] => by simp [memN]
  | a :: r => by
    unfold memN
    split
    · rename_i h; rw [Nat.beq_eq] at h; subst h; simp
    · rename_i h
      rw [memN_iff]
      have : a ≠ i := fun e => by subst e; simp at h
      simp [Ne.symm this]

theorem MM.cut_le (M : MM) (n : Nat) : (M.cut n).Le M := by
  refine ⟨fun _ _ _ h => h, fun i b h => ?_, fun i v b h => ?_⟩
  · simp only [MM.cut] at h
    split at h
    · exact h
    · cases h
  · simp only [MM.cut] at h
    split at h
    · exact h
    · cases h
theorem MM.cut_mono {M M' : MM} (h : M.Le M') (n : Nat) : (M.cut n).Le (M'.cut n) := by
  refine ⟨h.cell, fun i b k => ?_, fun i v b k => ?_⟩
  · simp only [MM.cut] at k ⊢
    split at k
    · rename_i q; rw [if_pos q]; exact h.box _ _ k
    · cases k
  · simp only [MM.cut] at k ⊢
    split at k
    · rename_i q; rw [if_pos q]; exact h.hist _ _ _ k
    · cases k
theorem MM.cut_cut {M : MM} {n : Nat} : ((M.cut n).cut n) = M.cut n := by
  unfold MM.cut
  congr 1
  · funext i; by_cases h : i < n <;> simp [h]
  · funext i v; by_cases h : i < n <;> simp [h]
theorem MM.le_cut {M : MM} {n : Nat} (h : M.upto n) : M.Le (M.cut n) := by
  refine ⟨fun _ _ _ h => h, fun i b k => ?_, fun i v b k => ?_⟩
  · simp only [MM.cut]
    split
    · exact k
    · rw [h.1 i (by omega)] at k; cases k
  · simp only [MM.cut]
    split
    · exact k
    · rw [h.2 i v (by omega)] at k; cases k

theorem idsBL_eq (n : Nat) : ∀ l : List D, idsBL n l = l.all (idsB n)
  | [] => by simp [idsBL]
  | d :: r => by simp [idsBL, idsBL_eq n r]

theorem Rep.cut {M : MM} {d : D} {v : Value} (h : Rep M d v) : ∀ {n : Nat}, idsB n d = true → Rep (M.cut n) d v := by
  induction h with
  | undef v => exact fun _ => .undef v
  | int k n => exact fun _ => .int k n
  | bool b => exact fun _ => .bool b
  | str s => exact fun _ => .str s
  | nilp => exact fun _ => .nilp
  | ptr q h => intro n c; simp only [idsB, Nat.blt_eq] at c; exact .ptr q (by simp only [MM.cut, c, if_true]; exact h)
  | eptr q vs hx hc hr ih => intro n c; exact .eptr q vs hx hc hr
  | mapp h => intro n c; simp only [idsB, Nat.blt_eq] at c; exact .mapp (by simp only [MM.cut, c, if_true]; exact h)
  | slc h hc => intro n c; simp only [idsB, Nat.blt_eq] at c; exact .slc (by simp only [MM.cut, c, if_true]; exact h) hc
  | lst b off vs hl hcap ha hsz hc hr hst ho ih =>
    intro n c
    refine .lst b off vs hl hcap ha hsz hc hr hst ?_
    rename_i M o _ _ _ _ _
    cases o with
    | tok t v => simp only [idsB, Nat.blt_eq] at c; simp only [MM.owns, MM.cut, c, if_true]; exact ho
    | no => trivial
    | fresh k => trivial
    | tight => exact ho
  | nilf => exact fun _ => .nilf
  | fn h1 h2 r1 r2 i1 i2 =>
    intro n c
    rw [idsB, idsBL_eq, idsBL_eq, Bool.and_eq_true, List.all_eq_true, List.all_eq_true] at c
    exact .fn h1 h2 (fun i d v a b => i1 i d v a b (c.1 _ (List.mem_of_getElem? a))) (fun i d v a b => i2 i d v a b (c.2 _ (List.mem_of_getElem? a)))
  | agg h r ih =>
    intro n c
    rw [idsB, idsBL_eq, List.all_eq_true] at c
    exact .agg h (fun i d v a b => ih i d v a b (c _ (List.mem_of_getElem? a)))
  | tup h r ih =>
    intro n c
    rw [idsB, idsBL_eq, List.all_eq_true] at c
    exact .tup h (fun i d v a b => ih i d v a b (c _ (List.mem_of_getElem? a)))

/-! ### The lists that grow -/
theorem growc_out {s : List Ob} {size id : Nat} {d d' : D} {o : Option Nat} (h : growc s size id d = some (d', o)) :
    ∃ fl sz xs, d = .lst fl sz xs ∧ d' = .lst (.tok id 0) size xs ∧ (sz = size ∨ xs = []) ∧ ((fl = .tight ∧ o = none) ∨ ∃ i v, fl = .tok i v ∧ o = some i ∧ s.getD i .dead = .fam v size) := by
  unfold growc at h
  split at h
  · rename_i sz xs
    split at h
    · rename_i hk
      simp only [Option.some.injEq, Prod.mk.injEq] at h
      obtain ⟨rfl, rfl⟩ := h
      simp only [okSz, Bool.or_eq_true, Nat.beq_eq, List.isEmpty_iff] at hk
      exact ⟨_, sz, xs, rfl, rfl, hk, .inl ⟨rfl, rfl⟩⟩
    · cases h
  · rename_i i v sz xs
    split at h
    · rename_i v' sz2 hs
      split at h
      · rename_i hk
        simp only [Option.some.injEq, Prod.mk.injEq] at h
        obtain ⟨rfl, rfl⟩ := h
        simp only [okSz, Bool.or_eq_true, Bool.and_eq_true, Nat.beq_eq, List.isEmpty_iff] at hk
        obtain ⟨rfl, rfl, hk⟩ := hk
        exact ⟨_, sz, xs, rfl, rfl, hk, .inr ⟨i, v', rfl, rfl, hs⟩⟩
      · cases h
    · cases h
  · cases h

theorem growL_out {t : List D} {s : List Ob} : ∀ {fs : List (Nat × Nat)} {id : Nat} {used : List (Option Nat)}, growL t s fs id = some used →
    used.length = fs.length ∧ ∀ (j k size : Nat), fs[j]? = some (k, size) → ∃ d' o, growc s size (id + j) (t.getD k .undef) = some (d', o) ∧ used[j]? = some o
  | [], id, used, h => by
    simp only [growL, Option.some.injEq] at h
    subst h
    exact ⟨rfl, fun j k size h => by simp at h⟩
  | (k, size) :: r, id, used, h => by
    simp only [growL] at h
    split at h
    · rename_i d' o l h1 h2
      obtain rfl := Option.some.inj h
      obtain ⟨k1, k2⟩ := growL_out h2
      refine ⟨by simp [k1], fun j k' size' hj => ?_⟩
      cases j with
      | zero =>
        simp only [List.getElem?_cons_zero, Option.some.injEq, Prod.mk.injEq] at hj
        obtain ⟨rfl, rfl⟩ := hj
        exact ⟨d', o, h1, rfl⟩
      | succ j =>
        simp only [List.getElem?_cons_succ] at hj
        obtain ⟨d2, o2, q1, q2⟩ := k2 j k' size' hj
        exact ⟨d2, o2, by rw [show id + (j + 1) = id + 1 + j by omega]; exact q1, by simpa using q2⟩
    · cases h

theorem findF_out {i : Nat} : ∀ {fs : List (Nat × Nat)} {id id' size : Nat}, findF i fs id = some (id', size) → ∃ j, id' = id + j ∧ fs[j]? = some (i, size)
  | [], id, id', size, h => by simp [findF] at h
  | (k, sz) :: r, id, id', size, h => by
    simp only [findF] at h
    split at h
    · rename_i hk
      rw [Nat.beq_eq] at hk
      simp only [Option.some.injEq, Prod.mk.injEq] at h
      obtain ⟨rfl, rfl⟩ := h
      exact ⟨0, rfl, by simp [hk]⟩
    · obtain ⟨j, h1, h2⟩ := findF_out h
      exact ⟨j + 1, by omega, by simpa using h2⟩

theorem slotsc_out {sp : HS} {n0 : Nat} {s : List Ob} : ∀ {t : List D} {i : Nat} {t' : List D}, slotsc sp n0 s i t = some t' →
    t'.length = t.length ∧ ∀ k d d', t[k]? = some d → t'[k]? = some d' → slotc sp n0 s (i + k) d = some d'
  | [], i, t', h => by
    simp only [slotsc, Option.some.injEq] at h
    subst h
    exact ⟨rfl, fun k d d' h => by simp at h⟩
  | d :: r, i, t', h => by
    simp only [slotsc] at h
    split at h
    · rename_i d1 l h1 h2
      obtain rfl := Option.some.inj h
      obtain ⟨k1, k2⟩ := slotsc_out h2
      refine ⟨by simp [k1], fun k d2 d3 a b => ?_⟩
      cases k with
      | zero => simp at a b; subst a b; exact h1
      | succ k =>
        simp at a b
        rw [show i + (k + 1) = i + 1 + k by omega]
        exact k2 k d2 d3 a b
    · cases h

theorem obsc_out {sp : HS} {n0 : Nat} {used : List (Option Nat)} : ∀ {n i : Nat} {s s' : List Ob}, obsc sp n0 used n i s = some s' →
    ∃ l, s' = l ++ sp.fams.map (fun f => .fam 0 f.2) ∧ l.length = n ∧ ∀ k o, l[k]? = some o → ∃ o0, s[k]? = some o0 ∧ obc sp n0 used (i + k) o0 = some o
  | 0, i, s, s', h => by
    simp only [obsc, Option.some.injEq] at h
    exact ⟨[], by simp [h], rfl, fun k o h => by simp at h⟩
  | n + 1, i, [], s', h => by simp [obsc] at h
  | n + 1, i, o :: r, s', h => by
    simp only [obsc] at h
    split at h
    · rename_i o' l h1 h2
      obtain rfl := Option.some.inj h
      obtain ⟨l', rfl, k2, k3⟩ := obsc_out h2
      refine ⟨o' :: l', rfl, by simp [k2], fun k o2 hk => ?_⟩
      cases k with
      | zero => simp at hk; subst hk; exact ⟨o, rfl, h1⟩
      | succ k =>
        simp at hk
        obtain ⟨o0, q1, q2⟩ := k3 k o2 hk
        exact ⟨o0, by simpa using q1, by rw [show i + (k + 1) = i + 1 + k by omega]; exact q2⟩
    · cases h

theorem hasO_iff {i : Nat} : ∀ {l : List (Option Nat)}, hasO i l = true ↔ some i ∈ l
  | [] => by simp [hasO]
  | none :: r => by simp [hasO, hasO_iff]
  | some a :: r => by
    unfold hasO
    split
    · rename_i h; rw [Nat.beq_eq] at h; subst h; simp
    · rename_i h
      rw [hasO_iff]
      have : a ≠ i := fun e => by subst e; simp at h
      simp [Ne.symm this]
/-- Which family of the loop's own took an old one's place. -/
def placeO (i : Nat) : List (Option Nat) → Nat → Option Nat
  | [], _ => none
  | none :: r, id => placeO i r (id + 1)
  | some a :: r, id => if a = i then some id else placeO i r (id + 1)
theorem placeO_none {i : Nat} : ∀ {l : List (Option Nat)} {id : Nat}, some i ∉ l → placeO i l id = none
  | [], id, _ => rfl
  | none :: r, id, h => by simp only [placeO]; exact placeO_none (by simpa using h)
  | some a :: r, id, h => by
    simp only [List.mem_cons, Option.some.injEq, not_or] at h
    simp only [placeO, if_neg (Ne.symm h.1)]
    exact placeO_none h.2
theorem placeO_at {i : Nat} : ∀ {l : List (Option Nat)} {id j : Nat}, distO l = true → l[j]? = some (some i) → placeO i l id = some (id + j)
  | [], id, j, _, h => by simp at h
  | none :: r, id, j, hd, h => by
    simp only [distO] at hd
    simp only [placeO]
    cases j with
    | zero => simp at h
    | succ j => rw [show id + (j + 1) = id + 1 + j by omega]; exact placeO_at hd (by simpa using h)
  | some a :: r, id, j, hd, h => by
    simp only [distO, Bool.and_eq_true, Bool.not_eq_true'] at hd
    simp only [placeO]
    cases j with
    | zero => simp at h; simp [h]
    | succ j =>
      have hm : some i ∈ r := List.mem_of_getElem? (by simpa using h)
      have : a ≠ i := fun e => by subst e; rw [hasO_iff.2 hm] at hd; simp at hd
      rw [if_neg this, show id + (j + 1) = id + 1 + j by omega]
      exact placeO_at hd.2 (by simpa using h)

/-- THE FORM of a loop's head. -/
theorem headc_out {sp : HS} {n0 : Nat} {t t' : List D} {s s' : List Ob} (h : headc sp n0 t s = some (t', s')) :
    (n0 ≤ s'.length ∧ s'.length = n0 + sp.fams.length) ∧ ∀ {w0 : Base} {M : MM} {own : Nat → Option Nat} {w : World} {tmps : Array Value}, n0 ≤ s.length → WRel w0 M own (stAt s) w → M.upto s.length → RepL M t tmps →
      ∃ M' own', WRel w0 M' own' (stAt s') w ∧ M'.upto s'.length ∧ (M.cut n0).Le M' ∧ RepL M' t' tmps := by
  unfold headc at h
  split at h
  · rename_i used hu
    split at h
    · rename_i hdist
      split at h
      · rename_i t1 s1 ht hs
        simp only [Option.some.injEq, Prod.mk.injEq] at h
        obtain ⟨rfl, rfl⟩ := h
        obtain ⟨l, rfl, hl, hob⟩ := obsc_out hs
        obtain ⟨ht1, hslot⟩ := slotsc_out ht
        obtain ⟨hu1, hgrow⟩ := growL_out hu
        have hlen : (l ++ sp.fams.map (fun f => Ob.fam 0 f.2)).length = n0 + sp.fams.length := by simp [hl]
        refine ⟨⟨by omega, hlen⟩, ?_⟩
        intro w0 M own w tmps hn hw hup hrep
        -- the headers
        let hdr : Nat → Option Value := fun j => (sp.fams[j]?).map fun f => tmps.getD f.1 undef
        let M' : MM := ⟨M.cell, fun i => if i < n0 then M.box i else none, fun i v => if i < n0 then M.hist i v else if v = 0 then hdr (i - n0) else none⟩
        let ren : Nat → Option Nat := fun i => match placeO i used n0 with | some k => some k | none => if i < n0 then some i else none
        let own' : Nat → Option Nat := fun b => (own b).bind ren
        have hle : (M.cut n0).Le M' := by
          refine ⟨fun _ _ _ h => h, fun i b k => k, fun i v b k => ?_⟩
          simp only [MM.cut] at k
          split at k
          · rename_i q; simp only [M', if_pos q]; exact k
          · cases k
        have hcells : M'.bare = M.bare := rfl
        -- a list that grows
        have hgr : ∀ (j k size : Nat), sp.fams[j]? = some (k, size) → ∃ fl sz xs a len cap o, t.getD k .undef = .lst fl sz xs ∧ tmps.getD k undef = .slice a len cap ∧ used[j]? = some o ∧
            (sz = size ∨ xs = []) ∧ Rep M (.lst fl sz xs) (.slice a len cap) ∧ ((fl = .tight ∧ o = none) ∨ ∃ i v, fl = .tok i v ∧ o = some i ∧ s.getD i .dead = .fam v size) := by
          intro j k size hj
          obtain ⟨d', o, h1, h2⟩ := hgrow j k size hj
          obtain ⟨fl, sz, xs, q1, q2, q3, q4⟩ := growc_out h1
          have hr := repL_getD hrep k
          rw [q1] at hr
          generalize hv : tmps.getD k undef = v at hr
          cases hr with
          | lst b off vs hl hcap ha hsz hc hr hst ho =>
            exact ⟨fl, sz, xs, _, _, _, o, q1, rfl, h2, q3, .lst b off vs hl hcap ha hsz hc hr hst ho, q4⟩
        refine ⟨M', own', ⟨hw.below, hw.cells, hw.old, ?_, ?_, ?_, ?_⟩, ?_, hle, ?_⟩
        · intro b i k
          simp only [own'] at k
          cases e : own b with
          | none => rw [e] at k; cases k
          | some i' => exact hw.owned b i' e
        · -- boxes
          intro i cs hi
          have hlt : i < l.length := by
            rcases Nat.lt_or_ge i l.length with q | q
            · exact q
            · exfalso
              unfold stAt at hi
              rw [List.getD_eq_getElem?_getD, List.getElem?_append_right q, List.getElem?_map] at hi
              cases e : sp.fams[i - l.length]? <;> rw [e] at hi <;> cases hi
          have hli : l[i]? = some (.box cs) := by
            unfold stAt at hi
            rw [List.getD_eq_getElem?_getD, List.getElem?_append_left hlt] at hi
            rw [List.getElem?_eq_getElem hlt] at hi ⊢
            simpa using hi
          obtain ⟨o0, h1, h2⟩ := hob i _ hli
          rw [Nat.zero_add] at h2
          unfold obc at h2
          split at h2
          · cases h2
          · rename_i hkeep
            simp only [Bool.and_eq_true, Bool.not_eq_true'] at hkeep
            have hnu : some i ∉ used := fun hm => by rw [hasO_iff.2 hm] at hkeep; simp at hkeep
            split at h2
            · rename_i cs'
              split at h2
              · rename_i hids
                obtain rfl := Ob.box.inj (Option.some.inj h2)
                rw [idsBL_eq, List.all_eq_true] at hids
                obtain ⟨b, vs, ty, k⟩ := hw.box i cs' (by unfold stAt; rw [List.getD_eq_getElem?_getD, h1]; rfl)
                refine ⟨b, vs, ty, by simp only [M', if_pos (hl ▸ hlt)]; exact k.box, k.base, ?_, k.none, k.blk, k.len, fun j d v p q => ((k.rep j d v p q).cut (hids _ (List.mem_of_getElem? p))).mono hle⟩
                simp only [own', k.own, Option.bind_some, ren, placeO_none hnu, if_pos (hl ▸ hlt)]
              · cases h2
            · rename_i hne
              obtain rfl := Option.some.inj h2
              exact absurd rfl (hne cs)
        · -- families
          intro i ver sz hi
          rcases Nat.lt_or_ge i l.length with hlt | hge
          · have hli : l[i]? = some (.fam ver sz) := by
              unfold stAt at hi
              rw [List.getD_eq_getElem?_getD, List.getElem?_append_left hlt] at hi
              rw [List.getElem?_eq_getElem hlt] at hi ⊢
              simpa using hi
            obtain ⟨o0, h1, h2⟩ := hob i _ hli
            rw [Nat.zero_add] at h2
            unfold obc at h2
            split at h2
            · cases h2
            · rename_i hkeep
              simp only [Bool.and_eq_true, Bool.not_eq_true'] at hkeep
              have hnu : some i ∉ used := fun hm => by rw [hasO_iff.2 hm] at hkeep; simp at hkeep
              have ho : o0 = .fam ver sz := by
                split at h2
                · split at h2
                  · cases h2
                  · cases h2
                · exact Option.some.inj h2
              subst ho
              obtain ⟨a, len, cap, k⟩ := hw.fam i ver sz (by unfold stAt; rw [List.getD_eq_getElem?_getD, h1]; rfl)
              refine ⟨a, len, cap, by simp only [M', if_pos (hl ▸ hlt)]; exact k.hist, fun v hv => by simp only [M', if_pos (hl ▸ hlt)]; exact k.last v hv, ?_⟩
              rcases k.room with q | ⟨b, vs, ty, fz, ha, r⟩
              · exact .inl q
              · refine .inr ⟨b, vs, ty, fz, ha, r.base, ?_, r.blk, r.fz, r.cap, r.none⟩
                simp only [own', r.own, Option.bind_some, ren, placeO_none hnu, if_pos (hl ▸ hlt)]
          · have hnlt : ¬ i < n0 := by omega
            unfold stAt at hi
            rw [List.getD_eq_getElem?_getD, List.getElem?_append_right hge, List.getElem?_map] at hi
            cases e : sp.fams[i - l.length]? with
            | none => rw [e] at hi; cases hi
            | some f =>
              obtain ⟨k, size⟩ := f
              rw [e] at hi
              simp only [Option.map_some, Option.getD_some, Ob.fam.injEq] at hi
              obtain ⟨rfl, rfl⟩ := hi
              rw [hl] at e
              obtain ⟨fl, sz0, xs, a, len, cap, o, q1, q2, q3, q4, q5, q6⟩ := hgr _ k size e
              refine ⟨a, len, cap, ?_, fun v hv => ?_, ?_⟩
              · simp only [M', if_neg hnlt, if_true, hdr, e, Option.map_some, q2]
              · simp only [M', if_neg hnlt, if_neg (show ¬ v = 0 by omega)]
              · cases q5 with
                | lst b off vs hl2 hcap ha hsz hc hr hst ho =>
                  rcases q6 with ⟨rfl, rfl⟩ | ⟨i', v, rfl, rfl, hs'⟩
                  · exact .inl ho
                  · obtain ⟨a', len', cap', k2⟩ := hw.fam i' v size hs'
                    have : M.hist i' v = some _ := ho
                    rw [k2.hist] at this
                    obtain ⟨rfl, rfl, rfl⟩ := Value.slice.inj (Option.some.inj this)
                    rcases k2.room with q | ⟨b, vs, ty, fz, ha, r⟩
                    · exact .inl q
                    · refine .inr ⟨b, vs, ty, fz, ha, r.base, ?_, r.blk, r.fz, r.cap, r.none⟩
                      simp only [own', r.own, Option.bind_some, ren, placeO_at hdist q3]
                      congr 1
                      omega
        · -- maps
          intro i kk es hi
          have hlt : i < l.length := by
            rcases Nat.lt_or_ge i l.length with q | q
            · exact q
            · exfalso
              unfold stAt at hi
              rw [List.getD_eq_getElem?_getD, List.getElem?_append_right q, List.getElem?_map] at hi
              cases e : sp.fams[i - l.length]? <;> rw [e] at hi <;> cases hi
          have hli : l[i]? = some (.mp kk es) := by
            unfold stAt at hi
            rw [List.getD_eq_getElem?_getD, List.getElem?_append_left hlt] at hi
            rw [List.getElem?_eq_getElem hlt] at hi ⊢
            simpa using hi
          obtain ⟨o0, h1, h2⟩ := hob i _ hli
          rw [Nat.zero_add] at h2
          unfold obc at h2
          split at h2
          · cases h2
          · rename_i hkeep
            simp only [Bool.and_eq_true, Bool.not_eq_true'] at hkeep
            have hnu : some i ∉ used := fun hm => by rw [hasO_iff.2 hm] at hkeep; simp at hkeep
            have ho : o0 = .mp kk es := by
              split at h2
              · split at h2
                · cases h2
                · cases h2
              · exact Option.some.inj h2
            subst ho
            obtain ⟨b, ents, clock, k⟩ := hw.mp i kk es (by unfold stAt; rw [List.getD_eq_getElem?_getD, h1]; rfl)
            refine ⟨b, ents, clock, by simp only [M', if_pos (hl ▸ hlt)]; exact k.box, k.base, ?_, k.none, k.blk, k.fits⟩
            simp only [own', k.own, Option.bind_some, ren, placeO_none hnu, if_pos (hl ▸ hlt)]
        · -- no id beyond
          refine ⟨fun id hid => ?_, fun id v hid => ?_⟩
          · simp only [M', if_neg (show ¬ id < n0 by omega)]
          · simp only [M', if_neg (show ¬ id < n0 by omega)]
            split
            · simp only [hdr]
              rw [List.getElem?_eq_none (by omega)]
              rfl
            · rfl
        · -- slots
          refine ⟨by rw [ht1]; exact hrep.1, fun i d' v p q => ?_⟩
          have hit : i < t.length := by
            rcases Nat.lt_or_ge i t.length with h | h
            · exact h
            · rw [List.getElem?_eq_none (by omega)] at p; cases p
          have hd : t[i]? = some t[i] := by simp [hit]
          have hsl := hslot i _ d' hd p
          rw [Nat.zero_add] at hsl
          unfold slotc at hsl
          split at hsl
          · rename_i id size hf
            split at hsl
            · rename_i d2 o hg
              obtain rfl := Option.some.inj hsl
              obtain ⟨j, rfl, hj⟩ := findF_out hf
              obtain ⟨fl, sz, xs, q1, q2, q3, q4⟩ := growc_out hg
              have hr := hrep.2 i _ v hd q
              rw [q1] at hr
              rw [q2]
              have hv : tmps.getD i undef = v := by rw [Array.getD_eq_getD_getElem?, q]; rfl
              cases hr with
              | lst b off vs hl2 hcap ha hsz hc hr hst ho =>
                refine Rep.resize (sz := sz) ?_ q3
                refine .lst b off vs hl2 hcap ha hsz hc hr hst ?_
                simp only [MM.owns, M', if_neg (show ¬ n0 + j < n0 by omega), if_true, hdr, show n0 + j - n0 = j by omega, hj, Option.map_some, hv]
            · cases hsl
          · split at hsl
            · split at hsl
              · rename_i hids
                obtain rfl := Option.some.inj hsl
                exact ((hrep.2 i _ v hd q).cut hids).mono hle
              · cases hsl
            · obtain rfl := Option.some.inj hsl
              exact .undef v
      · cases h
    · cases h
  · cases h

/-! ### Loops -/
section
variable {P : Program}

/-- The rounds of a loop, each from a head's form to a head's form. -/
inductive Rounds (P : Program) (c : Code) (n0 : Nat) : List D → List Ob → Ex → List D → List Ob → Prop
  | out {t : List D} {s : List Ob} {ex : Ex} {t1 t' : List D} {s1 s' : List Ob} (sp : HS) (h : CodeRun P c t s ex t1 s1) (hx : ex ≠ .norm) (hh : headc sp n0 t1 s1 = some (t', s')) : Rounds P c n0 t s ex t' s'
  | again {t : List D} {s : List Ob} {t1 t2 : List D} {s1 s2 : List Ob} {ex : Ex} {t' : List D} {s' : List Ob} (sp : HS) (h : CodeRun P c t s .norm t1 s1) (hh : headc sp n0 t1 s1 = some (t2, s2)) (k : Rounds P c n0 t2 s2 ex t' s') : Rounds P c n0 t s ex t' s'

theorem Rounds.depth {c : Code} {n0 : Nat} {t : List D} {s : List Ob} {ex : Ex} {t' : List D} {s' : List Ob} (h : Rounds P c n0 t s ex t' s') : n0 ≤ s.length → n0 ≤ s'.length ∧
    ∃ n, ∀ (w0 : Base) (M : MM) (own : Nat → Option Nat) (w : World) (a : Act) (L : MM), L.Le (M.cut n0) → WRel w0 M own (stAt s) w → M.upto s.length → RepL M t a.tmps → a.defers = [] →
      Code.rounds P c (fun e a' w' => ex.is e ∧ ∃ M' own', WRel w0 M' own' (stAt s') w' ∧ M'.upto s'.length ∧ L.Le M' ∧ RepL M' t' a'.tmps ∧ a'.defers = []) n a w := by
  induction h with
  | out sp h hx hh =>
    intro hn
    obtain ⟨hl, hhead⟩ := headc_out hh
    refine ⟨hl.1, 1, fun w0 M own w a L le hw hu ht hd => ?_⟩
    rw [rounds_succ]
    refine wp_mono (h.run w0 M own w a hw hu ht hd) ?_
    rintro e a' w' ⟨h0, M1, own1, q1, q2, q3, q4, q5⟩
    obtain ⟨M2, own2, r1, r2, r3, r4⟩ := hhead (Nat.le_trans hn h.len) q1 q2 q4
    have fin : ∃ M' own', WRel w0 M' own' (stAt _) w' ∧ M'.upto _ ∧ L.Le M' ∧ RepL M' _ a'.tmps ∧ a'.defers = [] := ⟨M2, own2, r1, r2, (le.trans (MM.cut_mono q3 n0)).trans r3, r4, q5⟩
    rename_i ex _ _ _ _
    cases ex with
    | norm => exact absurd rfl hx
    | exit i => cases e <;> simp only [Ex.is] at h0; exact ⟨h0, fin⟩
    | ret => cases e <;> simp only [Ex.is] at h0; exact ⟨h0, fin⟩
  | again sp h hh k ih =>
    intro hn
    obtain ⟨hl, hhead⟩ := headc_out hh
    obtain ⟨i1, n, i2⟩ := ih hl.1
    refine ⟨i1, n + 1, fun w0 M own w a L le hw hu ht hd => ?_⟩
    rw [rounds_succ]
    refine wp_mono (h.run w0 M own w a hw hu ht hd) ?_
    rintro e a' w' ⟨h0, M1, own1, q1, q2, q3, q4, q5⟩
    obtain ⟨M2, own2, r1, r2, r3, r4⟩ := hhead (Nat.le_trans hn h.len) q1 q2 q4
    cases e <;> simp only [Ex.is] at h0
    refine i2 w0 M2 own2 w' a' L ?_ r1 r2 r4 q5
    have := MM.cut_mono r3 n0
    rw [MM.cut_cut] at this
    exact (le.trans (MM.cut_mono q3 n0)).trans this

/-- THE WAY from a loop's rounds to the loop. -/
theorem LoopRun.of_rounds {c : Code} {n0 : Nat} {t : List D} {s : List Ob} {ex : Ex} {t' : List D} {s' : List Ob} (hn : n0 ≤ s.length) (h : Rounds P c n0 t s ex t' s') : LoopRun P n0 (.loop c) t s ex t' s' := by
  obtain ⟨h1, n, h2⟩ := h.depth hn
  exact ⟨fun w0 M own w a hw hu ht hd => wp_loop_rounds n (h2 w0 M own w a (M.cut n0) (.refl _) hw hu ht hd), h1⟩

/-- A loop that is entered: its state is brought into its head's form. -/
theorem CodeRun.of_head {c : Code} {sp : HS} {t t1 : List D} {s s1 : List Ob} {ex : Ex} {t2 : List D} {s2 : List Ob} (h : LoopRun P s.length c t1 s1 ex t2 s2) (hh : headc sp s.length t s = some (t1, s1)) : CodeRun P c t s ex t2 s2 := by
  obtain ⟨hl, hhead⟩ := headc_out hh
  refine ⟨fun w0 M own w a hw hu ht hd => ?_, h.len⟩
  obtain ⟨M2, own2, r1, r2, r3, r4⟩ := hhead (Nat.le_refl _) hw hu ht
  refine wp_mono (h.run w0 M2 own2 w a r1 r2 r4 hd) ?_
  rintro e a' w' ⟨h0, M', own', q1, q2, q3, q4, q5⟩
  have := MM.cut_mono r3 s.length
  rw [MM.cut_cut] at this
  exact ⟨h0, M', own', q1, q2, ((MM.le_cut hu).trans this).trans q3, q4, q5⟩

/-- The rounds of a loop, one behind the other. -/
inductive Rounds0 (P : Program) (c : Code) : List D → List Ob → Ex → List D → List Ob → Prop
  | out {t : List D} {s : List Ob} {ex : Ex} {t1 : List D} {s1 : List Ob} (h : CodeRun P c t s ex t1 s1) (hx : ex ≠ .norm) : Rounds0 P c t s ex t1 s1
  | again {t : List D} {s : List Ob} {t1 : List D} {s1 : List Ob} {ex : Ex} {t' : List D} {s' : List Ob} (h : CodeRun P c t s .norm t1 s1) (k : Rounds0 P c t1 s1 ex t' s') : Rounds0 P c t s ex t' s'

theorem Rounds0.depth {c : Code} {t : List D} {s : List Ob} {ex : Ex} {t' : List D} {s' : List Ob} (h : Rounds0 P c t s ex t' s') : s.length ≤ s'.length ∧
    ∃ n, ∀ (w0 : Base) (M : MM) (own : Nat → Option Nat) (w : World) (a : Act) (L : MM), L.Le M → WRel w0 M own (stAt s) w → M.upto s.length → RepL M t a.tmps → a.defers = [] →
      Code.rounds P c (fun e a' w' => ex.is e ∧ ∃ M' own', WRel w0 M' own' (stAt s') w' ∧ M'.upto s'.length ∧ L.Le M' ∧ RepL M' t' a'.tmps ∧ a'.defers = []) n a w := by
  induction h with
  | out h hx =>
    refine ⟨h.len, 1, fun w0 M own w a L le hw hu ht hd => ?_⟩
    rw [rounds_succ]
    refine wp_mono (h.run w0 M own w a hw hu ht hd) ?_
    rintro e a' w' ⟨h0, M1, own1, q1, q2, q3, q4, q5⟩
    have fin : ∃ M' own', WRel w0 M' own' (stAt _) w' ∧ M'.upto _ ∧ L.Le M' ∧ RepL M' _ a'.tmps ∧ a'.defers = [] := ⟨M1, own1, q1, q2, le.trans q3, q4, q5⟩
    rename_i ex _ _
    cases ex with
    | norm => exact absurd rfl hx
    | exit i => cases e <;> simp only [Ex.is] at h0; exact ⟨h0, fin⟩
    | ret => cases e <;> simp only [Ex.is] at h0; exact ⟨h0, fin⟩
  | again h k ih =>
    obtain ⟨i1, n, i2⟩ := ih
    refine ⟨Nat.le_trans h.len i1, n + 1, fun w0 M own w a L le hw hu ht hd => ?_⟩
    rw [rounds_succ]
    refine wp_mono (h.run w0 M own w a hw hu ht hd) ?_
    rintro e a' w' ⟨h0, M1, own1, q1, q2, q3, q4, q5⟩
    cases e <;> simp only [Ex.is] at h0
    exact i2 w0 M1 own1 w' a' L (le.trans q3) q1 q2 q4 q5
theorem CodeRun.of_rounds {c : Code} {t : List D} {s : List Ob} {ex : Ex} {t' : List D} {s' : List Ob} (h : Rounds0 P c t s ex t' s') : CodeRun P (.loop c) t s ex t' s' := by
  obtain ⟨h1, n, h2⟩ := h.depth
  exact ⟨fun w0 M own w a hw hu ht hd => wp_loop_rounds n (h2 w0 M own w a M (.refl _) hw hu ht hd), h1⟩

theorem iter_out {ρ' : Type} {r : ρ'} {c : Code} {body : List D → List Ob → Z P → (Ex → List D → List Ob → Z P → Option ρ') → Option ρ'}
    (hb : ∀ {t : List D} {s : List Ob} {z : Z P} {K : Ex → List D → List Ob → Z P → Option ρ'}, body t s z K = some r → ∃ ex t' s' z', K ex t' s' z' = some r ∧ (z'.c → z.c ∧ CodeRun P c t s ex t' s')) :
    ∀ {n : Nat} {t : List D} {s : List Ob} {z : Z P} {K : Ex → List D → List Ob → Z P → Option ρ'}, iter body n t s z K = some r → ∃ ex t' s' z', K ex t' s' z' = some r ∧ (z'.c → z.c ∧ Rounds0 P c t s ex t' s')
  | 0, t, s, z, K, h => by simp [iter] at h
  | n + 1, t, s, z, K, h => by
    rw [iter] at h
    obtain ⟨ex, t1, s1, z1, h1, h2⟩ := hb h
    split at h1
    · obtain ⟨ex', t2, s2, z2, h3, h4⟩ := iter_out hb h1
      exact ⟨ex', t2, s2, z2, h3, fun q => ⟨(h2 (h4 q).1).1, .again (h2 (h4 q).1).2 (h4 q).2⟩⟩
    · rename_i hne
      exact ⟨_, t1, s1, z1, h1, fun q => ⟨(h2 q).1, .out (h2 q).2 hne⟩⟩
end

end Go.Ev
