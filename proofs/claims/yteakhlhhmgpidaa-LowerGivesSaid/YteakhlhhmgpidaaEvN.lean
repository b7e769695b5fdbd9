/- A region that draws its order: the theorem. -/
import Derived.Test.YteakhlhhmgpidaaEvM
namespace Go.Ev
open Go Go.RowKit
set_option linter.unusedVariables false
set_option linter.unusedSimpArgs false

theorem drawOK_out {ops : Array Oper} {tr : List Tr} (h : drawOK ops ((tr.map Tr.fp).reverse ++ []) = true) :
    tr.length = ops.size ∧ (∀ (j : Nat) (o : Oper), ops[j]? = some o → ∀ e ∈ o.after.toList, Region.binds .any e = true → e.on < j) ∧
    ∀ (i j : Nat) (x y : Tr) (ox oy : Oper), i < j → tr[i]? = some x → tr[j]? = some y → ops[i]? = some ox → ops[j]? = some oy → ((aheads ops.toList []).getD j 0).testBit i = true ∨ (share ops ox oy = false ∧ clash x.fp y.fp = false) := by
  unfold drawOK at h
  simp only [List.append_nil, List.reverse_reverse, List.length_map, Array.length_toList, Bool.and_eq_true, Nat.beq_eq, List.all_eq_true, List.mem_range] at h
  obtain ⟨hl, h⟩ := h
  refine ⟨hl, ?_, ?_⟩
  · intro j o ho e he hb
    have hj : j < ops.size := by
      rcases Nat.lt_or_ge j ops.size with q | q
      · exact q
      · simp [Array.getElem?_eq_none q] at ho
    have := (h j hj).1
    rw [Array.getElem?_toList, ho] at this
    simp only [Array.all_eq_true_iff_forall_mem] at this
    have h1 := this e (by simpa using he)
    rw [hb] at h1
    simp only [Bool.not_true, Bool.false_or] at h1
    exact Nat.lt_of_succ_le (by simpa [Nat.blt, Nat.ble_eq] using h1)
  · intro i j x y ox oy hij hx hy hox hoy
    have hj : j < ops.size := by
      rcases Nat.lt_or_ge j ops.size with q | q
      · exact q
      · simp [Array.getElem?_eq_none q] at hoy
    have := (h j hj).2 i hij
    rw [Array.getElem?_toList, Array.getElem?_toList, hox, hoy] at this
    simp only [List.getD_eq_getElem?_getD, List.getElem?_map, hx, hy, Option.map_some, Option.getD_some, Bool.or_eq_true, Bool.and_eq_true, Bool.not_eq_true'] at this
    rw [List.getD_eq_getElem?_getD]
    exact this

theorem touch_fp {z : Tr} {id : Nat} (h : touchS z id) : z.fp = .wr id ∨ z.fp = .nw id ∨ z.fp = .all := by
  unfold touchS at h
  unfold Tr.fp
  cases he : z.e with
  | none => rw [he] at h; exact h.elim
  | some e =>
    rw [he] at h
    cases e with
    | pure d => exact h.elim
    | read i o d => exact h.elim
    | upd i o o' d => subst h; exact .inl rfl
    | new o mk => subst h; exact .inr (.inl rfl)
    | all s d => exact .inr (.inr rfl)
/-- What makes new entries. -/
theorem grow_fp {z : Tr} {id : Nat} (h1 : z.s.length ≤ id) (h2 : id < z.nextS.length) : z.fp = .nw id ∨ z.fp = .all := by
  unfold Tr.nextS at h2
  unfold Tr.fp
  cases he : z.e with
  | none => rw [he] at h2; simp at h2; omega
  | some e =>
    rw [he] at h2
    cases e with
    | pure d => simp at h2; omega
    | read i o d => simp at h2; omega
    | upd i o o' d => simp at h2; omega
    | new o mk =>
      simp at h2
      have e : id = z.s.length := by omega
      subst e
      exact .inl rfl
    | all s d => exact .inr rfl

section
variable {P : Program} {ops : Array Oper} {t0 : List D} {s0 : List Ob} {tr : List Tr} {tn : List D} {sn : List Ob} {w0 : Base} {M0 : MM}

structure DInv (P : Program) (ops : Array Oper) (t0 : List D) (s0 : List Ob) (tr : List Tr) (w0 : Base) (M0 : MM) (L : Nat → Bool) (M : MM) (own : Nat → Option Nat) (w : World) (a : Act) : Prop where
  cl : closed ops L
  rel : WRel w0 M own (doneS tr (stAt s0) L ops.size) w
  slots : RepL M (doneT tr t0 L ops.size) a.tmps
  defers : a.defers = []
  live : ∀ id, (M.box id ≠ none ∨ ∃ v, M.hist id v ≠ none) → id < s0.length ∨ ∃ (j : Nat) (y : Tr), L j = true ∧ tr[j]? = some y ∧ y.s.length ≤ id ∧ id < y.nextS.length
  le : M0.Le M

def addL (L : Nat → Bool) (i : Nat) : Nat → Bool := fun j => if j = i then true else L j

theorem step_draw (htr : Trace P ops ops.toList t0 s0 tr tn sn) (hd : drawOK ops ((tr.map Tr.fp).reverse ++ []) = true) {L : Nat → Bool} {M : MM} {own : Nat → Option Nat} {w : World} {a : Act} (inv : DInv P ops t0 s0 tr w0 M0 L M own w a)
    {i : Nat} {x : Tr} (hx : tr[i]? = some x) (hLi : L i = false) (hp : preds ops L i) {Q : Exit → Act → World → Prop} {K : Act → World → Prop}
    (hK : ∀ M' own' w' a', DInv P ops t0 s0 tr w0 M0 (addL L i) M' own' w' a' → K a' w') : wpOp P ops Q i K a w := by
  obtain ⟨hlen, hedge, hpair⟩ := drawOK_out hd
  obtain ⟨hall, _, _⟩ := done_all htr
  obtain ⟨ho', hok⟩ := trace_at htr i x hx
  have hat : ops[i]? = some x.o := by rw [← Array.getElem?_toList]; exact ho'
  have hop : ∀ {j : Nat} {y : Tr}, tr[j]? = some y → ops[j]? = some y.o := fun {j y} hy => by rw [← Array.getElem?_toList]; exact (trace_at htr j y hy).1
  have hin : i < ops.size := by
    rcases Nat.lt_or_ge i ops.size with q | q
    · exact q
    · simp [Array.getElem?_eq_none q] at hat
  obtain ⟨aT, aS, a3, a4, a5, a6⟩ := hall i x hx
  -- what stands ahead of i is done; what stands behind is not
  have before : ∀ {j : Nat} {y : Tr}, j < i → tr[j]? = some y → (share ops y.o x.o = true ∨ clash y.fp x.fp = true) → L j = true := by
    intro j y hj hy hc
    rcases hpair j i y x _ _ hj hy hx (hop hy) hat with h | ⟨h1, h2⟩
    · exact reach inv.cl i i (Nat.le_refl _) hp j h
    · rcases hc with hc | hc
      · rw [h1] at hc; cases hc
      · rw [h2] at hc; cases hc
  have after : ∀ {j : Nat} {y : Tr}, i < j → tr[j]? = some y → (share ops x.o y.o = true ∨ clash x.fp y.fp = true) → L j = false := by
    intro j y hj hy hc
    rcases hpair i j x y _ _ hj hx hy hat (hop hy) with h | ⟨h1, h2⟩
    · cases e : L j with
      | false => rfl
      | true =>
        have := reach inv.cl j j (Nat.le_refl _) (inv.cl j e) i h
        rw [hLi] at this; cases this
    · rcases hc with hc | hc
      · rw [h1] at hc; cases hc
      · rw [h2] at hc; cases hc
  have clash_of : ∀ {f g : FP} {id : Nat}, (f = .wr id ∨ f = .nw id ∨ f = .all) → (g = .rd id ∨ g = .wr id ∨ g = .nw id ∨ g = .all) → clash f g = true := by
    intro f g id h1 h2
    rcases h1 with rfl | rfl | rfl <;> rcases h2 with rfl | rfl | rfl | rfl <;> simp [clash]
  have clash_of' : ∀ {f g : FP} {id : Nat}, (f = .rd id ∨ f = .wr id ∨ f = .nw id ∨ f = .all) → (g = .wr id ∨ g = .nw id ∨ g = .all) → clash f g = true := by
    intro f g id h1 h2
    rcases h1 with rfl | rfl | rfl | rfl <;> rcases h2 with rfl | rfl | rfl <;> simp [clash]
  -- the slots that it looks at
  have F1 : ∀ y, y ∈ looks ops x.o → (doneT tr t0 L ops.size)[y]? = x.t[y]? := by
    intro y hy
    rw [doneT_stay tr t0 (L := L) (i := y) i ops.size (by omega) (fun j z h1 h2 hz hdst => by
      rcases Nat.lt_or_eq_of_le h1 with h | h
      · refine after h hz (.inl ?_)
        unfold share
        rw [hdst]
        simp only [Bool.or_eq_true]
        right
        simpa using hy
      · rw [← h]; exact hLi)]
    rw [doneT_agree tr t0 (L := L) (L' := fun _ => true) (i := y) i (fun j z hj hz hdst => by
      refine before hj hz (.inl ?_)
      unfold share
      rw [hdst]
      simp only [Bool.or_eq_true]
      left; left
      simpa using hy), aT]
  have hops : ∀ y ∈ x.o.op.operands, opnd (doneT tr t0 L ops.size) y = opnd x.t y := by
    intro y hy
    cases y with
    | tmp k =>
      have : k ∈ looks ops x.o := by
        unfold looks tmpsOf
        refine List.mem_append.2 (.inl (List.mem_filterMap.2 ⟨.tmp k, by simpa using hy, rfl⟩))
      show List.getD _ _ _ = List.getD _ _ _
      rw [List.getD_eq_getElem?_getD, List.getD_eq_getElem?_getD, F1 k this]
    | const v => rfl
    | global g => rfl
    | func f => rfl
  have hrep : ∀ y ∈ x.o.op.operands, Rep M (opnd x.t y) (a.eval y) := fun y hy => by rw [← hops y hy]; exact rep_opnd inv.slots y
  -- the store where it looks
  have F2 : ∀ id, (x.fp = .rd id ∨ x.fp = .wr id ∨ x.fp = .nw id ∨ x.fp = .all) → doneS tr (stAt s0) L ops.size id = stAt x.s id := by
    intro id hfp
    rw [doneS_stay tr (stAt s0) (L := L) (id := id) i ops.size (by omega) (fun j z h1 h2 hz ht => by
      rcases Nat.lt_or_eq_of_le h1 with h | h
      · exact after h hz (.inr (clash_of' hfp (touch_fp ht)))
      · rw [← h]; exact hLi)]
    rw [doneS_agree tr (stAt s0) (L := L) (L' := fun _ => true) (id := id) i (fun j z hj hz ht => before hj hz (.inr (clash_of (touch_fp ht) hfp))), aS]
  -- behind it
  have hadd : ∀ {j : Nat}, j ≠ i → addL L i j = L j := fun {j} h => by simp [addL, h]
  have haddi : addL L i i = true := by simp [addL]
  have hclosed : closed ops (addL L i) := by
    intro j hj o ho e he hb
    by_cases e1 : j = i
    · subst e1
      by_cases e2 : e.on = j
      · rw [e2]; exact haddi
      · rw [hadd e2]; exact hp o ho e he hb
    · rw [hadd e1] at hj
      by_cases e2 : e.on = i
      · rw [e2]; exact haddi
      · rw [hadd e2]; exact inv.cl j hj o ho e he hb
  have hslots : ∀ {M' : MM} {v : Value}, M.Le M' → Rep M' x.val v → RepL M' (doneT tr t0 (addL L i) ops.size) (a.put x.o.dst v).tmps := by
    intro M' v le hv
    have hl := inv.slots.1
    rw [doneT_length] at hl
    refine ⟨by rw [doneT_length]; cases x.o.dst <;> simp [Act.put, hl], fun y d u h1 h2 => ?_⟩
    by_cases e : x.o.dst = some y
    · rw [doneT_stay tr t0 (L := addL L i) (i := y) (i + 1) ops.size (by omega) (fun j z q1 q2 hz hdst => by
        rw [hadd (by omega)]
        refine after (by omega) hz (.inl ?_)
        unfold share
        rw [e]
        simp only [Bool.or_eq_true]
        left; right
        simp [hdst])] at h1
      unfold doneT at h1
      simp only [haddi, hx, e, put] at h1
      rw [List.getElem?_set] at h1
      simp only [if_true] at h1
      split at h1
      · obtain rfl := Option.some.inj h1
        simp only [e, Act.put] at h2
        rw [Array.getElem?_setIfInBounds] at h2
        simp only [if_true] at h2
        split at h2
        · obtain rfl := Option.some.inj h2; exact hv
        · cases h2
      · cases h1
    · rw [doneT_agree tr t0 (L := addL L i) (L' := L) (i := y) ops.size (fun j z hj hz hdst => hadd (fun q => by subst q; rw [hx] at hz; obtain rfl := Option.some.inj hz; exact e hdst))] at h1
      have h2' : a.tmps[y]? = some u := by
        cases hdst : x.o.dst with
        | none => rw [hdst] at h2; exact h2
        | some k =>
          rw [hdst] at h2
          simp only [Act.put] at h2
          rw [Array.getElem?_setIfInBounds_ne (fun q => e (by rw [hdst, q]))] at h2
          exact h2
      exact (inv.slots.2 y d u h1 h2').mono le
  have hsame : ∀ id, ¬ touchS x id → doneS tr (stAt s0) (addL L i) ops.size id = doneS tr (stAt s0) L ops.size id := fun id h =>
    doneS_agree tr (stAt s0) ops.size (fun j z hj hz ht => hadd (fun q => by subst q; rw [hx] at hz; obtain rfl := Option.some.inj hz; exact h ht))
  have hnew : ∀ id, touchS x id → doneS tr (stAt s0) (addL L i) ops.size id = doneS tr (stAt s0) (addL L i) (i + 1) id := fun id h =>
    doneS_stay tr (stAt s0) (i + 1) ops.size (by omega) (fun j z q1 q2 hz ht => by
      rw [hadd (by omega)]
      refine after (by omega) hz (.inr (clash_of' ?_ (touch_fp ht)))
      rcases touch_fp h with q | q | q
      · exact .inr (.inl q)
      · exact .inr (.inr (.inl q))
      · exact .inr (.inr (.inr q)))
  have liveOld : ∀ id, (M.box id ≠ none ∨ ∃ v, M.hist id v ≠ none) → id < s0.length ∨ ∃ (j : Nat) (y : Tr), addL L i j = true ∧ tr[j]? = some y ∧ y.s.length ≤ id ∧ id < y.nextS.length := by
    intro id h
    rcases inv.live id h with q | ⟨j, y, q1, q2, q3, q4⟩
    · exact .inl q
    · exact .inr ⟨j, y, by by_cases e : j = i <;> simp [addL, e, q1], q2, q3, q4⟩
  have liveLow : ∀ id, (x.fp = .wr id ∨ x.fp = .all) → id < x.s.length → id < s0.length ∨ ∃ (j : Nat) (y : Tr), addL L i j = true ∧ tr[j]? = some y ∧ y.s.length ≤ id ∧ id < y.nextS.length := by
    intro id hfp hid
    rcases Nat.lt_or_ge id s0.length with q | q
    · exact .inl q
    · obtain ⟨j, y, b1, b2, b3, b4⟩ := a6 id q hid
      refine .inr ⟨j, y, ?_, b2, b3, b4⟩
      rw [hadd (by omega)]
      refine before b1 b2 (.inr (clash_of (id := id) ?_ ?_))
      · rcases grow_fp b3 b4 with h | h
        · exact .inr (.inl h)
        · exact .inr (.inr h)
      · rcases hfp with h | h
        · exact .inr (.inl h)
        · exact .inr (.inr (.inr h))
  have eff : ∀ {e0 : Eff}, x.e = some e0 → EffOK P x.o (opnd x.t) x.s e0 → x.o.wp P a w K Q := by
    intro e0 he h0
    have hval : x.val = e0.val x.s.length := by unfold Tr.val; rw [he]
    cases e0 with
    | pure d =>
      have hnt : ∀ id, ¬ touchS x id := fun id h => by unfold touchS at h; rw [he] at h; exact h
      refine h0 w0 M own _ w a x.s.length inv.rel hrep trivial K Q fun v M' own' w' le ad hw' hr => hK M' own' w' _ ⟨hclosed, ?_, hslots le (by rw [hval]; exact hr), by rw [put_defers]; exact inv.defers, ?_, inv.le.trans le⟩
      · rw [show doneS tr (stAt s0) (addL L i) ops.size = doneS tr (stAt s0) L ops.size from funext fun id => hsame id (hnt id)]; exact hw'
      · intro id h; rw [ad.1, ad.2] at h; exact liveOld id h
    | read k ob d =>
      have hnt : ∀ id, ¬ touchS x id := fun id h => by unfold touchS at h; rw [he] at h; exact h
      have hfp : x.fp = .rd k := by unfold Tr.fp; rw [he]
      refine h0.2 w0 M own _ w a x.s.length inv.rel hrep (by show doneS _ _ _ _ k = ob; rw [F2 k (.inl hfp)]; exact h0.1.1) K Q fun v M' own' w' le ad hw' hr => hK M' own' w' _ ⟨hclosed, ?_, hslots le (by rw [hval]; exact hr), by rw [put_defers]; exact inv.defers, ?_, inv.le.trans le⟩
      · rw [show doneS tr (stAt s0) (addL L i) ops.size = doneS tr (stAt s0) L ops.size from funext fun id => hsame id (hnt id)]; exact hw'
      · intro id h; rw [ad.1, ad.2] at h; exact liveOld id h
    | upd k ob ob' d =>
      have hfp : x.fp = .wr k := by unfold Tr.fp; rw [he]
      have htk : touchS x k := by unfold touchS; rw [he]
      refine h0.2 w0 M own _ w a x.s.length inv.rel hrep (by show doneS _ _ _ _ k = ob; rw [F2 k (.inr (.inl hfp))]; exact h0.1.1) K Q fun v M' own' w' le ad hw' hr => hK M' own' w' _ ⟨hclosed, ?_, hslots le (by rw [hval]; exact hr), by rw [put_defers]; exact inv.defers, ?_, inv.le.trans le⟩
      · rw [show doneS tr (stAt s0) (addL L i) ops.size = Eff.post (.upd k ob ob' d) (doneS tr (stAt s0) L ops.size) x.s.length from funext fun id => by
          by_cases e : id = k
          · subst e
            rw [hnew id htk]
            unfold doneS
            simp only [haddi, hx, he, Eff.post, upd_same]
          · rw [hsame id (fun h => by unfold touchS at h; rw [he] at h; exact e h)]
            simp only [Eff.post, upd_other e]]
        exact hw'
      · intro id h
        by_cases e : id = k
        · subst e; exact liveLow id (.inl hfp) h0.1.2
        · rw [ad.1, ad.2 id e] at h; exact liveOld id h
    | new ob mk =>
      have htk : touchS x x.s.length := by unfold touchS; rw [he]
      have hnext : x.nextS.length = x.s.length + 1 := by unfold Tr.nextS; rw [he]; simp
      have hfresh : ¬ (M.box x.s.length ≠ none ∨ ∃ v, M.hist x.s.length v ≠ none) := by
        intro h
        rcases inv.live _ h with q | ⟨j, y, q1, q2, q3, q4⟩
        · omega
        · rcases Nat.lt_trichotomy j i with c | c | c
          · have := a5 j y c q2; omega
          · subst c; rw [hLi] at q1; cases q1
          · have := (hall j y q2).2.2.2.2.1 i x c hx; omega
      have hf1 : M.box x.s.length = none := by
        cases e : M.box x.s.length with
        | none => rfl
        | some b => exact absurd (.inl (by rw [e]; simp)) hfresh
      have hf2 : ∀ v, M.hist x.s.length v = none := fun v => by
        cases e : M.hist x.s.length v with
        | none => rfl
        | some b => exact absurd (.inr ⟨v, by rw [e]; simp⟩) hfresh
      refine h0 w0 M own _ w a x.s.length inv.rel hrep ⟨hf1, hf2⟩ K Q fun v M' own' w' le ad hw' hr => hK M' own' w' _ ⟨hclosed, ?_, hslots le (by rw [hval]; exact hr), by rw [put_defers]; exact inv.defers, ?_, inv.le.trans le⟩
      · rw [show doneS tr (stAt s0) (addL L i) ops.size = Eff.post (.new ob mk) (doneS tr (stAt s0) L ops.size) x.s.length from funext fun id => by
          by_cases e : id = x.s.length
          · subst e
            rw [hnew _ htk]
            unfold doneS
            simp only [haddi, hx, he, Eff.post, upd_same]
          · rw [hsame id (fun h => by unfold touchS at h; rw [he] at h; exact e h)]
            simp only [Eff.post, upd_other e]]
        exact hw'
      · intro id h
        by_cases e : id = x.s.length
        · exact .inr ⟨i, x, haddi, hx, by omega, by omega⟩
        · rw [ad.1 id e, ad.2 id e] at h; exact liveOld id h
    | all s' d =>
      have hfp : x.fp = .all := by unfold Tr.fp; rw [he]
      have hta : ∀ id, touchS x id := fun id => by unfold touchS; rw [he]; trivial
      have hnext : x.nextS = s' := by unfold Tr.nextS; rw [he]
      have hrel : WRel w0 M own (stAt x.s) w := by
        rw [← show doneS tr (stAt s0) L ops.size = stAt x.s from funext fun id => F2 id (.inr (.inr (.inr hfp)))]; exact inv.rel
      have hnone : ∀ id, x.s.length ≤ id → ¬ (M.box id ≠ none ∨ ∃ v, M.hist id v ≠ none) := by
        intro id hid h
        rcases inv.live _ h with q | ⟨j, y, q1, q2, q3, q4⟩
        · omega
        · have hy : y.fp = .nw id ∨ y.fp = .all := grow_fp q3 q4
          rcases Nat.lt_trichotomy j i with c | c | c
          · have := a5 j y c q2; omega
          · subst c; rw [hLi] at q1; cases q1
          · have := after c q2 (.inr (by rw [hfp]; rcases hy with h | h <;> rw [h] <;> rfl))
            rw [q1] at this; cases this
      have hup : M.upto x.s.length := by
        refine ⟨fun id hid => ?_, fun id v hid => ?_⟩
        · cases e : M.box id with
          | none => rfl
          | some b => exact absurd (.inl (by rw [e]; simp)) (hnone id hid)
        · cases e : M.hist id v with
          | none => rfl
          | some b => exact absurd (.inr ⟨v, by rw [e]; simp⟩) (hnone id hid)
      refine h0.2 w0 M own w a hrel hup hrep K Q fun v M' own' w' le up hw' hr => hK M' own' w' _ ⟨hclosed, ?_, hslots le (by rw [hval]; exact hr), by rw [put_defers]; exact inv.defers, ?_, inv.le.trans le⟩
      · rw [show doneS tr (stAt s0) (addL L i) ops.size = stAt s' from funext fun id => by
          rw [hnew id (hta id)]
          unfold doneS
          simp only [haddi, hx, he]]
        exact hw'
      · intro id h
        have hlt : id < s'.length := by
          rcases Nat.lt_or_ge id s'.length with q | q
          · exact q
          · rcases h with h | ⟨v, h⟩
            · exact absurd (up.1 id q) h
            · exact absurd (up.2 id v q) h
        rcases Nat.lt_or_ge id x.s.length with q | q
        · exact liveLow id (.inr hfp) q
        · exact .inr ⟨i, x, haddi, hx, q, by rw [hnext]; exact hlt⟩
  -- the guard
  unfold wpOp
  rw [hat]
  simp only []
  unfold Tr.ok at hok
  split at hok
  · rename_i hg
    obtain ⟨e0, he, h0⟩ := hok
    have : Region.wanted x.o (yielded ops a.tmps) = true := by simp [Region.wanted, hg]
    rw [if_pos this]
    exact .inl (eff he h0)
  · rename_i j want hg
    have hslot : ∀ k, (ops[j]?).bind (·.dst) = some k → Rep M (x.t.getD k .undef) (a.tmps.getD k undef) := by
      intro k hk
      have : k ∈ looks ops x.o := by
        unfold looks
        refine List.mem_append.2 (.inr ?_)
        rw [hg]
        cases hq : ops[j]? with
        | none => rw [hq] at hk; cases hk
        | some q =>
          rw [hq] at hk
          simp only [Option.bind_some] at hk
          simp only [hq, hk]
          simp
      have h1 := repL_getD inv.slots k
      rw [List.getD_eq_getElem?_getD, F1 k this, ← List.getD_eq_getElem?_getD] at h1
      exact h1
    have skip : x.e = none → Region.wanted x.o (yielded ops a.tmps) = false → (if Region.wanted x.o (yielded ops a.tmps) then x.o.wp P a w K Q ∨ (x.o.asks P a w ∧ LetsOut Q) else K (a.put x.o.dst undef) w) := by
      intro he this
      rw [this]
      have hnt : ∀ id, ¬ touchS x id := fun id h => by unfold touchS at h; rw [he] at h; exact h
      have hval : x.val = .tup [] := by unfold Tr.val; rw [he]
      refine hK M own w _ ⟨hclosed, ?_, hslots (.refl M) (by rw [hval]; exact rep_skip), by rw [put_defers]; exact inv.defers, liveOld, inv.le⟩
      rw [show doneS tr (stAt s0) (addL L i) ops.size = doneS tr (stAt s0) L ops.size from funext fun id => hsame id (hnt id)]
      exact inv.rel
    rcases hok with ⟨b, hb, hcase⟩ | ⟨hb, he⟩
    · have hy : yielded ops a.tmps j = some b := guard_val (M := M) (t := x.t) hslot hb
      rcases hcase with ⟨rfl, e0, he, h0⟩ | ⟨hne, he⟩
      · have : Region.wanted x.o (yielded ops a.tmps) = true := by simp [Region.wanted, hg, hy]
        rw [if_pos this]
        exact .inl (eff he h0)
      · exact skip he (by simp [Region.wanted, hg, hy, hne])
    · have hy : yielded ops a.tmps j = none := guard_undef (M := M) (t := x.t) hslot hb
      exact skip he (by simp [Region.wanted, hg, hy])

theorem ready_iff {listed : Array Bool} (hl : listed.size = ops.size) (i : Nat) : i ∈ Region.ready .any ops listed ↔ i < ops.size ∧ listed.getD i false = false ∧ preds ops (fun j => listed.getD j false) i := by
  unfold Region.ready
  rw [List.mem_filter, List.mem_range]
  constructor
  · rintro ⟨h1, h2⟩
    have ho : ops[i]? = some ops[i] := by simp [h1]
    rw [ho] at h2
    simp only [Option.map_some, Option.getD_some, Bool.and_eq_true, Bool.not_eq_true', Array.all_eq_true_iff_forall_mem] at h2
    refine ⟨h1, ?_, ?_⟩
    · have := h2.1
      rw [Array.getD_eq_getD_getElem?] at this ⊢
      cases e : listed[i]? with
      | none => rfl
      | some b => rw [e] at this; exact this
    · intro o hoo e he hb
      rw [ho] at hoo
      obtain rfl := Option.some.inj hoo
      have := h2.2 e (by simpa using he)
      rw [hb] at this
      simpa using this
  · rintro ⟨h1, h2, h3⟩
    refine ⟨h1, ?_⟩
    have ho : ops[i]? = some ops[i] := by simp [h1]
    rw [ho]
    simp only [Option.map_some, Option.getD_some, Bool.and_eq_true, Bool.not_eq_true', Array.all_eq_true_iff_forall_mem]
    refine ⟨?_, fun e he => ?_⟩
    · rw [Array.getD_eq_getD_getElem?] at h2 ⊢
      have : listed[i]? = some listed[i] := by simp [hl, h1]
      rw [this] at h2 ⊢
      exact h2
    · cases hb : Region.binds .any e with
      | false => rfl
      | true =>
        have := h3 _ ho e (by simpa using he) hb
        simpa using this

theorem draw_any (htr : Trace P ops ops.toList t0 s0 tr tn sn) (hd : drawOK ops ((tr.map Tr.fp).reverse ++ []) = true) {Q : Exit → Act → World → Prop}
    (hq : ∀ M' own' w' a', M0.Le M' → M'.upto sn.length → WRel w0 M' own' (stAt sn) w' → RepL M' tn a'.tmps → a'.defers = [] → Q .normal a' w') :
    ∀ (fuel : Nat) (listed : Array Bool) (M : MM) (own : Nat → Option Nat) (w : World) (a : Act), listed.size = ops.size → listed.toList.count false ≤ fuel → DInv P ops t0 s0 tr w0 M0 (fun j => listed.getD j false) M own w a → wpAny P .any ops Q fuel listed a w := by
  obtain ⟨hlen, hedge, _⟩ := drawOK_out hd
  obtain ⟨hall, hT, hS⟩ := done_all htr
  -- nothing ready: all is done
  have fin : ∀ {listed : Array Bool} {M : MM} {own : Nat → Option Nat} {w : World} {a : Act}, (∀ j, j < ops.size → listed.getD j false = true) → DInv P ops t0 s0 tr w0 M0 (fun j => listed.getD j false) M own w a → Q .normal a w := by
    intro listed M own w a hdone inv
    have e1 : doneT tr t0 (fun j => listed.getD j false) ops.size = tn := by
      rw [← hT, hlen]
      apply List.ext_getElem?
      intro k
      exact doneT_agree tr t0 ops.size (fun j x hj _ _ => hdone j hj)
    have e2 : doneS tr (stAt s0) (fun j => listed.getD j false) ops.size = stAt sn := by
      rw [← hS, hlen]
      funext id
      exact doneS_agree tr (stAt s0) ops.size (fun j x hj _ _ => hdone j hj)
    have hnone : ∀ id, sn.length ≤ id → ¬ (M.box id ≠ none ∨ ∃ v, M.hist id v ≠ none) := by
      intro id hid h
      rcases inv.live _ h with q | ⟨j, y, q1, q2, q3, q4⟩
      · have := trace_slen htr; omega
      · have := (hall j y q2).2.2.2.1; omega
    refine hq M own w a inv.le ⟨fun id hid => ?_, fun id v hid => ?_⟩ (e2 ▸ inv.rel) (e1 ▸ inv.slots) inv.defers
    · cases e : M.box id with
      | none => rfl
      | some b => exact absurd (.inl (by rw [e]; simp)) (hnone id hid)
    · cases e : M.hist id v with
      | none => rfl
      | some b => exact absurd (.inr ⟨v, by rw [e]; simp⟩) (hnone id hid)
  have nothing : ∀ {listed : Array Bool}, listed.size = ops.size → Region.ready .any ops listed = [] → ∀ j, j < ops.size → listed.getD j false = true := by
    intro listed hl hr j
    induction j using Nat.strongRecOn with
    | _ j ih =>
      intro hj
      cases e : listed.getD j false with
      | true => rfl
      | false =>
        have : j ∈ Region.ready .any ops listed := (ready_iff hl j).2 ⟨hj, e, fun o ho ed he hb => ih ed.on (hedge j o ho ed he hb) (by have := hedge j o ho ed he hb; omega)⟩
        rw [hr] at this
        cases this
  intro fuel
  induction fuel with
  | zero =>
    intro listed M own w a hl hc inv
    have hdone : ∀ j, j < ops.size → listed.getD j false = true := by
      intro j hj
      have h0 : listed.toList.count false = 0 := by omega
      rw [List.count_eq_zero] at h0
      have hj' : j < listed.size := by omega
      rw [Array.getD_eq_getD_getElem?]
      have : listed[j]? = some listed[j] := by simp [hj']
      rw [this]
      cases e : listed[j] with
      | true => simp
      | false => exact absurd (by rw [← e]; simp) h0
    refine ⟨?_, fin hdone inv⟩
    apply List.eq_nil_iff_forall_not_mem.2
    intro i hi
    have := (ready_iff hl i).1 hi
    rw [hdone i this.1] at this
    exact absurd this.2.1 (by simp)
  | succ fuel ih =>
    intro listed M own w a hl hc inv
    refine ⟨fun hr => fin (nothing hl hr) inv, fun i hi => ?_⟩
    obtain ⟨h1, h2, h3⟩ := (ready_iff hl i).1 hi
    have hx : tr[i]? = some (tr[i]'(by omega)) := by simp [show i < tr.length by omega]
    refine step_draw htr hd inv hx h2 h3 fun M' own' w' a' inv' => ih _ M' own' w' a' (by simp [hl]) ?_ ?_
    · have hlt : i < listed.toList.length := by simp [hl, h1]
      have hget : listed.toList[i] = false := by
        rw [Array.getD_eq_getD_getElem?] at h2
        have : listed[i]? = some listed[i] := by simp [hl, h1]
        rw [this] at h2
        simpa using h2
      have hset : (listed.setIfInBounds i true).toList = listed.toList.set i true := by simp
      rw [hset, List.count_set hlt]
      have hpos : 0 < listed.toList.count false := List.count_pos_iff.2 (by rw [← hget]; simp)
      rw [hget]
      rw [show (if (false == false) = true then 1 else 0) = 1 from rfl, show (if (true == false) = true then 1 else 0) = 0 from rfl]
      omega
    · have : (fun j => (listed.setIfInBounds i true).getD j false) = addL (fun j => listed.getD j false) i := by
        funext j
        unfold addL
        simp only [Array.getD_eq_getD_getElem?]
        by_cases e : j = i
        · subst e; simp [hl, h1]
        · rw [Array.getElem?_setIfInBounds_ne (Ne.symm e), if_neg e]
      rw [this]
      exact inv'

/-- A region that draws its order. -/
theorem region_draw (htr : Trace P ops ops.toList t0 s0 tr tn sn) (hd : drawOK ops ((tr.map Tr.fp).reverse ++ []) = true) (hm : P.follows .mixedOrders = true) {M : MM} {own : Nat → Option Nat} {w : World} {a : Act} (id : Nat)
    (hw : WRel w0 M own (stAt s0) w) (hu : M.upto s0.length) (ht : RepL M t0 a.tmps) (hdf : a.defers = []) {Q : Exit → Act → World → Prop}
    (hq : ∀ M' own' w' a', M.Le M' → M'.upto sn.length → WRel w0 M' own' (stAt sn) w' → RepL M' tn a'.tmps → a'.defers = [] → Q .normal a' w') : (Code.region id ops true).wp P Q a w := by
  refine wp_region_any hm (draw_any (w0 := w0) (M0 := M) htr hd hq ops.size _ M own _ a (by simp) ?_ ?_)
  · rw [Array.toList_replicate]; simp
  · have hL : ∀ j, (Array.replicate ops.size false).getD j false = false := fun j => by
      rw [Array.getD_eq_getD_getElem?, Array.getElem?_replicate]
      split <;> rfl
    have eT : ∀ k, doneT tr t0 (fun j => (Array.replicate ops.size false).getD j false) k = t0 := by
      intro k
      induction k with
      | zero => rfl
      | succ k ih => unfold doneT; simp only [hL k]; exact ih
    have eS : ∀ k, doneS tr (stAt s0) (fun j => (Array.replicate ops.size false).getD j false) k = stAt s0 := by
      intro k
      induction k with
      | zero => rfl
      | succ k ih => unfold doneS; simp only [hL k]; exact ih
    refine ⟨fun j hj => ?_, ?_, ?_, hdf, ?_, .refl M⟩
    · rw [hL j] at hj; cases hj
    · rw [eS]; exact hw.drew
    · rw [eT]; exact ht
    · intro id h
      left
      rcases Nat.lt_or_ge id s0.length with q | q
      · exact q
      · rcases h with h | ⟨v, h⟩
        · exact absurd (hu.1 id q) h
        · exact absurd (hu.2 id v q) h
end

end Go.Ev
