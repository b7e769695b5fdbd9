/- A region that draws its order: whatever order its edges allow comes to what the text's order does. -/
import Derived.Test.YteakhlhhmgpidaaEvL
namespace Go.Ev
open Go Go.RowKit
set_option linter.unusedVariables false
set_option linter.unusedSimpArgs false

/-! ### What stands ahead of an operation -/
theorem foldl_bits (acc : List Nat) : ∀ (es : List Edge) (m k : Nat), (es.foldl (fun m e => match Region.binds .any e with | true => m ||| (1 <<< e.on) ||| acc.getD e.on 0 | false => m) m).testBit k = true →
    m.testBit k = true ∨ ∃ e ∈ es, Region.binds .any e = true ∧ (k = e.on ∨ (acc.getD e.on 0).testBit k = true)
  | [], m, k, h => .inl h
  | e :: es, m, k, h => by
    rw [List.foldl_cons] at h
    rcases foldl_bits acc es _ k h with h | ⟨e', he, h1, h2⟩
    · split at h
      · rename_i hb
        rw [Nat.testBit_or, Nat.testBit_or, Bool.or_eq_true, Bool.or_eq_true] at h
        rcases h with (h | h) | h
        · exact .inl h
        · refine .inr ⟨e, by simp, hb, .inl ?_⟩
          rw [Nat.one_shiftLeft, Nat.testBit_two_pow] at h
          exact (of_decide_eq_true h).symm
        · exact .inr ⟨e, by simp, hb, .inr h⟩
      · exact .inl h
    · exact .inr ⟨e', by simp [he], h1, h2⟩

def bitsOf (o : Oper) (acc : List Nat) : Nat := o.after.toList.foldl (fun m e => match Region.binds .any e with | true => m ||| (1 <<< e.on) ||| acc.getD e.on 0 | false => m) 0

theorem aheads_spec : ∀ (rest : List Oper) (acc : List Nat), (aheads rest acc).length = acc.length + rest.length ∧ (aheads rest acc).take acc.length = acc ∧
    ∀ (j : Nat) (o : Oper), rest[j]? = some o → (aheads rest acc)[acc.length + j]? = some (bitsOf o ((aheads rest acc).take (acc.length + j)))
  | [], acc => ⟨by simp [aheads], by simp [aheads], fun j o h => by simp at h⟩
  | o :: rest, acc => by
    have ih := aheads_spec rest (acc ++ [bitsOf o acc])
    have hun : aheads (o :: rest) acc = aheads rest (acc ++ [bitsOf o acc]) := rfl
    rw [hun]
    obtain ⟨h1, h2, h3⟩ := ih
    have h2' : (aheads rest (acc ++ [bitsOf o acc])).take acc.length = acc := by
      have := congrArg (fun l => l.take acc.length) h2
      simp only [List.length_append, List.length_singleton, List.take_take] at this
      rw [show min acc.length (acc.length + 1) = acc.length by omega] at this
      rw [this]
      simp
    refine ⟨by rw [h1]; simp; omega, h2', fun j q hq => ?_⟩
    cases j with
    | zero =>
      simp at hq
      subst hq
      rw [Nat.add_zero, h2']
      have := congrArg (fun l => l[acc.length]?) h2
      simp only [List.length_append, List.length_singleton, List.getElem?_take] at this
      rw [if_pos (by omega)] at this
      rw [this]
      simp
    | succ j =>
      have := h3 j q (by simpa using hq)
      simp only [List.length_append, List.length_singleton] at this
      rw [show acc.length + 1 + j = acc.length + (j + 1) by omega] at this
      exact this

/-- 'L' tells which operations have been done: all that stand right ahead of one that is done are. -/
def preds (ops : Array Oper) (L : Nat → Bool) (j : Nat) : Prop := ∀ o, ops[j]? = some o → ∀ e ∈ o.after.toList, Region.binds .any e = true → L e.on = true
def closed (ops : Array Oper) (L : Nat → Bool) : Prop := ∀ i, L i = true → preds ops L i

theorem reach {ops : Array Oper} {L : Nat → Bool} (hc : closed ops L) : ∀ (n j : Nat), j ≤ n → preds ops L j → ∀ k, ((aheads ops.toList []).getD j 0).testBit k = true → L k = true := by
  intro n
  induction n with
  | zero =>
    intro j hj hp k hk
    obtain rfl : j = 0 := by omega
    cases ho : ops[0]? with
    | none =>
      have hlen := (aheads_spec ops.toList []).1
      have : (aheads ops.toList [])[0]? = none := by
        rw [List.getElem?_eq_none_iff, hlen, List.length_nil, Nat.zero_add, Array.length_toList]
        exact Array.getElem?_eq_none_iff.1 ho
      rw [List.getD_eq_getElem?_getD, this] at hk
      simp at hk
    | some o =>
      have h := (aheads_spec ops.toList []).2.2 0 o (by rw [Array.getElem?_toList]; exact ho)
      simp only [List.length_nil, Nat.zero_add, List.take_zero] at h
      rw [List.getD_eq_getElem?_getD, h, Option.getD_some] at hk
      rcases foldl_bits _ _ _ _ hk with h0 | ⟨e, he, h1, h2⟩
      · simp at h0
      · rcases h2 with rfl | h2
        · exact hp o ho e he h1
        · simp at h2
  | succ n ih =>
    intro j hj hp k hk
    cases ho : ops[j]? with
    | none =>
      have hlen := (aheads_spec ops.toList []).1
      have : (aheads ops.toList [])[j]? = none := by
        rw [List.getElem?_eq_none_iff, hlen, List.length_nil, Nat.zero_add, Array.length_toList]
        exact Array.getElem?_eq_none_iff.1 ho
      rw [List.getD_eq_getElem?_getD, this] at hk
      simp at hk
    | some o =>
      have h := (aheads_spec ops.toList []).2.2 j o (by rw [Array.getElem?_toList]; exact ho)
      simp only [List.length_nil, Nat.zero_add] at h
      rw [List.getD_eq_getElem?_getD, h, Option.getD_some] at hk
      rcases foldl_bits _ _ _ _ hk with h0 | ⟨e, he, h1, h2⟩
      · simp at h0
      · have hL := hp o ho e he h1
        rcases h2 with rfl | h2
        · exact hL
        · rw [List.getD_eq_getElem?_getD, List.getElem?_take] at h2
          split at h2
          · rename_i hlt
            refine ih e.on (by omega) (hc _ hL) k ?_
            rw [List.getD_eq_getElem?_getD]
            exact h2
          · simp at h2

/-! ### Values of slots and of the store, by what has been done -/
section
variable (tr : List Tr) (t0 : List D) (σ0 : Nat → Ob)
def touchS (x : Tr) (id : Nat) : Prop := match x.e with
  | some (.upd i _ _ _) => id = i
  | some (.new _ _) => id = x.s.length
  | some (.all _ _) => True
  | _ => False
def doneT (L : Nat → Bool) : Nat → List D
  | 0 => t0
  | k + 1 => match L k, tr[k]? with
    | true, some x => put (doneT L k) x.o.dst x.val
    | _, _ => doneT L k
def doneS (L : Nat → Bool) : Nat → Nat → Ob
  | 0 => σ0
  | k + 1 => match L k, tr[k]? with
    | true, some x => match x.e with
      | some (.upd i _ o' _) => upd (doneS L k) i o'
      | some (.new o' _) => upd (doneS L k) x.s.length o'
      | some (.all s' _) => stAt s'
      | _ => doneS L k
    | _, _ => doneS L k

theorem put_get_other {t : List D} {dst : Option Nat} {d : D} {i : Nat} (h : dst ≠ some i) : (put t dst d)[i]? = t[i]? := by
  cases dst with
  | none => rfl
  | some j => exact List.getElem?_set_ne (fun e => h (by rw [e]))
theorem put_length (t : List D) (dst : Option Nat) (d : D) : (put t dst d).length = t.length := by cases dst <;> simp [put]
theorem doneT_length (L : Nat → Bool) : ∀ k, (doneT tr t0 L k).length = t0.length
  | 0 => rfl
  | k + 1 => by
    unfold doneT
    split
    · rw [put_length, doneT_length L k]
    · exact doneT_length L k

/-- Slots hang on what wrote them alone. -/
theorem doneT_agree {L L' : Nat → Bool} {i : Nat} : ∀ k, (∀ j x, j < k → tr[j]? = some x → x.o.dst = some i → L j = L' j) → (doneT tr t0 L k)[i]? = (doneT tr t0 L' k)[i]?
  | 0, _ => rfl
  | k + 1, h => by
    have ih := doneT_agree (L := L) (L' := L') (i := i) k (fun j x hj => h j x (by omega))
    have hlen : (doneT tr t0 L k).length = (doneT tr t0 L' k).length := by rw [doneT_length, doneT_length]
    unfold doneT
    cases hx : tr[k]? with
    | none => cases L k <;> cases L' k <;> exact ih
    | some x =>
      by_cases hd : x.o.dst = some i
      · rw [h k x (by omega) hx hd]
        cases L' k
        · exact ih
        · simp only [hd, put, List.getElem?_set, hlen, if_true]
      · cases L k <;> cases L' k <;> simp only [] <;> first | exact ih | (rw [put_get_other hd]; exact ih) | (rw [put_get_other hd, put_get_other hd]; exact ih)
theorem doneT_stay {L : Nat → Bool} {i : Nat} (m : Nat) : ∀ k, m ≤ k → (∀ j x, m ≤ j → j < k → tr[j]? = some x → x.o.dst = some i → L j = false) → (doneT tr t0 L k)[i]? = (doneT tr t0 L m)[i]?
  | 0, hm, _ => by
    have e : m = 0 := by omega
    subst e
    rfl
  | k + 1, hm, h => by
    by_cases e : m = k + 1
    · subst e; rfl
    · have ih := doneT_stay m k (by omega) (fun j x h1 h2 => h j x h1 (by omega))
      conv => lhs; unfold doneT
      cases hx : tr[k]? with
      | none => cases L k <;> exact ih
      | some x =>
        by_cases hd : x.o.dst = some i
        · rw [h k x (by omega) (by omega) hx hd]; exact ih
        · cases L k
          · exact ih
          · simp only []; rw [put_get_other hd]; exact ih
theorem doneS_agree {L L' : Nat → Bool} {id : Nat} : ∀ k, (∀ j x, j < k → tr[j]? = some x → touchS x id → L j = L' j) → doneS tr σ0 L k id = doneS tr σ0 L' k id
  | 0, _ => rfl
  | k + 1, h => by
    have ih := doneS_agree (L := L) (L' := L') (id := id) k (fun j x hj => h j x (by omega))
    unfold doneS
    cases hx : tr[k]? with
    | none => cases L k <;> cases L' k <;> exact ih
    | some x =>
      have hk := h k x (by omega) hx
      unfold touchS at hk
      cases he : x.e with
      | none => cases L k <;> cases L' k <;> simp only [he] <;> exact ih
      | some e =>
        rw [he] at hk
        cases e with
        | pure d => cases L k <;> cases L' k <;> simp only [he] <;> exact ih
        | read i o d => cases L k <;> cases L' k <;> simp only [he] <;> exact ih
        | upd i o o' d =>
          by_cases e1 : id = i
          · rw [hk e1]; cases L' k <;> simp only [he, upd, e1, if_true] <;> (try exact e1 ▸ ih)
          · cases L k <;> cases L' k <;> simp only [he, upd, e1, if_false] <;> exact ih
        | new o' mk =>
          by_cases e1 : id = x.s.length
          · rw [hk e1]; cases L' k <;> simp only [he, upd, e1, if_true] <;> (try exact e1 ▸ ih)
          · cases L k <;> cases L' k <;> simp only [he, upd, e1, if_false] <;> exact ih
        | all s' d => rw [hk trivial]; cases L' k <;> simp only [he]; exact ih
theorem doneS_stay {L : Nat → Bool} {id : Nat} (m : Nat) : ∀ k, m ≤ k → (∀ j x, m ≤ j → j < k → tr[j]? = some x → touchS x id → L j = false) → doneS tr σ0 L k id = doneS tr σ0 L m id
  | 0, hm, _ => by
    have e : m = 0 := by omega
    subst e
    rfl
  | k + 1, hm, h => by
    by_cases e : m = k + 1
    · subst e; rfl
    · have ih := doneS_stay m k (by omega) (fun j x h1 h2 => h j x h1 (by omega))
      conv => lhs; unfold doneS
      cases hx : tr[k]? with
      | none => cases L k <;> exact ih
      | some x =>
        have hk := h k x (by omega) (by omega) hx
        unfold touchS at hk
        cases hL : L k with
        | false => exact ih
        | true =>
          rw [hL] at hk
          simp only []
          cases he : x.e with
          | none => exact ih
          | some e =>
            rw [he] at hk
            cases e with
            | pure d => exact ih
            | read i o d => exact ih
            | upd i o o' d =>
              by_cases e1 : id = i
              · exact absurd (hk e1) (by simp)
              · simp only [upd, e1, if_false]; exact ih
            | new o' mk =>
              by_cases e1 : id = x.s.length
              · exact absurd (hk e1) (by simp)
              · simp only [upd, e1, if_false]; exact ih
            | all s' d => exact absurd (hk trivial) (by simp)
end

/-- All done up to a place: the state of the trace there. -/
theorem done_all {P : Program} {ops : Array Oper} : ∀ {rest : List Oper} {t : List D} {s : List Ob} {tr : List Tr} {t' : List D} {s' : List Ob}, Trace P ops rest t s tr t' s' →
    (∀ (i : Nat) (x : Tr), tr[i]? = some x → doneT tr t (fun _ => true) i = x.t ∧ doneS tr (stAt s) (fun _ => true) i = stAt x.s ∧ s.length ≤ x.s.length ∧ x.nextS.length ≤ s'.length ∧
      (∀ (j : Nat) (y : Tr), j < i → tr[j]? = some y → y.nextS.length ≤ x.s.length) ∧ (∀ id, s.length ≤ id → id < x.s.length → ∃ j y, j < i ∧ tr[j]? = some y ∧ y.s.length ≤ id ∧ id < y.nextS.length)) ∧
    doneT tr t (fun _ => true) tr.length = t' ∧ doneS tr (stAt s) (fun _ => true) tr.length = stAt s'
  | [], t, s, tr, t', s', h => by
    obtain ⟨rfl, rfl, rfl⟩ := h
    exact ⟨fun i x hx => by simp at hx, rfl, rfl⟩
  | o :: rest, t, s, tr, t', s', h => by
    obtain ⟨x, xs, rfl, rfl, rfl, rfl, hok, h⟩ := h
    obtain ⟨ih, ih1, ih2⟩ := done_all h
    have hslen := nextS_len hok
    have shiftT : ∀ k, doneT (x :: xs) x.t (fun _ => true) (k + 1) = doneT xs x.nextT (fun _ => true) k := by
      intro k
      induction k with
      | zero => rfl
      | succ k ihk =>
        conv => lhs; unfold doneT
        conv => rhs; unfold doneT
        simp only [List.getElem?_cons_succ]
        cases xs[k]? with
        | none => exact ihk
        | some y => simp only []; rw [ihk]
    have hbase : doneS (x :: xs) (stAt x.s) (fun _ => true) 1 = stAt x.nextS := by
      unfold doneS doneS
      simp only [List.getElem?_cons_zero]
      unfold Tr.nextS
      cases he : x.e with
      | none => rfl
      | some e =>
        cases e with
        | pure d => rfl
        | read i o d => rfl
        | upd i ob ob' d =>
          have : i < x.s.length := by
            unfold Tr.ok at hok
            rw [he] at hok
            split at hok
            · obtain ⟨e0, h0, h1⟩ := hok; cases h0; exact h1.1.2
            · obtain ⟨b, _, ⟨_, e0, h0, h1⟩ | ⟨_, h0⟩⟩ | ⟨_, h0⟩ := hok
              · cases h0; exact h1.1.2
              · cases h0
              · cases h0
          simp only []
          rw [stAt_set this]
        | new ob mk => simp only []; rw [stAt_push]
        | all s2 d => rfl
    have shiftS : ∀ k, doneS (x :: xs) (stAt x.s) (fun _ => true) (k + 1) = doneS xs (stAt x.nextS) (fun _ => true) k := by
      intro k
      induction k with
      | zero => exact hbase
      | succ k ihk =>
        conv => lhs; unfold doneS
        conv => rhs; unfold doneS
        simp only [List.getElem?_cons_succ]
        cases xs[k]? with
        | none => exact ihk
        | some y => simp only []; rw [ihk]
    refine ⟨fun i y hy => ?_, by rw [List.length_cons, shiftT]; exact ih1, by rw [List.length_cons, shiftS]; exact ih2⟩
    cases i with
    | zero =>
      simp at hy
      subst hy
      exact ⟨rfl, rfl, Nat.le_refl _, trace_slen h, fun j y hj => by omega, fun id h1 h2 => by omega⟩
    | succ i =>
      obtain ⟨a1, a2, a3, a4, a5, a6⟩ := ih i y (by simpa using hy)
      refine ⟨by rw [shiftT]; exact a1, by rw [shiftS]; exact a2, by omega, a4, ?_, ?_⟩
      · intro j z hj hz
        cases j with
        | zero => simp at hz; subst hz; exact a3
        | succ j => exact a5 j z (by omega) (by simpa using hz)
      · intro id h1 h2
        rcases Nat.lt_or_ge id x.nextS.length with q | q
        · exact ⟨0, x, by omega, rfl, h1, q⟩
        · obtain ⟨j, z, b1, b2, b3, b4⟩ := a6 id q h2
          exact ⟨j + 1, z, by omega, by simpa using b2, b3, b4⟩

end Go.Ev
