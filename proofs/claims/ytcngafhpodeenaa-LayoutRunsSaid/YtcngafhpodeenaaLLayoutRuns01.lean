/- Contracts and plain laws that a statement's proof leans on (texts merged: MdKQ, MdKR). -/
import Derived.Test.YtcngafhpodeenaaP07
import Derived.Test.YtcngafhpodeenaaP08
set_option linter.unusedVariables false
set_option linter.unusedSimpArgs false
namespace Go.Ev
open Go Go.RowKit Go.ChangeShapes Go.WideShapes Go.Deep
section
variable {H : Type} {enc : TypeId × Value → H} {P : Program} {w : World} {base : Nat} {spare : Nat → Bool} {held : Bool}
theorem weightsAll_mem {e : TypeId} {n : Nat} {d : DataW H} : ∀ {l : List (DataW H)}, d ∈ l → n ∈ d.weights P e → n ∈ DataW.weightsAll P e l
 | [], h, _ => by cases h
 | x :: r, h, hn => by
  rw [DataW.weightsAll, List.mem_append]
  rcases List.mem_cons.1 h with rfl | h
  ·exact .inl hn
  ·exact .inr (weightsAll_mem h hn)
theorem slice_wt {t e : TypeId} {v : Value} {fuel k B : Nat} {x : DataW H × List MemPlace} {M : MM} {xs : List D} (hs : P.underlying t = some (.slice e)) (h : DataW.trod enc P w base spare held fuel t [v] = some x) (hr : Rep M (.lst .no k xs) v) (hw : ∀ n ∈ x.1.weights P t, n ≤ B) : xs.length * P.bytesOf e ≤ B := by
 rcases open_slice hs h with ⟨h0, _⟩ | ⟨a, len, cap, m, n, D', Pl, hcs, hb, hl, hm, hmm, hx, hi⟩
 ·obtain rfl := (List.cons.inj h0).1
  cases hr with
  | lst b off vs hl hcap ha hsz hc hr hst ho => rw [hl]; simp
 ·obtain rfl := (List.cons.inj hcs).1
  cases hr with
  | lst b off vs hl' hcap ha hsz hc hr hst ho =>
   rw [hl']
   subst hx
   have := hw (((List.range len).map D').length * P.bytesOf e + ((List.range (m - len)).map fun j => D' (len + j)).length * P.bytesOf e) (by
    rw [← Nat.add_mul]
    simp only [DataW.weights, hs]
    exact List.mem_cons_self ..)
   simp only [List.length_map, List.length_range] at this
   omega
theorem slices_open {t e e2 : TypeId} {ks : List LK} {v : Value} {fuel B : Nat} {x : DataW H × List MemPlace} (hs : P.underlying t = some (.slice e)) (he : P.underlying e = some (.slice e2)) (hce : P.cellsOf e = 1) (hk : flatK P 10 e2 = some ks) (hsz : P.cellsOf e2 = ks.length) (hne0 : ks.length ≠ 0)
  (h : DataW.trod enc P w base spare held fuel t [v] = some x) (hw : ∀ n ∈ x.1.weights P t, n ≤ B) :
  ∃ yss : List (List (List D)), (∀ ys ∈ yss, (∀ ds ∈ ys, okL ks ds) ∧ ys.length * P.bytesOf e2 ≤ B) ∧ Rep (bareOf (allOf w)) (.lst .no 1 (yss.map fun ys => .lst .no ks.length (ys.map .agg))) v := by
 rcases open_slice hs h with ⟨h0, _⟩ | ⟨a, len, cap, m, n, D', Pl, hcs, hb, hl, hm, hmm, hx, hi⟩
 ·obtain rfl := (List.cons.inj h0).1
  refine ⟨[], by simp, ?_⟩
  exact .lst 0 0 (fun _ _ => .nilFunc) rfl (Nat.le_refl _) (by simp) (by simp) (by simp) (by simp) (by simp) trivial
 ·obtain rfl := (List.cons.inj hcs).1
  have hlm : len ≤ m := by rw [hmm]; split <;> omega
  have hex : ∀ i, ∃ q : Value × List (List D), i < len → (w.cell? ⟨a.block, a.off + i * 1 + 0, none⟩ = some q.1 ∧ w.cell? ((a.add (i * 1)).add 0) = some q.1) ∧ (∀ ds ∈ q.2, okL ks ds) ∧ q.2.length * P.bytesOf e2 ≤ B ∧ Rep (bareOf (allOf w)) (.lst .no ks.length (q.2.map .agg)) q.1 := by
   intro i
   by_cases hlt : i < len
   ·obtain ⟨cs', h1, h2⟩ := hi i (by omega)
    obtain ⟨_, hcl, hat⟩ := World.cells?_some h1
    have hv := hat 0 (by rw [hce]; omega)
    rw [hce] at hcl hv
    match cs', hcl, h2, hv with
    | [u], _, h2, hv =>
     obtain ⟨ys, o1, _, r1⟩ := slice_cells .agg (fun ds _ => rfl) he hk hsz hne0 h2
     refine ⟨(u, ys), fun _ => ⟨⟨cell_spot hv, hv⟩, o1, ?_, r1⟩⟩
     have := slice_wt he h2 r1 (B := B) (fun k hk' => hw k (by
      subst hx
      simp only [DataW.weights, hs]
      refine List.mem_cons_of_mem _ (List.mem_append_left _ ?_)
      exact weightsAll_mem (List.mem_map.2 ⟨i, List.mem_range.2 hlt, rfl⟩) hk'))
     rw [List.length_map] at this
     exact this
   ·exact ⟨(.nilFunc, []), fun q => absurd q hlt⟩
  obtain ⟨F, hF⟩ := Classical.axiomOfChoice hex
  have hget : ∀ (i : Nat) (y : D), (((List.range len).map fun i => (F i).2).map fun ys => D.lst .no ks.length (ys.map .agg))[i]? = some y → i < len ∧ y = .lst .no ks.length ((F i).2.map .agg) := by
   intro i y hy
   rw [List.getElem?_map, List.getElem?_map, Option.map_eq_some_iff] at hy
   obtain ⟨q, hq, rfl⟩ := hy
   rw [Option.map_eq_some_iff] at hq
   obtain ⟨j, hj, rfl⟩ := hq
   have hil : i < len := by
    rcases Nat.lt_or_ge i len with q | q
    ·exact q
    ·rw [List.getElem?_eq_none (by simpa using q)] at hj; cases hj
   rw [List.getElem?_range hil] at hj
   obtain rfl := Option.some.inj hj
   exact ⟨hil, rfl⟩
  refine ⟨(List.range len).map fun i => (F i).2, ?_, ?_⟩
  ·intro ys hys
   rw [List.mem_map] at hys
   obtain ⟨i, hi', rfl⟩ := hys
   have := hF i (by simpa using hi')
   exact ⟨this.2.1, this.2.2.1⟩
  ·refine .lst a.block a.off (fun i j => (F i).1) (by simp) (by omega) ?_ ?_ ?_ ?_ ?_ trivial
   ·intro hne
    have hlen0 : 0 < len := by
     rcases Nat.eq_zero_or_pos len with q | q
     ·subst q; simp at hne
     ·exact q
    have hv := (hF 0 hlen0).1.2
    obtain ⟨b, o, sp⟩ := a
    cases sp with
    | none => rfl
    | some q =>
     exfalso
     unfold World.cell? Addr.add at hv
     simp only [Nat.zero_mul, if_true] at hv
     split at hv <;> simp at hv
   ·intro i y hy
    obtain ⟨hil, rfl⟩ := hget i y hy
    exact ⟨_, rfl, rfl⟩
   ·intro i y cs j c hy hc hj
    obtain ⟨hil, rfl⟩ := hget i y hy
    simp only [D.cells, Option.some.injEq] at hc
    subst hc
    have hj0 : j = 0 := by
     rcases Nat.eq_zero_or_pos j with q | q
     ·exact q
     ·rw [List.getElem?_eq_none (by simp; omega)] at hj; cases hj
    subst hj0
    exact (hF i hil).1.1
   ·intro i y cs j c hy hc hj
    obtain ⟨hil, rfl⟩ := hget i y hy
    simp only [D.cells, Option.some.injEq] at hc
    subst hc
    have hj0 : j = 0 := by
     rcases Nat.eq_zero_or_pos j with q | q
     ·exact q
     ·rw [List.getElem?_eq_none (by simp; omega)] at hj; cases hj
    subst hj0
    simp only [List.getElem?_cons_zero, Option.some.injEq] at hj
    subst hj
    exact (hF i hil).2.2.2
   ·intro i y cs c hy hc hj
    obtain ⟨hil, rfl⟩ := hget i y hy
    simp only [D.cells, Option.some.injEq] at hc
    subst hc
    rw [List.mem_singleton] at hj
    subst hj
    rfl
theorem trod_get_w : ∀ {ts : List TypeId} {vs : List Value} {ds : List (DataW H)} {ps : List MemPlace} {B : Nat}, DataW.TrodAll enc P w base spare held ts vs ds ps → (DataW.weightsEach P ts ds).all (· ≤ B) = true → ∀ (i : Nat) (t : TypeId) (v : Value), ts[i]? = some t → vs[i]? = some v → ∃ (fuel : Nat) (x : DataW H × List MemPlace), DataW.trod enc P w base spare held fuel t v.cells.toList = some x ∧ ∀ n ∈ x.1.weights P t, n ≤ B
 | [], vs, ds, ps, B, h, hz, i, t, v, ht, _ => by simp at ht
 | t0 :: ts, vs, ds, ps, B, h, hz, i, t, v, ht, hv => by
  obtain ⟨v0, vs', d, ds', p, q, rfl, rfl, rfl, h1, h2⟩ := trodAll_cons h
  rw [DataW.weightsEach, List.all_append, Bool.and_eq_true] at hz
  cases i with
  | zero =>
   simp only [List.getElem?_cons_zero, Option.some.injEq] at ht hv
   subst ht hv
   obtain ⟨fuel, hf⟩ := h1
   exact ⟨fuel, _, hf, fun n hn => by simpa using List.all_eq_true.1 hz.1 n hn⟩
  | succ i =>
   simp only [List.getElem?_cons_succ] at ht hv
   exact trod_get_w h2 hz.2 i t v ht hv
end
open Go
theorem rows_of {b B : Nat} : ∀ (yss : List (List (List D))), (∀ ys ∈ yss, (∀ ds ∈ ys, okL irK ds) ∧ ys.length * b ≤ B) → ∃ l : List (List IrS), (yss.map fun ys => D.lst .no irK.length (ys.map .agg)) = rwL l ∧ ∀ r ∈ l, AllOk r ∧ r.length * b ≤ B
 | [], _ => ⟨[], rfl, fun r hr => by cases hr⟩
 | ys :: r, h => by
  obtain ⟨l, e, hl⟩ := rows_of r (fun y hy => h y (List.mem_cons_of_mem _ hy))
  obtain ⟨h1, h2⟩ := h ys (List.mem_cons_self ..)
  obtain ⟨s, es, hs, hn⟩ := irs_of ys h1
  refine ⟨s :: l, ?_, ?_⟩
  ·rw [List.map_cons, e, es]
   rfl
  ·intro y hy
   rcases List.mem_cons.1 hy with rfl | hy
   ·exact ⟨hs, by rw [hn]; exact h2⟩
   ·exact hl y hy
theorem wt_len {n b : Nat} (hb : Nat.ble 1 b = true) (h : n * b ≤ reachBytes) : n ≤ 140737488355328 := by
 have h1 : 1 ≤ b := Nat.le_of_ble_eq_true hb
 have h2 : n ≤ n * b := Nat.le_mul_of_pos_right n h1
 have h3 : reachBytes = 140737488351232 := by decide
 omega
end Go.Ev
