/- The evaluation of one operation is sound: third part (slices, conversions, rows of a literal, append). -/
import Derived.Test.YteakhlhhmgpidaaEvG
import Derived.Laws.AppendOwn
namespace Go.Ev
open Go Go.RowKit
set_option linter.unusedVariables false
set_option linter.unusedSimpArgs false

/-! ### Slices of slices -/
theorem Rep.sub {M : MM} {o : Own} {sz : Nat} {xs : List D} {a : Option Addr} {len cap : Nat} (h : Rep M (.lst o sz xs) (.slice a len cap)) (l hh m : Nat) (h1 : l ≤ hh) (h2 : hh ≤ len) (h3 : hh ≤ m) (_h4 : m ≤ cap) (o' : Own)
    (ho' : o' = .no ∨ (o' = .tight ∧ m = hh)) : Rep M (.lst o' sz ((xs.take hh).drop l)) (.slice (if m = l then a else a.map (·.add (l * sz))) (hh - l) (m - l)) := by
  cases h with
  | lst b off vs hl hcap ha hsz hc hr hst ho =>
    have hget : ∀ i x, ((xs.take hh).drop l)[i]? = some x → xs[l + i]? = some x ∧ l + i < hh := by
      intro i x hx
      rw [List.getElem?_drop, List.getElem?_take] at hx
      split at hx
      · exact ⟨hx, by assumption⟩
      · cases hx
    refine .lst b (off + l * sz) (fun i j => vs (l + i) j) (by simp; omega) (by omega) ?_ ?_ ?_ ?_ ?_ ?_
    · intro hne
      have hlt : l < hh := by
        rcases Nat.lt_or_ge l hh with h | h
        · exact h
        · exact absurd (List.drop_eq_nil_of_le (by simp; omega)) hne
      have : xs ≠ [] := fun e => by subst e; simp at hl; omega
      rw [if_neg (by omega), ha this]
      simp [addr_add]
    · intro i x hx; exact hsz _ x (hget i x hx).1
    · intro i x cs j c hx hcs hj
      have := hc _ x cs j c (hget i x hx).1 hcs hj
      rw [Nat.add_mul] at this
      rw [show off + l * sz + i * sz + j = off + (l * sz + i * sz) + j by omega]
      exact this
    · intro i x cs j c hx hcs hj; exact hr _ x cs j c (hget i x hx).1 hcs hj
    · intro i x cs c hx hcs hj; exact hst _ x cs c (hget i x hx).1 hcs hj
    · rcases ho' with rfl | ⟨rfl, rfl⟩
      · trivial
      · rfl

section
variable {ρ' : Type} {P : Program} {r : ρ'}
theorem run_sliceBound {k : IntKind} {i : Int} {y : Nat} {code : BoundsCode} (h : 0 ≤ i ∧ i ≤ y) (w : World) : (Instr.sliceBound (.int k i) y code).run P w = .ok i.toNat w := by
  simp [Instr.sliceBound, asIntOf, h]

/-- A bound that is there, or is not. -/
def OptI : Option Int → Option Value → Prop
  | none, v => v = none
  | some n, v => ∃ k, v = some (.int k n)
theorem slicec_out {z : Z P} {o : Own} {sz : Nat} {xs : List D} {lo hi mx : Option Int} {K : Z P → D → Option ρ'} (h : slicec z o sz xs lo hi mx K = some r) :
    ∃ z' d, K z' d = some r ∧ (z'.c → z.c ∧ ∀ (M : MM) (w : World) (t e : TypeId) (u : Value) (lv hv mv : Option Value), P.underlying t = some (.slice e) → known P e = true → P.cellsOf e = sz → Rep M (.lst o sz xs) u →
      OptI lo lv → OptI hi hv → OptI mx mv →
      ∃ v, (Instr.sliceAt t u lv hv mv).run P w = .ok v w ∧ Rep M d v) := by
  have run : ∀ {w : World} {t e : TypeId} {a : Option Addr} {len cap : Nat} {lv hv mv : Option Value} {l hh m : Nat}, P.underlying t = some (.slice e) → known P e = true → P.cellsOf e = sz →
      (Instr.sliceBounds true len cap lv hv mv).run P w = .ok (l, hh, m) w → (Instr.sliceAt t (.slice a len cap) lv hv mv).run P w = .ok (.slice (if m = l then a else a.map (·.add (l * sz))) (hh - l) (m - l)) w := by
    intro w t e a len cap lv hv mv l hh m ht hk hs hb
    simp only [Instr.sliceAt, Sem.run_bind, run_underlying ht, Result.andThen_ok, Instr.slice, hb, run_sizeOf' hk, hs, Sem.run_pure]
  unfold slicec at h
  split at h
  · refine ⟨z, _, h, fun c => ⟨c, fun M w t e u lv hv mv ht hk hs hu e1 e2 e3 => ?_⟩⟩
    obtain rfl := e1
    obtain rfl := e2
    obtain rfl := e3
    cases hu with
    | lst b off vs hl hcap ha hsz hc hr hst ho =>
      rename_i a len cap
      have hb : (Instr.sliceBounds true len cap none none none).run P w = .ok (0, len, cap) w := by simp [Instr.sliceBounds]
      refine ⟨_, run ht hk hs hb, ?_⟩
      have hrep : Rep M (.lst o sz xs) (.slice a len cap) := .lst b off vs hl hcap ha hsz hc hr hst ho
      have hd : (o.demote = .no ∨ (o.demote = .tight ∧ cap = len)) := by
        cases o <;> first | exact .inl rfl | exact .inr ⟨rfl, ho⟩
      have := hrep.sub 0 len cap (by omega) (Nat.le_refl _) hcap (Nat.le_refl _) o.demote hd
      rw [List.take_of_length_le (by omega), List.drop_zero] at this
      exact this
  · rename_i l
    obtain ⟨z', h1, h2⟩ := ask_out h
    refine ⟨z', _, h1, fun c => ⟨(h2 c).1, fun M w t e u lv hv mv ht hk hs hu e1 e2 e3 => ?_⟩⟩
    obtain ⟨k1, rfl⟩ := e1
    obtain rfl := e2
    obtain rfl := e3
    have hbd : 0 ≤ l ∧ l ≤ xs.length := by simpa using (h2 c).2
    cases hu with
    | lst b off vs hl hcap ha hsz hc hr hst ho =>
      rename_i a len cap
      have hb : (Instr.sliceBounds true len cap (some (.int k1 l)) none none).run P w = .ok (l.toNat, len, cap) w := by
        simp [Instr.sliceBounds, run_sliceBound (show 0 ≤ l ∧ l ≤ (len : Int) by omega)]
      refine ⟨_, run ht hk hs hb, ?_⟩
      have hrep : Rep M (.lst o sz xs) (.slice a len cap) := .lst b off vs hl hcap ha hsz hc hr hst ho
      have hd : (o.demote = .no ∨ (o.demote = .tight ∧ cap = len)) := by
        cases o <;> first | exact .inl rfl | exact .inr ⟨rfl, ho⟩
      have := hrep.sub l.toNat len cap (by omega) (Nat.le_refl _) hcap (Nat.le_refl _) o.demote hd
      rw [List.take_of_length_le (by omega)] at this
      exact this
  · rename_i hh
    obtain ⟨z', h1, h2⟩ := ask_out h
    refine ⟨z', _, h1, fun c => ⟨(h2 c).1, fun M w t e u lv hv mv ht hk hs hu e1 e2 e3 => ?_⟩⟩
    obtain ⟨k1, rfl⟩ := e2
    obtain rfl := e1
    obtain rfl := e3
    have hbd : 0 ≤ hh ∧ hh ≤ xs.length := by simpa using (h2 c).2
    cases hu with
    | lst b off vs hl hcap ha hsz hc hr hst ho =>
      rename_i a len cap
      have hb : (Instr.sliceBounds true len cap none (some (.int k1 hh)) none).run P w = .ok (0, hh.toNat, cap) w := by
        simp [Instr.sliceBounds, run_sliceBound (show 0 ≤ hh ∧ hh ≤ (cap : Int) by omega)]
      refine ⟨_, run ht hk hs hb, ?_⟩
      have hrep : Rep M (.lst o sz xs) (.slice a len cap) := .lst b off vs hl hcap ha hsz hc hr hst ho
      have := hrep.sub 0 hh.toNat cap (by omega) (by omega) (by omega) (Nat.le_refl _) .no (.inl rfl)
      rw [List.drop_zero] at this
      exact this
  · rename_i l hh
    obtain ⟨z', h1, h2⟩ := ask_out h
    refine ⟨z', _, h1, fun c => ⟨(h2 c).1, fun M w t e u lv hv mv ht hk hs hu e1 e2 e3 => ?_⟩⟩
    obtain ⟨k1, rfl⟩ := e1
    obtain ⟨k2, rfl⟩ := e2
    obtain rfl := e3
    have hbd : 0 ≤ l ∧ l ≤ hh ∧ hh ≤ xs.length := by simpa using (h2 c).2
    cases hu with
    | lst b off vs hl hcap ha hsz hc hr hst ho =>
      rename_i a len cap
      have hb : (Instr.sliceBounds true len cap (some (.int k1 l)) (some (.int k2 hh)) none).run P w = .ok (l.toNat, hh.toNat, cap) w := by
        simp [Instr.sliceBounds, run_sliceBound (show 0 ≤ hh ∧ hh ≤ (cap : Int) by omega), run_sliceBound (show 0 ≤ l ∧ l ≤ (hh.toNat : Int) by omega)]
      refine ⟨_, run ht hk hs hb, ?_⟩
      have hrep : Rep M (.lst o sz xs) (.slice a len cap) := .lst b off vs hl hcap ha hsz hc hr hst ho
      exact hrep.sub l.toNat hh.toNat cap (by omega) (by omega) (by omega) (Nat.le_refl _) .no (.inl rfl)
  · rename_i hh m
    obtain ⟨z', h1, h2⟩ := ask_out h
    refine ⟨z', _, h1, fun c => ⟨(h2 c).1, fun M w t e u lv hv mv ht hk hs hu e1 e2 e3 => ?_⟩⟩
    obtain ⟨k1, rfl⟩ := e2
    obtain ⟨k2, rfl⟩ := e3
    obtain rfl := e1
    have hbd : 0 ≤ hh ∧ hh ≤ xs.length ∧ m = hh := by simpa using (h2 c).2
    obtain ⟨hb1, hb2, rfl⟩ := hbd
    cases hu with
    | lst b off vs hl hcap ha hsz hc hr hst ho =>
      rename_i a len cap
      have hb : (Instr.sliceBounds true len cap none (some (.int k1 m)) (some (.int k2 m))).run P w = .ok (0, m.toNat, m.toNat) w := by
        simp [Instr.sliceBounds, run_sliceBound (show 0 ≤ m ∧ m ≤ (cap : Int) by omega), run_sliceBound (show 0 ≤ m ∧ m ≤ (m.toNat : Int) by omega)]
      refine ⟨_, run ht hk hs hb, ?_⟩
      have hrep : Rep M (.lst o sz xs) (.slice a len cap) := .lst b off vs hl hcap ha hsz hc hr hst ho
      have := hrep.sub 0 m.toNat m.toNat (by omega) (by omega) (by omega) (by omega) .tight (.inr ⟨rfl, rfl⟩)
      rw [List.drop_zero] at this
      exact this
  · rename_i l hh m
    obtain ⟨z', h1, h2⟩ := ask_out h
    refine ⟨z', _, h1, fun c => ⟨(h2 c).1, fun M w t e u lv hv mv ht hk hs hu e1 e2 e3 => ?_⟩⟩
    obtain ⟨k1, rfl⟩ := e1
    obtain ⟨k2, rfl⟩ := e2
    obtain ⟨k3, rfl⟩ := e3
    have hbd : 0 ≤ l ∧ l ≤ hh ∧ hh ≤ xs.length ∧ m = hh := by simpa using (h2 c).2
    obtain ⟨hb1, hb2, hb3, rfl⟩ := hbd
    cases hu with
    | lst b off vs hl hcap ha hsz hc hr hst ho =>
      rename_i a len cap
      have hb : (Instr.sliceBounds true len cap (some (.int k1 l)) (some (.int k2 m)) (some (.int k3 m))).run P w = .ok (l.toNat, m.toNat, m.toNat) w := by
        simp [Instr.sliceBounds, run_sliceBound (show 0 ≤ m ∧ m ≤ (cap : Int) by omega), run_sliceBound (show 0 ≤ m ∧ m ≤ (m.toNat : Int) by omega), run_sliceBound (show 0 ≤ l ∧ l ≤ (m.toNat : Int) by omega)]
      refine ⟨_, run ht hk hs hb, ?_⟩
      have hrep : Rep M (.lst o sz xs) (.slice a len cap) := .lst b off vs hl hcap ha hsz hc hr hst ho
      exact hrep.sub l.toNat m.toNat m.toNat (by omega) (by omega) (by omega) (by omega) .tight (.inr ⟨rfl, rfl⟩)
  · cases h

theorem idx_out {x : D} {K : Int → Option ρ'} (h : idx x K = some r) : ∃ k n, x = .int k n ∧ K n = some r := by
  unfold idx at h
  split at h
  · exact ⟨_, _, rfl, h⟩
  · cases h
theorem optIdx_out {t : List D} {o : Option Operand} {K : Option Int → Option ρ'} (h : optIdx t o K = some r) : ∃ n, K n = some r ∧ ∀ (M : MM) (a : Act), (∀ x, o = some x → Rep M (opnd t x) (a.eval x)) → OptI n (o.map a.eval) := by
  unfold optIdx at h
  split at h
  · exact ⟨none, h, fun M a _ => rfl⟩
  · obtain ⟨k, n, hx, hK⟩ := idx_out h
    refine ⟨some n, hK, fun M a hr => ⟨k, ?_⟩⟩
    have := int_of_rep (hr _ rfl) hx
    simp [this]

/-! ### Conversions, lengths, the least and the greatest -/
theorem exec_builtin {o : Oper} {ρv : Operand → Value} {c : Call} {b : Builtin} (ho : o.op = .call c) (hc : c.callee = .builtin b) (w : World) :
    (execOp ρv o).run P w = (builtin b c.argTypes o.type (c.args.map fun | .const _ => true | _ => false) (c.args.map ρv)).run P w := by
  simp only [execOp, ho, resolve, hc, Sem.run_bind, Sem.run_pure, Result.andThen_ok, invoke]
  rfl

theorem lenc_out {t : TypeId} {x : D} {K : D → Option ρ'} (h : lenc P t x K = some r) : ∃ d, K d = some r ∧ ∀ (M : MM) (w : World) (u : Value) (ts : Array TypeId) (ty : TypeId) (vs : Array Value), Rep M x u → ts[0]? = some t → vs[0]? = some u → ∃ v, (Builtin.len_ ts ty vs).run P w = .ok v w ∧ Rep M d v := by
  unfold lenc at h
  split at h
  · rename_i ht
    refine ⟨_, h, fun M w u ts ty vs hu h1 h2 => ?_⟩
    cases hu
    exact ⟨.int .i64 _, by simp [Builtin.len_, h1, h2, run_underlying ht, goInt], .int _ _⟩
  · rename_i ht
    refine ⟨_, h, fun M w u ts ty vs hu h1 h2 => ?_⟩
    exact ⟨.int .i64 _, by simp [Builtin.len_, h1, h2, run_underlying ht, goInt], .int _ _⟩
  · rename_i ht
    refine ⟨_, h, fun M w u ts ty vs hu h1 h2 => ?_⟩
    cases hu with
    | lst b off vs' hl hcap ha hsz hc hr hst ho => exact ⟨.int .i64 _, by simp [Builtin.len_, h1, h2, run_underlying ht, goInt]; omega, .int _ _⟩
  · cases h
theorem minc_out {x y : D} {K : D → Option ρ'} (h : minc x y K = some r) : ∃ d, K d = some r ∧ ∀ (M : MM) (w : World) (u v : Value) (ts : Array TypeId) (ty : TypeId) (vs : Array Value), Rep M x u → Rep M y v → vs.toList = [u, v] → ∃ q, (Builtin.min_ ts ty vs).run P w = .ok q w ∧ Rep M d q := by
  unfold minc at h
  split at h
  · refine ⟨_, h, fun M w u v ts ty vs hu hv h1 => ?_⟩
    cases hu; cases hv
    exact ⟨_, by simp only [Builtin.min_, h1, List.foldlM_cons, List.foldlM_nil, Builtin.min2, pure_bind]; rfl, .int _ _⟩
  · cases h
theorem maxc_out {x y : D} {K : D → Option ρ'} (h : maxc x y K = some r) : ∃ d, K d = some r ∧ ∀ (M : MM) (w : World) (u v : Value) (ts : Array TypeId) (ty : TypeId) (vs : Array Value), Rep M x u → Rep M y v → vs.toList = [u, v] → ∃ q, (Builtin.max_ ts ty vs).run P w = .ok q w ∧ Rep M d q := by
  unfold maxc at h
  split at h
  · refine ⟨_, h, fun M w u v ts ty vs hu hv h1 => ?_⟩
    cases hu; cases hv
    exact ⟨_, by simp only [Builtin.max_, h1, List.foldlM_cons, List.foldlM_nil, Builtin.max2, pure_bind]; rfl, .int _ _⟩
  · cases h
end

/-! ### New rows of cells -/
/-- An array that holds a list's elements, one behind the other. -/
structure RowOf (M : MM) (sz : Nat) (xs : List D) (arr : Array Value) : Prop where
  len : xs.length * sz ≤ arr.size
  elem : ∀ (i : Nat) (x : D), xs[i]? = some x → ∃ cs, x.cells = some cs ∧ cs.length = sz
  get : ∀ (i : Nat) (x : D) (cs : List D) (j : Nat) (c : D), xs[i]? = some x → x.cells = some cs → cs[j]? = some c → ∃ v, arr[i * sz + j]? = some v ∧ Rep M.bare c v
  st : ∀ (i : Nat) (x : D) (cs : List D) (c : D), xs[i]? = some x → x.cells = some cs → c ∈ cs → storable c = true

theorem RowOf.mono {M M' : MM} {sz : Nat} {xs : List D} {arr : Array Value} (h : RowOf M sz xs arr) (le : M.Le M') : RowOf M' sz xs arr :=
  ⟨h.len, h.elem, fun i x cs j c h1 h2 h3 => let ⟨v, a, b⟩ := h.get i x cs j c h1 h2 h3; ⟨v, a, b.mono le.bare⟩, h.st⟩

/-- The view that knows the first cells of a new row. -/
def MM.lay (M : MM) (b : Nat) (arr : Array Value) (n : Nat) : MM := M.withCells b fun o => if o < n then arr[o]? else none

theorem ext_lay {M : MM} {w wd : World} {arr : Array Value} {ty : TypeId} {n : Nat} (hw : ∀ b o v, M.cell b o = some v → w.cell? ⟨b, o, none⟩ = some v) (hd : wd.heap = w.heap) (hb : Below w.heap.size w wd) (fz : Nat × Nat) :
    Ext M w (M.lay w.heap.size arr n) (wd.alloc (.cells arr ty fz)) := by
  have hsz : wd.heap.size = w.heap.size := by rw [hd]
  refine ⟨hb.alloc (by omega) _, ?_, ?_, ?_⟩
  · intro b o v h
    have : b ≠ w.heap.size := fun e => by rw [e, cell_none_of_size hw (Nat.le_refl _) o] at h; cases h
    simp only [MM.lay, MM.withCells, this, if_false]; exact h
  · intro b o v h hlt
    simp only [MM.lay, MM.withCells, show b ≠ w.heap.size by omega, if_false] at h; exact h
  · intro b o v h
    by_cases e : b = w.heap.size
    · subst e
      simp only [MM.lay, MM.withCells, if_true] at h
      split at h
      · have hh : (wd.alloc (.cells arr ty fz)).heap[w.heap.size]? = some (.cells arr ty fz) := by
          show (wd.heap.push _)[w.heap.size]? = _
          rw [← hsz]; simp
        simp only [World.cell?, hh]
        exact h
      · cases h
    · simp only [MM.lay, MM.withCells, e, if_false] at h
      have h1 := hw b o v h
      have hlt : b < w.heap.size := World.block_lt_of_cell? w _ h1
      rw [World.cell?_alloc_lt _ _ _ (by simpa [hsz] using hlt)]
      simpa [World.cell?, hd] using h1

/-- The slice over a new row. -/
theorem rep_lay {M : MM} {b : Nat} {arr : Array Value} {sz : Nat} {xs : List D} {o : Own} {cap n : Nat} (h : RowOf M sz xs arr) (hM : ∀ o, M.cell b o = none) (hcap : xs.length ≤ cap) (hn : xs.length * sz ≤ n) (ho : (M.lay b arr n).owns o (some ⟨b, 0, none⟩) xs.length cap) :
    Rep (M.lay b arr n) (.lst o sz xs) (.slice (some ⟨b, 0, none⟩) xs.length cap) := by
  have le : M.Le (M.lay b arr n) := by
    refine ⟨fun c o v k => ?_, fun _ _ k => k, fun _ _ _ k => k⟩
    have : c ≠ b := fun e => by rw [e, hM o] at k; cases k
    simp only [MM.lay, MM.withCells, this, if_false]; exact k
  have hlt : ∀ {i j : Nat} {x : D} {cs : List D} {c : D}, xs[i]? = some x → x.cells = some cs → cs[j]? = some c → i * sz + j < xs.length * sz := by
    intro i j x cs c h1 h2 h3
    obtain ⟨cs', e1, e2⟩ := h.elem i x h1
    rw [h2] at e1
    obtain rfl := Option.some.inj e1
    have hj : j < sz := by
      rcases Nat.lt_or_ge j cs.length with q | q
      · omega
      · simp [List.getElem?_eq_none q] at h3
    have hi : i < xs.length := by
      rcases Nat.lt_or_ge i xs.length with q | q
      · exact q
      · simp [List.getElem?_eq_none q] at h1
    have : (i + 1) * sz ≤ xs.length * sz := Nat.mul_le_mul_right _ hi
    rw [Nat.add_mul] at this
    omega
  refine .lst b 0 (fun i j => (arr[i * sz + j]?).getD .nilFunc) rfl hcap (fun _ => rfl) h.elem ?_ ?_ h.st ho
  · intro i x cs j c h1 h2 h3
    obtain ⟨v, hv, _⟩ := h.get i x cs j c h1 h2 h3
    have := hlt h1 h2 h3
    simp only [MM.lay, MM.withCells, if_true, Nat.zero_add, hv, Option.getD_some]
    rw [if_pos (by omega)]
  · intro i x cs j c h1 h2 h3
    obtain ⟨v, hv, hr⟩ := h.get i x cs j c h1 h2 h3
    simp only [hv, Option.getD_some]
    exact hr.mono le.bare

theorem plainc_out {ρ' : Type} {r : ρ'} {x : D} {k : D → Option ρ'} (h : plainc x k = some r) : ∃ y, k y = some r ∧ (∀ (M : MM) (v : Value), Rep M x v → Rep M.bare y v) ∧ y.plain = true := by
  unfold plainc at h
  split at h
  · rename_i hp
    exact ⟨x, h, fun M v hr => hr.ofPlain hp, hp⟩
  · obtain ⟨hc, hk⟩ := chk_out h
    exact ⟨_, hk, fun M v hr => hr.toBare hc, demote_plain hc⟩

theorem plainsc_out {ρ' : Type} {r : ρ'} : ∀ {l : List D} {k : List D → Option ρ'}, plainsc l k = some r → ∃ l', k l' = some r ∧ ∀ (M : MM) (vs : Array Value), RepL M l vs → RepL M.bare l' vs
  | [], k, h => ⟨[], h, fun M vs hr => ⟨hr.1, fun i d v a => by simp at a⟩⟩
  | x :: l, k, h => by
    unfold plainsc at h
    obtain ⟨y, hy, hr, _⟩ := plainc_out h
    obtain ⟨l', hk, hl⟩ := plainsc_out hy
    refine ⟨y :: l', hk, fun M vs hv => ?_⟩
    have hs : vs.size = l.length + 1 := by have := hv.1; simp at this; omega
    have htail : RepL M l (vs.extract 1 vs.size) := by
      refine ⟨by simp; omega, fun i d v a b => ?_⟩
      rw [Array.getElem?_extract] at b
      split at b
      · exact hv.2 (i + 1) d v (by simpa using a) (by rw [Nat.add_comm]; exact b)
      · cases b
    have h2 := hl M _ htail
    refine ⟨by have := h2.1; simp at this ⊢; omega, fun i d v a b => ?_⟩
    cases i with
    | zero => simp at a; subst a; exact hr M v (hv.2 0 x v rfl b)
    | succ i =>
      refine h2.2 i d v (by simpa using a) ?_
      rw [Array.getElem?_extract]
      have : i + 1 < vs.size := by
        rcases Nat.lt_or_ge (i + 1) vs.size with q | q
        · exact q
        · simp [Array.getElem?_eq_none q] at b
      rw [if_pos (by omega), Nat.add_comm]
      exact b

end Go.Ev
