/- Contracts and plain laws that a statement's proof leans on (texts merged: EvR). -/
import Derived.ProofKit
import Derived.Carry
import Derived.SizedLaws
import Derived.Test.YtglcgdnaanhddaaGreatN04
set_option linter.unusedVariables false
set_option linter.unusedSimpArgs false
namespace Go.Ev
open Go Go.RowKit Go.ChangeShapes Go.WideShapes
theorem trodAll_below {H : Type} {enc : TypeId × Value → H} {P : Program} (hl : laidOutB P = true) {W W' : World} (hb : Below W.heap.size W W') : ∀ {ts : List TypeId} {vs : List Value} {ds : List (DataW H)} {ps : List MemPlace},
  (∀ t ∈ ts, P.readableRec t = true ∧ t < P.types.size) → DataW.TrodAll enc P W 0 (fun _ => true) true ts vs ds ps → (∀ x ∈ ps, x.block < W.heap.size) → DataW.TrodAll enc P W' 0 (fun b => decide (b < W.heap.size)) true ts vs ds ps
 | [], vs, ds, ps, _, h, _ => by
  obtain ⟨rfl, rfl, rfl⟩ := trodAll_nil h
  rfl
 | t :: ts, vs, ds, ps, hr, h, hp => by
  obtain ⟨v, vs', d, ds', p, q, rfl, rfl, rfl, h1, h2⟩ := trodAll_cons h
  have hrt := hr t (by simp)
  exact ⟨p, q, Below.trod hl hrt.1 hrt.2 h1 hb (fun x hx => hp x (by simp [hx])), trodAll_below hl hb (fun t ht => hr t (by simp [ht])) h2 (fun x hx => hp x (by simp [hx])), rfl⟩
theorem trodAll_lengths {H : Type} {enc : TypeId × Value → H} {P : Program} {W : World} {b : Nat} {sp : Nat → Bool} {hd : Bool} : ∀ {ts : List TypeId} {vs : List Value} {ds : List (DataW H)} {ps : List MemPlace}, DataW.TrodAll enc P W b sp hd ts vs ds ps → vs.length = ts.length ∧ ds.length = ts.length
 | [], vs, ds, ps, h => by
  obtain ⟨rfl, rfl, rfl⟩ := trodAll_nil h
  exact ⟨rfl, rfl⟩
 | t :: ts, vs, ds, ps, h => by
  obtain ⟨v, vs', d, ds', p, q, rfl, rfl, rfl, h1, h2⟩ := trodAll_cons h
  obtain ⟨k1, k2⟩ := trodAll_lengths h2
  exact ⟨by simp [k1], by simp [k2]⟩
theorem law_lifted {a : Assume} {H : Type} {enc : TypeId × Value → H} {C : Checked} {os : Os} {f : FuncId} {fn : Func} {s : ChangeSpec} {conds : List PathCond} {fresh handsOn : Bool} {tb : TypeId}
  (own : ownKnob C.prog.godebug = none) (started : os.Started) (noInit : C.prog.inits.idxOf? f = none) (hfn : C.prog.funcs[f]? = some fn) (hl : laidOutB C.prog = true) (hvars : s.vars = [])
  (hparams : ∀ t ∈ fn.params.toList, C.prog.readableRec t = true ∧ t < C.prog.types.size) (hres : fn.resultTypes = #[tb]) (htb : C.prog.underlying tb = some .bool)
  (hspec : ∀ ds : List (DataW H), ds.length = fn.params.toList.length → (s.fn H ds).results = [.lit (.bool true)] ∧ (s.fn H ds).args = ds ∧ (s.fn H ds).vars = [])
  (witness : ∃ (w : World) (tape : Tape) (i : Input), w.os = os ∧ (w.forCall tape i).Shaped C.prog ∧ i.vars = [] ∧ Input.okWide C.prog (w.forCall tape i) .any w.heap.size f i ∧
   s.pre6 enc C.prog fn conds false (w.forCall tape i).memory i.args ∧ a.holds C.prog (lone (Frame.enter C.prog f i.args .normal) [] (w.forCall tape i)))
  (law : ∀ (W : World) (base : Nat) (args : Array Value) (ds : List (DataW H)) (ps : List MemPlace), (∀ (j : Nat) t v, fn.params[j]? = some t → args[j]? = some v → Value.okWide C.prog W .any base t v) →
   args.toList.length = fn.params.toList.length → DataW.TrodAll enc C.prog W 0 (fun _ => true) true fn.params.toList args.toList ds ps → (DataW.weightsEach C.prog fn.params.toList ds).all (· ≤ reachBytes) = true →
   Calls C.prog f args W fun e W' => e = .returned (.bool true) ∧ Below W.heap.size W W') :
  ReturnsInHanded a C os f .any (s.pre6 enc C.prog fn conds false) (s.post enc C.prog fn false fresh handsOn false) := by
 refine returnsInHanded_of_change_sized own started noInit hfn witness ?_
 intro W base args ds gs before hval hW _ hz _
 have hW' := hW
 obtain ⟨p, q, hA, hV, rfl, hfz, hnd⟩ := hW
 rw [hvars] at hV
 obtain ⟨rfl, rfl⟩ := trodVars_none hV
 obtain ⟨l1, l2⟩ := trodAll_lengths hA
 have hz' : (DataW.weightsEach C.prog fn.params.toList ds).all (· ≤ reachBytes) = true := by
  have e : s.plain.varTypes C.prog = [] := by simp [ChangeSpec.plain, DataSpec.varTypes, hvars]
  rw [e, List.append_nil, List.append_nil] at hz
  exact hz
 refine (law W base args ds p hval l1 hA hz').mono fun e W' ⟨he, hb⟩ => ?_
 subst he
 refine ⟨_, rfl, ds, [], p ++ [], [], p, [], hW', ?_⟩
 rw [List.append_nil]
 obtain ⟨s1, s2, s3⟩ := hspec ds l2
 rw [s1, s2, s3, hres, hvars]
 refine ⟨?_, trodAll_below hl hb hparams hA (fun x hx => by simpa using hW'.lt x (by simpa using hx)), rfl, Below.frame hb _, fun h => nomatch h⟩
 exact trodAll_mk1 (shut_bool htb true)
def okL : List LK → List D → Prop
  | [], ds => ds = []
  | .bool :: ks, ds => ∃ (b : Bool) (r : List D), ds = .bool b :: r ∧ okL ks r
  | .int k :: ks, ds => ∃ (n : Int) (r : List D), ds = .int k n :: r ∧ k.has n ∧ okL ks r
  | .str :: ks, ds => ∃ (b : ByteArray) (r : List D), ds = .str b :: r ∧ (b.size : Int) ≤ IntKind.i64.max ∧ okL ks r
def kindOf (P : Program) (t : TypeId) : Option LK := match P.underlying t with
  | some .bool => some .bool
  | some (.int k) => some (.int k)
  | some .string => some .str
  | _ => none
def kindsOf (P : Program) : List TypeId → Option (List LK)
  | [] => some []
  | t :: r => match kindOf P t, kindsOf P r with
    | some k, some l => some (k :: l)
    | _, _ => none
theorem cell_open {P : Program} {w : World} {r : Reach} {b : Nat} {t : TypeId} {v : Value} {k : LK} (hk : kindOf P t = some k) (h : Cell.okWide P w r b t v) : ∃ d : D, scalD v = some d ∧ ∀ ks ds, okL ks ds → okL (k :: ks) (d :: ds) := by
 unfold kindOf at hk
 unfold Cell.okWide Cell.ok at h
 split at hk
 ·rename_i hu
  obtain rfl := Option.some.inj hk
  rw [hu] at h
  cases v <;> simp at h
  exact ⟨_, rfl, fun ks ds q => ⟨_, _, rfl, q⟩⟩
 ·rename_i k' hu
  obtain rfl := Option.some.inj hk
  rw [hu] at h
  cases v <;> simp at h
  obtain ⟨rfl, h⟩ := h
  exact ⟨_, rfl, fun ks ds q => ⟨_, _, rfl, h, q⟩⟩
 ·rename_i hu
  obtain rfl := Option.some.inj hk
  rw [hu] at h
  cases v <;> simp at h
  exact ⟨_, rfl, fun ks ds q => ⟨_, _, rfl, h, q⟩⟩
 ·cases hk
theorem one_open {P : Program} {w : World} {r : Reach} {b : Nat} {t : TypeId} {v : Value} {k : LK} {M : MM} (hk : kindOf P t = some k) (h : Value.okWide P w r b t v) : ∃ d : D, okL [k] [d] ∧ Rep M d v := by
 have hc : Cell.okWide P w r b t v := by
  unfold Value.okWide at h
  unfold kindOf at hk
  split at hk
  ·rename_i hu; rw [hu] at h; exact h
  ·rename_i hu; rw [hu] at h; exact h
  ·rename_i hu; rw [hu] at h; exact h
  ·cases hk
 obtain ⟨d, h1, h2⟩ := cell_open hk hc
 exact ⟨d, h2 [] [] rfl, repScal h1⟩
def allOf (w : World) : Nat → Nat → Option Value := fun b o => w.cell? ⟨b, o, none⟩
theorem Ret.law {P : Program} {f : FuncId} {args : List D} (h : Ret P f args (.bool true)) {W : World} {vs : Array Value} (hr : RepL (bareOf (allOf W)) args vs) : Calls P f vs W fun e W' => e = .returned (.bool true) ∧ Below W.heap.size W W' := by
 refine Calls.mono (h.run W (allOf W) vs (fun b o v k => k) hr) ?_
 rintro e W' ⟨v, C', rfl, hext, hrep, _⟩
 cases hrep
 exact ⟨rfl, hext.below⟩
end Go.Ev
