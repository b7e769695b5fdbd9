/- Contracts and plain laws that a statement's proof leans on (texts merged: XD3, XD4, XD4A, EvR). -/
import Derived.ProofKit
import Derived.Carry
import Derived.SizedLaws
import Derived.Test.YtcngafhpodeenaaR04
import Derived.Test.YtcngafhpodeenaaR10
set_option linter.unusedVariables false
set_option linter.unusedSimpArgs false
namespace Go.Proofs.Ytcngafhpodeenaa
open Go Go.Ev
set_option maxRecDepth 100000
abbrev gT (n : Int) : List D := [.yld 5, .ptr false 4 0, .undef, .ptr false 7 0, .undef, .undef, .undef, .undef, .undef, .undef, .undef, .undef, .undef, .undef, .undef, .agg formsL, .int .i64 n, .undef, .undef, .undef, .undef, .undef, .undef, .undef, .undef, .undef, .undef, .undef, .undef, .undef, .undef, .undef, .undef]
abbrev gU : List D := [.undef, .undef, .undef, .undef, .undef, .undef, .undef, .undef, .undef, .undef, .undef, .undef, .undef, .undef, .undef, .undef, .undef, .undef, .undef, .undef, .undef, .undef, .undef, .undef, .undef, .undef, .undef, .undef, .undef, .undef, .undef, .undef, .undef]
abbrev gLP (ag bd : Code) (k : Lk) : Ob := .lp k [.undef, .ptr false 0 0, .ptr false 1 0, .ptr false 2 0, .ptr false 3 0, .undef, .undef, .undef, .undef, .undef, .undef, .undef, .undef, .undef, .undef, .undef, .undef, .undef, .undef, .undef, .undef, .undef, .undef, .undef, .undef, .undef, .undef, .undef, .undef, .undef, .undef, .undef, .undef, .undef, .undef, .undef, .undef, .undef, .undef] #[10] ag bd
abbrev gX0 : Ob := .box [.int .i8 0, .int .i8 0, .int .i8 0, .int .i8 0, .int .i8 0, .int .i64 0, .int .i64 0, .int .i8 0]
abbrev gS (ag bd : Code) (b : List Int) (s : RawS) : List Ob := [.box [.lst .no 1 (bD b)], gX0, .box [.int .i64 0], .box [.int .i64 0], .box [.lst .no 1 (bD b)], gLP ag bd .ready, .dead,
  .box [.int .i8 s.w, .bool s.long, .int .u8 s.code, .int .i8 s.r, .int .i8 s.m, .int .i64 s.disp, .int .i64 s.imm, .int .i64 s.small, .int .i64 s.near, .int .i64 s.jump, .int .i8 s.high], .dead]
abbrev gEx : Option XS → Ex
  | none => .exit 0
  | some _ => .ret
abbrev gOut (ag bd : Code) : Option XS → List Ob
  | none => [.dead, gX0, .box [.int .i64 0], .box [.int .i64 0], .dead, gLP ag bd .ready, .dead, .dead, .dead]
  | some x => [.dead, .box [.int .i8 x.op, .int .i8 x.w, .int .i8 x.dst, .int .i8 x.src, .int .i8 x.base, .int .i64 x.disp, .int .i64 x.imm, .int .i8 x.cc], .box [.int .i64 (bytesXS x).length], .box [.int .i64 0], .dead, gLP ag bd .ret, .dead, .dead, .dead]
theorem guess_rounds (b : List Int) (hb : isB b) (s : RawS) (v0 : 0 ≤ s.code) (v1 : s.code ≤ 255) (hh : s.high = 0 ∨ s.high = 8) : ∀ (m n : Nat), n + m = 32 →
  Rounds Try.prog (loopB Try.f95 0) 9 (gT n) (gS (rngA Try.f19 0) (rngB Try.f19 0) b s) (gEx (firstX b s (ops32.drop n))) gU (gOut (rngA Try.f19 0) (rngB Try.f19 0) (firstX b s (ops32.drop n)))
 | 0, n, hn => by
  obtain rfl : n = 32 := by omega
  exact Rounds.last (rd_end b s) (fun h => by cases h)
 | m + 1, n, hn => by
  have hlt : n < 32 := by omega
  rw [ops_drop hlt]
  have hop := asM_op s (n : Int)
  have hle : (asM s (n : Int)).op ≤ 127 := by rw [hop]; omega
  have hw : IntKind.i64.wrap ((n : Int) + 1) = ((n + 1 : Nat) : Int) := by rw [w_i64]; omega
  have ih := guess_rounds b hb s v0 v1 hh m (n + 1) (by omega)
  have hy : Ret Try.prog 56 [xsD (asM s (n : Int))] (.bool (mayXS (asM s (n : Int)))) := mayX_ok _ _ _ _ _ _ _ _ hle
  have go : ∀ {t2 : List D} {s2 : List Ob}, RoundRun Try.prog (loopB Try.f95 0) ⟨[0, 1, 3, 15, 16], [0, 1, 2, 3, 4, 5, 7], []⟩ 9 (gT n) (gS (rngA Try.f19 0) (rngB Try.f19 0) b s) .norm (gT (IntKind.i64.wrap ((n : Int) + 1))) (gS (rngA Try.f19 0) (rngB Try.f19 0) b s) → fitsX b (asM s (n : Int)) = false →
    Rounds Try.prog (loopB Try.f95 0) 9 (gT n) (gS (rngA Try.f19 0) (rngB Try.f19 0) b s) (gEx (firstX b s ((n : Int) :: ops32.drop (n + 1)))) gU (gOut (rngA Try.f19 0) (rngB Try.f19 0) (firstX b s ((n : Int) :: ops32.drop (n + 1)))) := by
   intro _ _ h hf
   have e : firstX b s ((n : Int) :: ops32.drop (n + 1)) = firstX b s (ops32.drop (n + 1)) := by simp only [firstX, hf, Bool.false_eq_true, if_false]
   rw [e]
   rw [hw] at h
   exact Rounds.more h ih
  cases hm : mayXS (asM s (n : Int)) with
  | false =>
   rw [hm] at hy
   exact go (t2 := []) (s2 := []) (rd_may b [] s n (by omega) (by omega) v0 v1 hh hy) (by simp [fitsX, hm])
  | true =>
   rw [hm] at hy
   have ho := bytesXS_isB hm
   have hbt : Ret Try.prog 21 [xsD (asM s (n : Int))] (.tup [.lst .no 1 (bD (bytesXS (asM s (n : Int)))), .int .i64 0]) := by
    have := bytes_any_ok (asM s (n : Int)).op (asM s (n : Int)).w (asM s (n : Int)).dst (asM s (n : Int)).src (asM s (n : Int)).base (asM s (n : Int)).disp (asM s (n : Int)).imm (asM s (n : Int)).cc hle
    have hm' : mayX (asM s (n : Int)).op (asM s (n : Int)).w (asM s (n : Int)).dst (asM s (n : Int)).src (asM s (n : Int)).base (asM s (n : Int)).disp (asM s (n : Int)).imm (asM s (n : Int)).cc = true := hm
    simp only [bytesL, bytesE, hm', if_true] at this
    exact this
   have hfit := fit_str ho hb
   by_cases hp : (bytesXS (asM s (n : Int))).isPrefixOf b = true
   ·obtain ⟨h1, h2⟩ := hfit.1 hp
    have e : firstX b s ((n : Int) :: ops32.drop (n + 1)) = some (asM s (n : Int)) := by simp only [firstX, fitsX, hm, hp, Bool.and_self, if_true]
    rw [e]
    have := rd_fit b (bytesXS (asM s (n : Int))) s n (by omega) (by omega) v0 v1 hh hy hbt h1 h2
    rw [len_bD] at this
    exact Rounds.last this (fun h => by cases h)
   ·have hf : fitsX b (asM s (n : Int)) = false := by simp [fitsX, hm, hp]
    by_cases hl : ((bD (bytesXS (asM s (n : Int)))).length : Int) ≤ ((bD b).length : Int)
    ·have hs : ((strD (bD (bytesXS (asM s (n : Int))))).toList == (strD (List.take (Int.toNat ((List.length (bD (bytesXS (asM s (n : Int)))) : Nat) : Int)) (bD b))).toList) = false := by
      cases e : ((strD (bD (bytesXS (asM s (n : Int))))).toList == (strD (List.take (Int.toNat ((List.length (bD (bytesXS (asM s (n : Int)))) : Nat) : Int)) (bD b))).toList) with
      | false => rfl
      | true => exact absurd (hfit.2 ⟨hl, e⟩) hp
     exact go (t2 := []) (s2 := []) (rd_not b _ s n (by omega) (by omega) v0 v1 hh hy hbt hl hs) hf
    ·exact go (t2 := []) (s2 := []) (rd_long b _ s n (by omega) (by omega) v0 v1 hh hy hbt (by omega)) hf
theorem guess_none (b : List Int) (hb : isB b) (s : RawS) (v0 : 0 ≤ s.code) (v1 : s.code ≤ 255) (hh : s.high = 0 ∨ s.high = 8) (hf : firstX b s ops32 = none) :
  LoopRun Try.prog 9 (.loop (loopB Try.f95 0)) (gT 0) (gS (rngA Try.f19 0) (rngB Try.f19 0) b s) (.exit 0) gU (gOut (rngA Try.f19 0) (rngB Try.f19 0) none) := by
 have h := guess_rounds b hb s v0 v1 hh 32 0 rfl
 rw [List.drop_zero, hf] at h
 exact LoopRun.of_rounds (Nat.le_refl _) h
theorem guess_some (b : List Int) (hb : isB b) (s : RawS) (v0 : 0 ≤ s.code) (v1 : s.code ≤ 255) (hh : s.high = 0 ∨ s.high = 8) (x : XS) (hf : firstX b s ops32 = some x) :
  LoopRun Try.prog 9 (.loop (loopB Try.f95 0)) (gT 0) (gS (rngA Try.f19 0) (rngB Try.f19 0) b s) .ret gU (gOut (rngA Try.f19 0) (rngB Try.f19 0) (some x)) := by
 have h := guess_rounds b hb s v0 v1 hh 32 0 rfl
 rw [List.drop_zero, hf] at h
 exact LoopRun.of_rounds (Nat.le_refl _) h
end Go.Proofs.Ytcngafhpodeenaa

namespace Go.Proofs.Ytcngafhpodeenaa
open Go Go.Ev
set_option maxRecDepth 100000
set_option maxHeartbeats 8000000
theorem readF_ok (b : List Int) (s : RawS) (hp : Ret Try.prog 96 [.lst .no 1 (bD b)] (.tup [rawD s, .bool false])) : Ret Try.prog 19 ([.lst .no 1 (bD b)]) (.tup [xD 0 0 0 0 0 0 0 0, .int .i64 0, .int .i64 30]) := by
 exact (Ret.of_eval (d := .tup [(xD 0 0 0 0 0 0 0 0), .int .i64 0, .int .i64 30]) mixed Try.func19 (by kernel_rfl) [.inl, .rng [1, 2, 3, 4], .ret _ _ _ hp, tT] (by kernel_rfl)).to (by simp [wk, wkL, xsD])
theorem readN_ok (b : List Int) (hb : isB b) (s : RawS) (v0 : 0 ≤ s.code) (v1 : s.code ≤ 255) (hh : s.high = 0 ∨ s.high = 8) (hp : Ret Try.prog 96 [.lst .no 1 (bD b)] (.tup [rawD s, .bool true])) (hf : firstX b s ops32 = none) : Ret Try.prog 19 ([.lst .no 1 (bD b)]) (.tup [xD 0 0 0 0 0 0 0 0, .int .i64 0, .int .i64 30]) := by
 have c0 := @guess_none (b) hb (s) v0 v1 hh hf
 exact (Ret.of_eval (d := .tup [(xD 0 0 0 0 0 0 0 0), .int .i64 0, .int .i64 30]) mixed Try.func19 (by kernel_rfl) [.inl, .rng [1, 2, 3, 4], .ret _ _ _ hp, tF, .inl, .head ⟨[0, 1, 3, 15, 16], [0, 1, 2, 3, 4, 5, 7], []⟩ _ _ _ _ _ _ _ c0] (by kernel_rfl)).to (by simp [wk, wkL, xsD])
theorem readS_ok (b : List Int) (hb : isB b) (s : RawS) (v0 : 0 ≤ s.code) (v1 : s.code ≤ 255) (hh : s.high = 0 ∨ s.high = 8) (hp : Ret Try.prog 96 [.lst .no 1 (bD b)] (.tup [rawD s, .bool true])) (x : XS) (hf : firstX b s ops32 = some x) : Ret Try.prog 19 ([.lst .no 1 (bD b)]) (.tup [xsD x, .int .i64 (bytesXS x).length, .int .i64 0]) := by
 have c0 := @guess_some (b) hb (s) v0 v1 hh _ hf
 exact (Ret.of_eval (d := .tup [(xD (XS.op x) (XS.w x) (XS.dst x) (XS.src x) (XS.base x) (XS.disp x) (XS.imm x) (XS.cc x)), .int .i64 (↑(List.length (bytesXS x)) : Int), .int .i64 0]) mixed Try.func19 (by kernel_rfl) [.inl, .rng [1, 2, 3, 4], .ret _ _ _ hp, tF, .inl, .head ⟨[0, 1, 3, 15, 16], [0, 1, 2, 3, 4, 5, 7], []⟩ _ _ _ _ _ _ _ c0] (by kernel_rfl)).to (by simp [wk, wkL, xsD])
end Go.Proofs.Ytcngafhpodeenaa

namespace Go.Proofs.Ytcngafhpodeenaa
open Go Go.Ev
set_option maxRecDepth 100000
theorem read_any (b : List Int) (hb : isB b) : Ret Try.prog 19 [.lst .no 1 (bD b)] (readD (readM b)) := by
 obtain ⟨s, hp, hs⟩ := parse_ok b hb
 cases e : parM b with
 | none =>
  rw [e] at hp
  rw [read_none e]
  obtain ⟨x, hx⟩ : ∃ x : RawS, x = ⟨s.w, s.long, 0, s.r, s.m, s.disp, s.imm, s.small, s.near, s.jump, s.high⟩ := ⟨_, rfl⟩
  exact readF_ok b s hp
 | some s' =>
  obtain rfl := hs s' e
  rw [e] at hp
  obtain ⟨v0, v1, hh⟩ := par_small hb e
  rw [← first_read e]
  cases hf : firstX b s ops32 with
  | none => exact readN_ok b hb s v0 v1 hh hp hf
  | some x => exact readS_ok b hb s v0 v1 hh hp x hf
end Go.Proofs.Ytcngafhpodeenaa

namespace Go.Ev
open Go Go.RowKit Go.ChangeShapes Go.WideShapes
theorem trodAll_below {H : Type} {enc : TypeId × Value → H} {P : Program} (hl : laidOutB P = true) {W W' : World} (hb : Below W.heap.size W W') : ∀ {ts : List TypeId} {vs : List Value} {ds : List (DataW H)} {ps : List MemPlace},
  (∀ t ∈ ts, P.readableRec t = true ∧ t < P.types.size) → DataW.TrodAll enc P W 0 (fun _ => true) true ts vs ds ps → (∀ x ∈ ps, x.block < W.heap.size) → DataW.TrodAll enc P W' 0 (fun b => decide (b < W.heap.size)) true ts vs ds ps
 | [], vs, ds, ps, _, h, _ => by
  obtain ⟨rfl, rfl, rfl⟩ := trodAll_nil h
  rfl
 | t :: ts, vs, ds, ps, hr, h, hp => by
  obtain ⟨v, vs', d, ds', p, q, rfl, rfl, rfl, h1, h2⟩ := trodAll_cons h
  have hrt := hr t (by simp)
  exact ⟨p, q, Below.trod hl hrt.1 hrt.2 h1 hb (fun x hx => hp x (by simp [hx])), trodAll_below hl hb (fun t ht => hr t (by simp [ht])) h2 (fun x hx => hp x (by simp [hx])), rfl⟩
theorem trodAll_lengths {H : Type} {enc : TypeId × Value → H} {P : Program} {W : World} {b : Nat} {sp : Nat → Bool} {hd : Bool} : ∀ {ts : List TypeId} {vs : List Value} {ds : List (DataW H)} {ps : List MemPlace}, DataW.TrodAll enc P W b sp hd ts vs ds ps → vs.length = ts.length ∧ ds.length = ts.length
 | [], vs, ds, ps, h => by
  obtain ⟨rfl, rfl, rfl⟩ := trodAll_nil h
  exact ⟨rfl, rfl⟩
 | t :: ts, vs, ds, ps, h => by
  obtain ⟨v, vs', d, ds', p, q, rfl, rfl, rfl, h1, h2⟩ := trodAll_cons h
  obtain ⟨k1, k2⟩ := trodAll_lengths h2
  exact ⟨by simp [k1], by simp [k2]⟩
theorem law_lifted {a : Assume} {H : Type} {enc : TypeId × Value → H} {C : Checked} {os : Os} {f : FuncId} {fn : Func} {s : ChangeSpec} {conds : List PathCond} {fresh handsOn : Bool} {tb : TypeId}
  (own : ownKnob C.prog.godebug = none) (started : os.Started) (noInit : C.prog.inits.idxOf? f = none) (hfn : C.prog.funcs[f]? = some fn) (hl : laidOutB C.prog = true) (hvars : s.vars = [])
  (hparams : ∀ t ∈ fn.params.toList, C.prog.readableRec t = true ∧ t < C.prog.types.size) (hres : fn.resultTypes = #[tb]) (htb : C.prog.underlying tb = some .bool)
  (hspec : ∀ ds : List (DataW H), ds.length = fn.params.toList.length → (s.fn H ds).results = [.lit (.bool true)] ∧ (s.fn H ds).args = ds ∧ (s.fn H ds).vars = [])
  (witness : ∃ (w : World) (tape : Tape) (i : Input), w.os = os ∧ (w.forCall tape i).Shaped C.prog ∧ i.vars = [] ∧ Input.okWide C.prog (w.forCall tape i) .any w.heap.size f i ∧
   s.pre6 enc C.prog fn conds false (w.forCall tape i).memory i.args ∧ a.holds C.prog (lone (Frame.enter C.prog f i.args .normal) [] (w.forCall tape i)))
  (law : ∀ (W : World) (base : Nat) (args : Array Value) (ds : List (DataW H)) (ps : List MemPlace), (∀ (j : Nat) t v, fn.params[j]? = some t → args[j]? = some v → Value.okWide C.prog W .any base t v) →
   args.toList.length = fn.params.toList.length → DataW.TrodAll enc C.prog W 0 (fun _ => true) true fn.params.toList args.toList ds ps → (DataW.weightsEach C.prog fn.params.toList ds).all (· ≤ reachBytes) = true →
   Calls C.prog f args W fun e W' => e = .returned (.bool true) ∧ Below W.heap.size W W') :
  ReturnsInHanded a C os f .any (s.pre6 enc C.prog fn conds false) (s.post enc C.prog fn false fresh handsOn false) := by
 refine returnsInHanded_of_change_sized own started noInit hfn witness ?_
 intro W base args ds gs before hval hW _ hz _
 have hW' := hW
 obtain ⟨p, q, hA, hV, rfl, hfz, hnd⟩ := hW
 rw [hvars] at hV
 obtain ⟨rfl, rfl⟩ := trodVars_none hV
 obtain ⟨l1, l2⟩ := trodAll_lengths hA
 have hz' : (DataW.weightsEach C.prog fn.params.toList ds).all (· ≤ reachBytes) = true := by
  have e : s.plain.varTypes C.prog = [] := by simp [ChangeSpec.plain, DataSpec.varTypes, hvars]
  rw [e, List.append_nil, List.append_nil] at hz
  exact hz
 refine (law W base args ds p hval l1 hA hz').mono fun e W' ⟨he, hb⟩ => ?_
 subst he
 refine ⟨_, rfl, ds, [], p ++ [], [], p, [], hW', ?_⟩
 rw [List.append_nil]
 obtain ⟨s1, s2, s3⟩ := hspec ds l2
 rw [s1, s2, s3, hres, hvars]
 refine ⟨?_, trodAll_below hl hb hparams hA (fun x hx => by simpa using hW'.lt x (by simpa using hx)), rfl, Below.frame hb _, fun h => nomatch h⟩
 exact trodAll_mk1 (shut_bool htb true)
def okL : List LK → List D → Prop
  | [], ds => ds = []
  | .bool :: ks, ds => ∃ (b : Bool) (r : List D), ds = .bool b :: r ∧ okL ks r
  | .int k :: ks, ds => ∃ (n : Int) (r : List D), ds = .int k n :: r ∧ k.has n ∧ okL ks r
  | .str :: ks, ds => ∃ (b : ByteArray) (r : List D), ds = .str b :: r ∧ (b.size : Int) ≤ IntKind.i64.max ∧ okL ks r
def kindOf (P : Program) (t : TypeId) : Option LK := match P.underlying t with
  | some .bool => some .bool
  | some (.int k) => some (.int k)
  | some .string => some .str
  | _ => none
def kindsOf (P : Program) : List TypeId → Option (List LK)
  | [] => some []
  | t :: r => match kindOf P t, kindsOf P r with
    | some k, some l => some (k :: l)
    | _, _ => none
def allOf (w : World) : Nat → Nat → Option Value := fun b o => w.cell? ⟨b, o, none⟩
theorem Ret.law {P : Program} {f : FuncId} {args : List D} (h : Ret P f args (.bool true)) {W : World} {vs : Array Value} (hr : RepL (bareOf (allOf W)) args vs) : Calls P f vs W fun e W' => e = .returned (.bool true) ∧ Below W.heap.size W W' := by
 refine Calls.mono (h.run W (allOf W) vs (fun b o v k => k) hr) ?_
 rintro e W' ⟨v, C', rfl, hext, hrep, _⟩
 cases hrep
 exact ⟨rfl, hext.below⟩
end Go.Ev
