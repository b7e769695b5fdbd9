/- Contracts and plain laws that a statement's proof leans on (texts merged: EvC). -/
import Derived.Calls
import Derived.Orders
import Derived.Below
import Derived.Laws.World
import Derived.Laws.Sem
import Derived.RangeFuncRecord
import Derived.Laws.StructEq
import Derived.OrdersIn
import Derived.ControlIn
set_option linter.unusedVariables false
set_option linter.unusedSimpArgs false
namespace Go.Ev
open Go Go.RowKit
inductive Own where
  | no
  | tight
  | tok (t ver : Nat)
  | fresh (sz : Nat)
inductive D where
  | undef
  | int (k : IntKind) (n : Int)
  | bool (b : Bool)
  | str (s : ByteArray)
  | nilp
  | ptr (dyn : Bool) (id off : Nat)
  | eptr (dyn : Bool) (x : D) (off : Nat)
  | mapp (id : Nat)
  | yld (id : Nat)
  | slc (id sz n : Nat)
  | sub (id off sz n : Nat) (cap : Option Nat)
  | lst (o : Own) (sz : Nat) (xs : List D)
  | nilf
  | fn (f : Fn) (first cap : List D)
  | agg (cs : List D)
  | tup (vs : List D)
def D.cells : D → Option (List D)
  | .agg cs => some cs
  | .undef => none
  | .tup _ => none
  | d => some [d]
def storable : D → Bool
  | .undef => false
  | .agg _ => false
  | .tup _ => false
  | _ => true
structure MM where
  cell : Nat → Nat → Option Value
  box : Nat → Option Nat
  hist : Nat → Nat → Option Value
  mrk : Nat → Prop
def MM.bare (M : MM) : MM := ⟨M.cell, fun _ => none, fun _ _ => none, fun _ => False⟩
def bareOf (C : Nat → Nat → Option Value) : MM := ⟨C, fun _ => none, fun _ _ => none, fun _ => False⟩
def MM.owns (M : MM) : Own → Option Addr → Nat → Nat → Prop
  | .no, _, _, _ => True
  | .fresh _, _, _, _ => True
  | .tight, _, len, cap => cap = len
  | .tok t v, a, len, cap => M.hist t v = some (.slice a len cap)
inductive Rep : MM → D → Value → Prop
  | undef {M : MM} (v : Value) : Rep M .undef v
  | int {M : MM} (k : IntKind) (n : Int) : Rep M (.int k n) (.int k n)
  | bool {M : MM} (b : Bool) : Rep M (.bool b) (.bool b)
  | str {M : MM} (s : ByteArray) : Rep M (.str s) (.string s)
  | nilp {M : MM} : Rep M .nilp (.pointer none)
  | ptr {M : MM} (dyn : Bool) {id off b : Nat} (h : M.box id = some b) : Rep M (.ptr dyn id off) (.pointer (some ⟨b, off, none⟩))
  | eptr {M : MM} (dyn : Bool) {x : D} {cs : List D} {off b base : Nat} (vs : Nat → Value) (hx : x.cells = some cs)
      (hc : ∀ (j : Nat) (c : D), cs[j]? = some c → M.cell b (base + j) = some (vs j)) (hr : ∀ (j : Nat) (c : D), cs[j]? = some c → Rep M.bare c (vs j)) :
      Rep M (.eptr dyn x off) (.pointer (some ⟨b, base + off, none⟩))
  | mapp {M : MM} {id b : Nat} (h : M.box id = some b) : Rep M (.mapp id) (.map (some b))
  | yld {M : MM} {id b : Nat} (h : M.box id = some b) : Rep M (.yld id) (.func (.yield b) #[] #[])
  | slc {M : MM} {id sz n b cap : Nat} (h : M.box id = some b) (hh : M.hist id sz = some (.slice (some ⟨b, 0, none⟩) n cap)) (hc : n ≤ cap) : Rep M (.slc id sz n) (.slice (some ⟨b, 0, none⟩) n cap)
  | sub {M : MM} {id off sz n b o2 c : Nat} {cp : Option Nat} (h : M.box id = some b) (hc : n ≤ c) (hp : ∀ k, cp = some k → c = k) (ho : n ≠ 0 → o2 = off) : Rep M (.sub id off sz n cp) (.slice (some ⟨b, o2, none⟩) n c)
  | lst {M : MM} {o : Own} {sz : Nat} {xs : List D} {a : Option Addr} {len cap : Nat} (b off : Nat) (vs : Nat → Nat → Value)
      (hl : xs.length = len) (hcap : len ≤ cap) (ha : xs ≠ [] → a = some ⟨b, off, none⟩)
      (hsz : ∀ (i : Nat) (x : D), xs[i]? = some x → ∃ cs : List D, x.cells = some cs ∧ cs.length = sz)
      (hc : ∀ (i : Nat) (x : D) (cs : List D) (j : Nat) (c : D), xs[i]? = some x → x.cells = some cs → cs[j]? = some c → M.cell b (off + i * sz + j) = some (vs i j))
      (hr : ∀ (i : Nat) (x : D) (cs : List D) (j : Nat) (c : D), xs[i]? = some x → x.cells = some cs → cs[j]? = some c → Rep M.bare c (vs i j))
      (hst : ∀ (i : Nat) (x : D) (cs : List D) (c : D), xs[i]? = some x → x.cells = some cs → c ∈ cs → storable c = true)
      (ho : M.owns o a len cap) : Rep M (.lst o sz xs) (.slice a len cap)
  | nilf {M : MM} : Rep M .nilf .nilFunc
  | fn {M : MM} {f : Fn} {first cap : List D} {fv cv : Array Value} (h1 : first.length = fv.size) (h2 : cap.length = cv.size)
      (r1 : ∀ (i : Nat) (d : D) (v : Value), first[i]? = some d → fv[i]? = some v → Rep M d v) (r2 : ∀ (i : Nat) (d : D) (v : Value), cap[i]? = some d → cv[i]? = some v → Rep M d v) :
      Rep M (.fn f first cap) (.func f fv cv)
  | agg {M : MM} {cs : List D} {vs : Array Value} (h : cs.length = vs.size) (r : ∀ (i : Nat) (d : D) (v : Value), cs[i]? = some d → vs[i]? = some v → Rep M d v) :
      Rep M (.agg cs) (.agg vs)
  | tup {M : MM} {cs : List D} {vs : Array Value} (h : cs.length = vs.size) (r : ∀ (i : Nat) (d : D) (v : Value), cs[i]? = some d → vs[i]? = some v → Rep M d v) :
      Rep M (.tup cs) (.tuple vs)
structure MM.Le (M M' : MM) : Prop where
  cell : ∀ b o v, M.cell b o = some v → M'.cell b o = some v
  box : ∀ id b, M.box id = some b → M'.box id = some b
  hist : ∀ t v x, M.hist t v = some x → M'.hist t v = some x
  mrk : ∀ b, M.mrk b → M'.mrk b
theorem MM.Le.refl (M : MM) : M.Le M := ⟨fun _ _ _ h => h, fun _ _ h => h, fun _ _ _ h => h, fun _ h => h⟩
theorem MM.Le.trans {A B C : MM} (h : A.Le B) (k : B.Le C) : A.Le C :=
 ⟨fun b o v x => k.cell b o v (h.cell b o v x), fun i b x => k.box i b (h.box i b x), fun t v x y => k.hist t v x (h.hist t v x y), fun b x => k.mrk b (h.mrk b x)⟩
theorem MM.Le.bare {A B : MM} (h : A.Le B) : A.bare.Le B.bare := ⟨h.cell, fun _ _ x => x, fun _ _ _ x => x, fun _ x => x⟩
theorem MM.owns_mono {M M' : MM} (h : M.Le M') : ∀ {o : Own} {a : Option Addr} {l c : Nat}, M.owns o a l c → M'.owns o a l c
 | .no, _, _, _, x => x
 | .fresh _, _, _, _, x => x
 | .tight, _, _, _, x => x
 | .tok _ _, _, _, _, x => h.hist _ _ _ x
theorem Rep.mono {M : MM} {d : D} {v : Value} (h : Rep M d v) : ∀ {M' : MM}, M.Le M' → Rep M' d v := by
 induction h with
 | undef v => exact fun _ => .undef v
 | int k n => exact fun _ => .int k n
 | bool b => exact fun _ => .bool b
 | str s => exact fun _ => .str s
 | nilp => exact fun _ => .nilp
 | ptr q h => exact fun le => .ptr q (le.box _ _ h)
 | eptr q vs hx hc hr ih => exact fun le => .eptr q vs hx (fun j c h => le.cell _ _ _ (hc j c h)) (fun j c h => ih j c h le.bare)
 | mapp h => exact fun le => .mapp (le.box _ _ h)
 | yld h => exact fun le => .yld (le.box _ _ h)
 | slc h hh hc => exact fun le => .slc (le.box _ _ h) (le.hist _ _ _ hh) hc
 | sub h hc hp ho => exact fun le => .sub (le.box _ _ h) hc hp ho
 | lst b off vs hl hcap ha hsz hc hr hst ho ih =>
  exact fun le => .lst b off vs hl hcap ha hsz (fun i x cs j c h1 h2 h3 => le.cell _ _ _ (hc i x cs j c h1 h2 h3)) (fun i x cs j c h1 h2 h3 => ih i x cs j c h1 h2 h3 le.bare) hst (MM.owns_mono le ho)
 | nilf => exact fun _ => .nilf
 | fn h1 h2 r1 r2 i1 i2 => exact fun le => .fn h1 h2 (fun i d v a b => i1 i d v a b le) (fun i d v a b => i2 i d v a b le)
 | agg h r ih => exact fun le => .agg h (fun i d v a b => ih i d v a b le)
 | tup h r ih => exact fun le => .tup h (fun i d v a b => ih i d v a b le)
def Own.demote : Own → Own
  | .tight => .tight
  | _ => .no
mutual
def D.demote : D → D
  | .lst o sz xs => .lst o.demote sz xs
  | .agg cs => .agg (D.demoteL cs)
  | .tup cs => .tup (D.demoteL cs)
  | .fn f a b => .fn f (D.demoteL a) (D.demoteL b)
  | d => d
def D.demoteL : List D → List D
  | [] => []
  | d :: r => d.demote :: D.demoteL r
end
mutual
def D.clean : D → Bool
  | .undef => false
  | .ptr _ _ _ => false
  | .eptr _ _ _ => false
  | .mapp _ => false
  | .yld _ => false
  | .slc _ _ _ => false
  | .sub _ _ _ _ _ => false
  | .agg cs => D.cleanL cs
  | .tup cs => D.cleanL cs
  | .fn _ a b => D.cleanL a && D.cleanL b
  | _ => true
def D.cleanL : List D → Bool
  | [] => true
  | d :: r => d.clean && D.cleanL r
end
theorem D.demoteL_eq (l : List D) : D.demoteL l = l.map D.demote := by
 induction l with
 | nil => simp [D.demoteL]
 | cons d r ih => simp [D.demoteL, ih]
theorem D.cleanL_eq (l : List D) : D.cleanL l = l.all D.clean := by
 induction l with
 | nil => simp [D.cleanL]
 | cons d r ih => simp [D.cleanL, ih]
theorem Rep.toBare {M : MM} {d : D} {v : Value} (h : Rep M d v) : d.clean = true → Rep M.bare d.demote v := by
 induction h with
 | undef v => intro c; simp [D.clean] at c
 | int k n => intro _; exact .int k n
 | bool b => intro _; exact .bool b
 | str s => intro _; exact .str s
 | nilp => intro _; exact .nilp
 | ptr q h => intro c; simp [D.clean] at c
 | eptr q vs hx hc hr ih => intro c; simp [D.clean] at c
 | mapp h => intro c; simp [D.clean] at c
 | yld h => intro c; simp [D.clean] at c
 | slc h hh hc => intro c; simp [D.clean] at c
 | sub h hc hp ho => intro c; simp [D.clean] at c
 | lst b off vs hl hcap ha hsz hc hr hst ho ih =>
  rename_i o _ _ _ _ _
  intro _
  rw [D.demote]
  refine .lst b off vs hl hcap ha hsz hc hr hst ?_
  cases o <;> first | trivial | exact ho
 | nilf => intro _; exact .nilf
 | fn h1 h2 r1 r2 i1 i2 =>
  intro c
  rw [D.clean, D.cleanL_eq, D.cleanL_eq, Bool.and_eq_true, List.all_eq_true, List.all_eq_true] at c
  rw [D.demote, D.demoteL_eq, D.demoteL_eq]
  refine .fn (by simpa using h1) (by simpa using h2) ?_ ?_
  ·intro i d v a b
   rw [List.getElem?_map, Option.map_eq_some_iff] at a
   obtain ⟨d0, h0, rfl⟩ := a
   exact i1 i d0 v h0 b (c.1 _ (List.mem_of_getElem? h0))
  ·intro i d v a b
   rw [List.getElem?_map, Option.map_eq_some_iff] at a
   obtain ⟨d0, h0, rfl⟩ := a
   exact i2 i d0 v h0 b (c.2 _ (List.mem_of_getElem? h0))
 | agg h r ih =>
  intro c
  rw [D.clean, D.cleanL_eq, List.all_eq_true] at c
  rw [D.demote, D.demoteL_eq]
  refine .agg (by simpa using h) ?_
  intro i d v a b
  rw [List.getElem?_map, Option.map_eq_some_iff] at a
  obtain ⟨d0, h0, rfl⟩ := a
  exact ih i d0 v h0 b (c _ (List.mem_of_getElem? h0))
 | tup h r ih =>
  intro c
  rw [D.clean, D.cleanL_eq, List.all_eq_true] at c
  rw [D.demote, D.demoteL_eq]
  refine .tup (by simpa using h) ?_
  intro i d v a b
  rw [List.getElem?_map, Option.map_eq_some_iff] at a
  obtain ⟨d0, h0, rfl⟩ := a
  exact ih i d0 v h0 b (c _ (List.mem_of_getElem? h0))
theorem Rep.noMk {M : MM} {d : D} {v : Value} (h : Rep M d v) : ∀ {f : Nat → Prop}, Rep { M with mrk := f } d v := by
 induction h with
 | undef v => exact fun {f} => .undef v
 | int k n => exact fun {f} => .int k n
 | bool b => exact fun {f} => .bool b
 | str s => exact fun {f} => .str s
 | nilp => exact fun {f} => .nilp
 | ptr q h => exact fun {f} => .ptr q h
 | eptr q vs hx hc hr ih => exact fun {f} => .eptr q vs hx hc hr
 | mapp h => exact fun {f} => .mapp h
 | yld h => exact fun {f} => .yld h
 | slc h hh hc => exact fun {f} => .slc h hh hc
 | sub h hc hp ho => exact fun {f} => .sub h hc hp ho
 | lst b off vs hl hcap ha hsz hc hr hst ho ih =>
  rename_i o _ _ _ _ _
  refine fun {f} => .lst b off vs hl hcap ha hsz hc hr hst ?_
  cases o <;> first | trivial | exact ho
 | nilf => exact fun {f} => .nilf
 | fn h1 h2 r1 r2 i1 i2 => exact fun {f} => .fn h1 h2 (fun i d v a b => i1 i d v a b) (fun i d v a b => i2 i d v a b)
 | agg h r ih => exact fun {f} => .agg h (fun i d v a b => ih i d v a b)
 | tup h r ih => exact fun {f} => .tup h (fun i d v a b => ih i d v a b)
theorem MM.bare_le (M : MM) : M.bare.Le M := ⟨fun _ _ _ h => h, fun _ _ h => by simp [MM.bare] at h, fun _ _ _ h => by simp [MM.bare] at h, fun _ h => h.elim⟩
def Own.low : Own → Bool
  | .no => true
  | .tight => true
  | _ => false
mutual
def D.plain : D → Bool
  | .undef => false
  | .ptr _ _ _ => false
  | .eptr _ _ _ => false
  | .mapp _ => false
  | .yld _ => false
  | .slc _ _ _ => false
  | .sub _ _ _ _ _ => false
  | .lst o _ _ => o.low
  | .agg cs => D.plainL cs
  | .tup cs => D.plainL cs
  | .fn _ a b => D.plainL a && D.plainL b
  | _ => true
def D.plainL : List D → Bool
  | [] => true
  | d :: r => d.plain && D.plainL r
end
theorem D.plainL_eq (l : List D) : D.plainL l = l.all D.plain := by
 induction l with
 | nil => simp [D.plainL]
 | cons d r ih => simp [D.plainL, ih]
theorem Rep.ofPlain {M : MM} {d : D} {v : Value} (h : Rep M d v) : d.plain = true → Rep M.bare d v := by
 induction h with
 | undef v => intro c; simp [D.plain] at c
 | int k n => intro _; exact .int k n
 | bool b => intro _; exact .bool b
 | str s => intro _; exact .str s
 | nilp => intro _; exact .nilp
 | ptr q h => intro c; simp [D.plain] at c
 | eptr q vs hx hc hr ih => intro c; simp [D.plain] at c
 | mapp h => intro c; simp [D.plain] at c
 | yld h => intro c; simp [D.plain] at c
 | slc h hh hc => intro c; simp [D.plain] at c
 | sub h hc hp ho => intro c; simp [D.plain] at c
 | lst b off vs hl hcap ha hsz hc hr hst ho ih =>
  rename_i o _ _ _ _ _
  intro c
  refine .lst b off vs hl hcap ha hsz hc hr hst ?_
  rw [D.plain] at c
  cases o <;> first | exact ho | (simp [Own.low] at c)
 | nilf => intro _; exact .nilf
 | fn h1 h2 r1 r2 i1 i2 =>
  intro c
  rw [D.plain, D.plainL_eq, D.plainL_eq, Bool.and_eq_true, List.all_eq_true, List.all_eq_true] at c
  exact .fn h1 h2 (fun i d v a b => i1 i d v a b (c.1 _ (List.mem_of_getElem? a))) (fun i d v a b => i2 i d v a b (c.2 _ (List.mem_of_getElem? a)))
 | agg h r ih =>
  intro c
  rw [D.plain, D.plainL_eq, List.all_eq_true] at c
  exact .agg h (fun i d v a b => ih i d v a b (c _ (List.mem_of_getElem? a)))
 | tup h r ih =>
  intro c
  rw [D.plain, D.plainL_eq, List.all_eq_true] at c
  exact .tup h (fun i d v a b => ih i d v a b (c _ (List.mem_of_getElem? a)))
mutual
theorem demote_plain : ∀ {d : D}, d.clean = true → d.demote.plain = true
  | .undef, h => by simp [D.clean] at h
  | .int _ _, _ => by simp [D.demote, D.plain]
  | .bool _, _ => by simp [D.demote, D.plain]
  | .str _, _ => by simp [D.demote, D.plain]
  | .nilp, _ => by simp [D.demote, D.plain]
  | .ptr _ _ _, h => by simp [D.clean] at h
  | .eptr _ _ _, h => by simp [D.clean] at h
  | .mapp _, h => by simp [D.clean] at h
  | .yld _, h => by simp [D.clean] at h
  | .slc _ _ _, h => by simp [D.clean] at h
  | .sub _ _ _ _ _, h => by simp [D.clean] at h
  | .lst o _ _, _ => by cases o <;> simp [D.demote, D.plain, Own.demote, Own.low]
  | .nilf, _ => by simp [D.demote, D.plain]
  | .fn _ a b, h => by
    simp only [D.clean, Bool.and_eq_true] at h
    simp only [D.demote, D.plain, Bool.and_eq_true]
    exact ⟨demoteL_plain h.1, demoteL_plain h.2⟩
  | .agg cs, h => by simp only [D.clean] at h; simp only [D.demote, D.plain]; exact demoteL_plain h
  | .tup cs, h => by simp only [D.clean] at h; simp only [D.demote, D.plain]; exact demoteL_plain h
theorem demoteL_plain : ∀ {l : List D}, D.cleanL l = true → D.plainL (D.demoteL l) = true
  | [], _ => by simp [D.demoteL, D.plainL]
  | d :: r, h => by
    simp only [D.cleanL, Bool.and_eq_true] at h
    simp only [D.demoteL, D.plainL, Bool.and_eq_true]
    exact ⟨demote_plain h.1, demoteL_plain h.2⟩
end
theorem Rep.flag {M : MM} {o : Own} {sz : Nat} {xs : List D} {a : Option Addr} {len cap : Nat} (h : Rep M (.lst o sz xs) (.slice a len cap)) (o' : Own) (ho : M.owns o' a len cap) : Rep M (.lst o' sz xs) (.slice a len cap) := by
 cases h with
 | lst b off vs hl hcap ha hsz hc hr hst _ => exact .lst b off vs hl hcap ha hsz hc hr hst ho
theorem Rep.resize {M : MM} {o : Own} {sz size : Nat} {xs : List D} {v : Value} (h : Rep M (.lst o sz xs) v) (hs : sz = size ∨ xs = []) : Rep M (.lst o size xs) v := by
 rcases hs with rfl | rfl
 ·exact h
 ·cases h with
  | lst b off vs hl hcap ha hsz hc hr hst ho => exact .lst b off vs hl hcap ha (fun i x hx => by simp at hx) (fun i x cs j c hx => by simp at hx) (fun i x cs j c hx => by simp at hx) hst ho
def RepL (M : MM) (cs : List D) (vs : Array Value) : Prop := cs.length = vs.size ∧ ∀ (i : Nat) (d : D) (v : Value), cs[i]? = some d → vs[i]? = some v → Rep M d v
theorem RepL.mono {M M' : MM} {cs : List D} {vs : Array Value} (h : RepL M cs vs) (le : M.Le M') : RepL M' cs vs := ⟨h.1, fun i d v a b => (h.2 i d v a b).mono le⟩
theorem Rep.cells {M : MM} {x : D} {v : Value} (h : Rep M x v) {cs : List D} (hx : x.cells = some cs) : RepL M cs v.cells := by
 have one : ∀ {d : D} {u : Value}, Rep M d u → u.cells = #[u] → RepL M [d] u.cells := by
  intro d u r e
  rw [e]
  refine ⟨rfl, fun i d' v' a b => ?_⟩
  cases i with
  | zero => simp at a b; subst a b; exact r
  | succ i => simp at a
 cases h with
 | undef v => cases hx
 | int k n => cases hx; exact one (.int _ _) rfl
 | bool b => cases hx; exact one (.bool _) rfl
 | str t => cases hx; exact one (.str _) rfl
 | nilp => cases hx; exact one .nilp rfl
 | ptr q hb => cases hx; exact one (.ptr q hb) rfl
 | eptr q vs hy hc hr => cases hx; exact one (.eptr q vs hy hc hr) rfl
 | mapp h => cases hx; exact one (.mapp h) rfl
 | yld h => cases hx; exact one (.yld h) rfl
 | slc h hh hc => cases hx; exact one (.slc h hh hc) rfl
 | sub h hc hp ho => cases hx; exact one (.sub h hc hp ho) rfl
 | lst b off vs hl hcap ha hsz hc hr hst ho => cases hx; exact one (.lst b off vs hl hcap ha hsz hc hr hst ho) rfl
 | nilf => cases hx; exact one .nilf rfl
 | fn h1 h2 r1 r2 => cases hx; exact one (.fn h1 h2 r1 r2) rfl
 | agg hl hr => cases hx; exact ⟨hl, hr⟩
 | tup hl hr => cases hx
inductive LK where
  | bool
  | int (k : IntKind)
  | str
def LK.fitsV : LK → Value → Prop
  | .bool, .bool _ => True
  | .int k, .int k' _ => k = k'
  | .str, .string _ => True
  | _, _ => False
def fitsVL : List LK → List Value → Prop
  | [], [] => True
  | k :: ks, d :: ds => k.fitsV d ∧ fitsVL ks ds
  | _, _ => False
inductive Lk where
  | ready
  | busy
  | ret
  | exit (i : Nat)
def Lk.state : Lk → LoopState
  | .ready => .ready
  | .busy => .busy
  | _ => .done
def Lk.pend : Lk → Option Code
  | .ret => some .ret
  | .exit i => some (.exit i)
  | _ => none
inductive Ob where
  | dead
  | box (cs : List D)
  | fam (ver sz : Nat)
  | mp (k : IntKind) (es : List (Int × D))
  | mf (ks : List LK) (es : List (List D × D))
  | lp (k : Lk) (t : List D) (ps : Array Nat) (ag bd : Code)
def scalV : D → Option Value
  | .int k n => some (.int k n)
  | .bool b => some (.bool b)
  | .str s => some (.string s)
  | _ => none
def fitsM (k : IntKind) : List (Int × D) → List MapEntry → Prop
  | [], [] => True
  | (n, d) :: r, e :: s => e.key = .int k n ∧ scalV d = some e.val ∧ fitsM k r s
  | _, _ => False
def scalsV : List D → Option (List Value)
  | [] => some []
  | d :: r => match scalV d, scalsV r with
    | some v, some l => some (v :: l)
    | _, _ => none
def fitsF (ks : List LK) : List (List D × D) → List MapEntry → Prop
  | [], [] => True
  | (n, d) :: r, e :: s => (∃ vs : Array Value, e.key = .agg vs ∧ scalsV n = some vs.toList ∧ fitsVL ks vs.toList) ∧ scalV d = some e.val ∧ fitsF ks r s
  | _, _ => False
def bornOK (l : List MapEntry) (c : Nat) : Prop := c = l.length ∧ ∀ (i : Nat) (e : MapEntry), l[i]? = some e → e.born = i
def Ob.mapF : Ob → Option (List MapEntry → Nat → Prop)
  | .mp k es => some fun l c => fitsM k es l ∧ bornOK l c
  | .mf ks es => some fun l c => fitsF ks es l ∧ bornOK l c
  | _ => none
def upd (σ : Nat → Ob) (id : Nat) (o : Ob) : Nat → Ob := fun i => if i = id then o else σ i
theorem upd_same (σ : Nat → Ob) (id : Nat) (o : Ob) : upd σ id o id = o := by simp [upd]
theorem upd_other {σ : Nat → Ob} {id i : Nat} {o : Ob} (h : i ≠ id) : upd σ id o i = σ i := by simp [upd, h]
def unfrozen (fz : Nat × Nat) (n : Nat) : Prop := ∀ o, o < n → ¬ (fz.1 ≤ o ∧ o < fz.2)
structure Base where
  w : World
  C : Nat → Nat → Option Value
structure BoxOK (w0 : Base) (M : MM) (own : Nat → Option Nat) (id : Nat) (cs : List D) (w : World) (b : Nat) (vs : Array Value) (ty : TypeId) : Prop where
  box : M.box id = some b
  base : w0.w.heap.size ≤ b
  own : own b = some id
  none : ∀ o, M.cell b o = none
  blk : w.heap[b]? = some (.cells vs ty (0, 0))
  len : cs.length ≤ vs.size
  rep : ∀ (i : Nat) (d : D) (v : Value), cs[i]? = some d → vs[i]? = some v → Rep M d v
  room : ∀ sz a len cap, M.hist id sz = some (.slice a len cap) → cap * sz ≤ vs.size
structure MapOK (w0 : Base) (M : MM) (own : Nat → Option Nat) (id : Nat) (F : List MapEntry → Nat → Prop) (w : World) (b : Nat) (ents : Array MapEntry) (clock : Nat) : Prop where
  box : M.box id = some b
  base : w0.w.heap.size ≤ b
  own : own b = some id
  none : ∀ o, M.cell b o = none
  blk : w.heap[b]? = some (.map ents clock)
  fits : F ents.toList clock
structure LpOK (w0 : Base) (M : MM) (own : Nat → Option Nat) (id : Nat) (k : Lk) (t : List D) (ps : Array Nat) (ag bd : Code) (w : World) (l : Nat) (r : Loop) : Prop where
  box : M.box id = some l
  base : w0.w.heap.size ≤ l
  own : own l = some id
  blk : w.heap[l]? = some (.loop r)
  st : r.state = k.state
  pd : k ≠ .busy → r.pending = k.pend
  tm : RepL M t r.tmps
  ps : r.params = ps
  ag : r.assign = ag
  bd : r.body = bd
structure RoomOK (w0 : Base) (M : MM) (own : Nat → Option Nat) (id sz : Nat) (w : World) (len cap b : Nat) (vs : Array Value) (ty : TypeId) (fz : Nat × Nat) : Prop where
  base : w0.w.heap.size ≤ b
  own : own b = some id
  blk : w.heap[b]? = some (.cells vs ty fz)
  fz : unfrozen fz vs.size
  cap : cap * sz ≤ vs.size
  none : ∀ o, len * sz ≤ o → M.cell b o = none
structure FamOK (w0 : Base) (M : MM) (own : Nat → Option Nat) (id ver sz : Nat) (w : World) (a : Option Addr) (len cap : Nat) : Prop where
  hist : M.hist id ver = some (.slice a len cap)
  last : ∀ v, ver < v → M.hist id v = none
  room : cap = len ∨ ∃ b vs ty fz, a = some ⟨b, 0, none⟩ ∧ RoomOK w0 M own id sz w len cap b vs ty fz
structure WRel (w0 : Base) (M : MM) (own : Nat → Option Nat) (σ : Nat → Ob) (w : World) : Prop where
  below : Below w0.w.heap.size w0.w w
  cells : ∀ b o v, M.cell b o = some v → w.cell? ⟨b, o, none⟩ = some v
  old : ∀ b o v, M.cell b o = some v → b < w0.w.heap.size → w0.C b o = some v
  owned : ∀ b id, own b = some id → b < w.heap.size
  box : ∀ id cs, σ id = .box cs → ∃ b vs ty, BoxOK w0 M own id cs w b vs ty
  fam : ∀ id ver sz, σ id = .fam ver sz → ∃ a len cap, FamOK w0 M own id ver sz w a len cap
  mp : ∀ id F, (σ id).mapF = some F → ∃ b ents clock, MapOK w0 M own id F w b ents clock
  lp : ∀ id k t ps ag bd, σ id = .lp k t ps ag bd → ∃ l r, LpOK w0 M own id k t ps ag bd w l r
  mrk : ∀ b, M.mrk b → w0.w.heap.size ≤ b ∧ w.heap[b]? = some (.deferred (some []))
theorem LpOK.keep {w0 : Base} {M M' : MM} {own own' : Nat → Option Nat} {id : Nat} {k : Lk} {t : List D} {ps : Array Nat} {ag bd : Code} {w w' : World} {l : Nat} {r : Loop} (h : LpOK w0 M own id k t ps ag bd w l r) (le : M.Le M') (ho : own' l = some id) (hb : w'.heap[l]? = some (.loop r)) : LpOK w0 M' own' id k t ps ag bd w' l r :=
 ⟨le.box _ _ h.box, h.base, ho, hb, h.st, h.pd, h.tm.mono le, h.ps, h.ag, h.bd⟩
structure Ext (M : MM) (w : World) (M' : MM) (w' : World) : Prop where
  below : Below w.heap.size w w'
  cell : ∀ b o v, M.cell b o = some v → M'.cell b o = some v
  only : ∀ b o v, M'.cell b o = some v → b < w.heap.size → M.cell b o = some v
  cells : ∀ b o v, M'.cell b o = some v → w'.cell? ⟨b, o, none⟩ = some v
theorem heap_below {w w' : World} (h : Below w.heap.size w w') {b : Nat} {o : Obj} (hb : w.heap[b]? = some o) : w'.heap[b]? = some o := by
 rw [h.block b ?_, hb]
 rcases Nat.lt_or_ge b w.heap.size with h | h
 ·exact h
 ·simp [Array.getElem?_eq_none h] at hb
theorem lt_of_heap {w : World} {b : Nat} {o : Obj} (hb : w.heap[b]? = some o) : b < w.heap.size := by
 rcases Nat.lt_or_ge b w.heap.size with h | h
 ·exact h
 ·simp [Array.getElem?_eq_none h] at hb
theorem none_of_only {C C' : Nat → Nat → Option Value} {n b o : Nat} (only : ∀ b o v, C' b o = some v → b < n → C b o = some v) (hb : b < n) (h : C b o = none) : C' b o = none := by
 cases e : C' b o with
 | none => rfl
 | some v => rw [only b o v e hb] at h; cases h
theorem WRel.ext {w0 : Base} {w w' : World} {M M' : MM} {own : Nat → Option Nat} {σ : Nat → Ob} (h : WRel w0 M own σ w) (e : Ext M w M' w')
  (hbox : M'.box = M.box) (hhist : M'.hist = M.hist) (hmk : M'.mrk = M.mrk) : WRel w0 M' own σ w' ∧ M.Le M' := by
 have le : M.Le M' := ⟨e.cell, fun id b h => by rw [hbox]; exact h, fun t v x h => by rw [hhist]; exact h, fun b h => by rw [hmk]; exact h⟩
 refine ⟨⟨?_, e.cells, ?_, ?_, ?_, ?_, ?_, ?_, ?_⟩, le⟩
 ·exact h.below.trans (e.below.mono h.below.size)
 ·exact fun b o v k hb => h.old b o v (e.only b o v k (Nat.lt_of_lt_of_le hb h.below.size)) hb
 ·exact fun b id k => Nat.lt_of_lt_of_le (h.owned b id k) e.below.size
 ·intro id cs hs
  obtain ⟨b, vs, ty, k⟩ := h.box id cs hs
  exact ⟨b, vs, ty, by rw [hbox]; exact k.box, k.base, k.own, fun o => none_of_only e.only (lt_of_heap k.blk) (k.none o), heap_below e.below k.blk, k.len, fun i d v a b => (k.rep i d v a b).mono le, fun sz a len cap q => k.room sz a len cap (hhist ▸ q)⟩
 ·intro id ver sz hs
  obtain ⟨a, len, cap, k⟩ := h.fam id ver sz hs
  refine ⟨a, len, cap, by rw [hhist]; exact k.hist, by rw [hhist]; exact k.last, ?_⟩
  rcases k.room with r | ⟨b, vs, ty, fz, ha, r⟩
  ·exact .inl r
  ·exact .inr ⟨b, vs, ty, fz, ha, r.base, r.own, heap_below e.below r.blk, r.fz, r.cap, fun o ho => none_of_only e.only (lt_of_heap r.blk) (r.none o ho)⟩
 ·intro id F hs
  obtain ⟨b, ents, clock, q⟩ := h.mp id F hs
  exact ⟨b, ents, clock, by rw [hbox]; exact q.box, q.base, q.own, fun o => none_of_only e.only (lt_of_heap q.blk) (q.none o), heap_below e.below q.blk, q.fits⟩
 ·intro id k t ps ag bd hs
  obtain ⟨l, r, q⟩ := h.lp id k t ps ag bd hs
  exact ⟨l, r, q.keep le q.own (heap_below e.below q.blk)⟩
 ·intro b hb
  rw [hmk] at hb
  exact ⟨(h.mrk b hb).1, heap_below e.below (h.mrk b hb).2⟩
theorem WRel.drew {w0 : Base} {w : World} {M : MM} {own : Nat → Option Nat} {σ : Nat → Ob} (h : WRel w0 M own σ w) : WRel w0 M own σ w.drew :=
 ⟨h.below.drew, h.cells, h.old, h.owned, fun id cs e => let ⟨b, vs, ty, k⟩ := h.box id cs e; ⟨b, vs, ty, k.box, k.base, k.own, k.none, k.blk, k.len, k.rep, k.room⟩,
  fun id ver sz e => let ⟨a, len, cap, k⟩ := h.fam id ver sz e; ⟨a, len, cap, k.hist, k.last, k.room.imp (fun x => x) fun ⟨b, vs, ty, fz, ha, r⟩ => ⟨b, vs, ty, fz, ha, r.base, r.own, r.blk, r.fz, r.cap, r.none⟩⟩,
  fun id F e => let ⟨b, ents, clock, q⟩ := h.mp id F e; ⟨b, ents, clock, q.box, q.base, q.own, q.none, q.blk, q.fits⟩,
  fun id k t ps ag bd e => let ⟨l, r, q⟩ := h.lp id k t ps ag bd e; ⟨l, r, q.keep (.refl _) q.own q.blk⟩, fun b hb => ⟨(h.mrk b hb).1, (h.mrk b hb).2⟩⟩
theorem WRel.kill {w0 : Base} {w : World} {M : MM} {own : Nat → Option Nat} {σ : Nat → Ob} (h : WRel w0 M own σ w) (id : Nat) : WRel w0 M own (upd σ id .dead) w := by
 refine ⟨h.below, h.cells, h.old, h.owned, ?_, ?_, ?_, ?_, h.mrk⟩
 ·intro i cs hi
  by_cases e : i = id
  ·rw [e, upd_same] at hi; cases hi
  ·rw [upd_other e] at hi; exact h.box i cs hi
 ·intro i v sz hi
  by_cases e : i = id
  ·rw [e, upd_same] at hi; cases hi
  ·rw [upd_other e] at hi; exact h.fam i v sz hi
 ·intro i F hi
  by_cases e : i = id
  ·rw [e, upd_same] at hi; cases hi
  ·rw [upd_other e] at hi; exact h.mp i F hi
 ·intro i k t ps ag bd hi
  by_cases e : i = id
  ·rw [e, upd_same] at hi; cases hi
  ·rw [upd_other e] at hi; exact h.lp i k t ps ag bd hi
def MM.withBox (M : MM) (id b : Nat) : MM := { M with box := fun i => if i = id then some b else M.box i }
def MM.withHist (M : MM) (id ver : Nat) (v : Value) : MM := { M with hist := fun i k => if i = id ∧ k = ver then some v else M.hist i k }
def MM.withCells (M : MM) (b : Nat) (f : Nat → Option Value) : MM := { M with cell := fun c o => if c = b then f o else M.cell c o }
def ownAt (own : Nat → Option Nat) (b id : Nat) : Nat → Option Nat := fun c => if c = b then some id else own c
theorem MM.le_withBox {M : MM} {id b : Nat} (h : M.box id = none) : M.Le (M.withBox id b) :=
 ⟨fun _ _ _ h => h, fun i c k => by by_cases e : i = id; (· rw [e, h] at k; cases k); (· simp [withBox, e, k]), fun _ _ _ h => h, fun _ h => h⟩
theorem MM.le_withHist {M : MM} {id ver : Nat} {v : Value} (h : M.hist id ver = none) : M.Le (M.withHist id ver v) :=
 ⟨fun _ _ _ h => h, fun _ _ h => h, fun i k x e => by
  by_cases c : i = id ∧ k = ver
  ·rw [c.1, c.2, h] at e; cases e
  ·simp only [withHist, c, if_false]; exact e, fun _ h => h⟩
theorem cell_none_of_size {w : World} {M : MM} (hc : ∀ b o v, M.cell b o = some v → w.cell? ⟨b, o, none⟩ = some v) {b : Nat} (hb : w.heap.size ≤ b) (o : Nat) : M.cell b o = none := by
 cases e : M.cell b o with
 | none => rfl
 | some v =>
  have := World.block_lt_of_cell? w _ (hc b o v e)
  have : b < w.heap.size := this
  omega
theorem WRel.newBox {w0 : Base} {w : World} {M : MM} {own : Nat → Option Nat} {σ : Nat → Ob} (h : WRel w0 M own σ w) {id : Nat} (hid : M.box id = none) (hh : ∀ v, M.hist id v = none) {cs : List D} {vs : Array Value} (ty : TypeId)
  (hl : cs.length ≤ vs.size) (hr : ∀ (i : Nat) (d : D) (v : Value), cs[i]? = some d → vs[i]? = some v → Rep M d v) :
  WRel w0 (M.withBox id w.heap.size) (ownAt own w.heap.size id) (upd σ id (.box cs)) (w.alloc (.cells vs ty)) := by
 have le := MM.le_withBox (b := w.heap.size) hid
 have hnew : ∀ o, M.cell w.heap.size o = none := cell_none_of_size h.cells (Nat.le_refl _)
 have hold : ∀ {b : Nat} {o : Obj}, w.heap[b]? = some o → (w.alloc (.cells vs ty)).heap[b]? = some o := fun {b o} hb => by
  rw [Below.heap_alloc _ _ _ (lt_of_heap hb), hb]
 have hown : ∀ {b i : Nat}, own b = some i → ownAt own w.heap.size id b = some i := fun {b i} k => by
  have := h.owned b i k
  simp [ownAt, show b ≠ w.heap.size by omega, k]
 refine ⟨h.below.alloc h.below.size _, ?_, h.old, ?_, ?_, ?_, ?_, ?_, ?_⟩
 ·intro b o v k
  have k' : M.cell b o = some v := k
  rw [World.cell?_alloc_lt]
  ·exact h.cells b o v k'
  ·exact World.block_lt_of_cell? w _ (h.cells b o v k')
 ·intro b i k
  rw [World.size_alloc]
  by_cases e : b = w.heap.size
  ·omega
  ·simp only [ownAt, e, if_false] at k
   have := h.owned b i k
   omega
 ·intro i cs' hi
  by_cases e : i = id
  ·subst e
   rw [upd_same] at hi
   cases hi
   refine ⟨w.heap.size, vs, ty, by simp [MM.withBox], h.below.size, by simp [ownAt], hnew, ?_, hl, fun j d v a b => (hr j d v a b).mono le, fun sz a len cap q => by have q' : M.hist i sz = _ := q; rw [hh] at q'; cases q'⟩
   show (w.heap.push _)[w.heap.size]? = _
   simp
  ·rw [upd_other e] at hi
   obtain ⟨b, vs', ty', k⟩ := h.box i cs' hi
   exact ⟨b, vs', ty', le.box _ _ k.box, k.base, hown k.own, k.none, hold k.blk, k.len, fun j d v a b => (k.rep j d v a b).mono le, k.room⟩
 ·intro i ver sz hi
  by_cases e : i = id
  ·rw [e, upd_same] at hi; cases hi
  ·rw [upd_other e] at hi
   obtain ⟨a, len, cap, k⟩ := h.fam i ver sz hi
   refine ⟨a, len, cap, k.hist, k.last, ?_⟩
   rcases k.room with r | ⟨b, vs', ty', fz, ha, r⟩
   ·exact .inl r
   ·exact .inr ⟨b, vs', ty', fz, ha, r.base, hown r.own, hold r.blk, r.fz, r.cap, r.none⟩
 ·intro i F hi
  by_cases e : i = id
  ·rw [e, upd_same] at hi; cases hi
  ·rw [upd_other e] at hi
   obtain ⟨b, ents, clock, q⟩ := h.mp i F hi
   exact ⟨b, ents, clock, le.box _ _ q.box, q.base, hown q.own, q.none, hold q.blk, q.fits⟩
 ·intro i k t ps ag bd hi
  by_cases e : i = id
  ·rw [e, upd_same] at hi; cases hi
  ·rw [upd_other e] at hi
   obtain ⟨l, r, q⟩ := h.lp i k t ps ag bd hi
   exact ⟨l, r, q.keep le (hown q.own) (hold q.blk)⟩
 ·intro b hb
  exact ⟨(h.mrk b hb).1, hold (h.mrk b hb).2⟩
theorem WRel.newMap {w0 : Base} {w : World} {M : MM} {own : Nat → Option Nat} {σ : Nat → Ob} (h : WRel w0 M own σ w) {id : Nat} (hid : M.box id = none) {o : Ob} {F0 : List MapEntry → Nat → Prop} (ho : o.mapF = some F0) (hF : F0 [] 0) :
  WRel w0 (M.withBox id w.heap.size) (ownAt own w.heap.size id) (upd σ id o) (w.alloc (.map #[] 0)) := by
 have le := MM.le_withBox (b := w.heap.size) hid
 have hnew : ∀ o, M.cell w.heap.size o = none := cell_none_of_size h.cells (Nat.le_refl _)
 have hold : ∀ {b : Nat} {o : Obj}, w.heap[b]? = some o → (w.alloc (.map #[] 0)).heap[b]? = some o := fun {b o} hb => by
  rw [Below.heap_alloc _ _ _ (lt_of_heap hb), hb]
 have hown : ∀ {b i : Nat}, own b = some i → ownAt own w.heap.size id b = some i := fun {b i} k => by
  have := h.owned b i k
  simp [ownAt, show b ≠ w.heap.size by omega, k]
 refine ⟨h.below.alloc h.below.size _, ?_, h.old, ?_, ?_, ?_, ?_, ?_, ?_⟩
 ·intro b o v k
  have k' : M.cell b o = some v := k
  rw [World.cell?_alloc_lt]
  ·exact h.cells b o v k'
  ·exact World.block_lt_of_cell? w _ (h.cells b o v k')
 ·intro b i k
  rw [World.size_alloc]
  by_cases e : b = w.heap.size
  ·omega
  ·simp only [ownAt, e, if_false] at k
   have := h.owned b i k
   omega
 ·intro i cs' hi
  by_cases e : i = id
  ·rw [e, upd_same] at hi; rw [hi] at ho; cases ho
  ·rw [upd_other e] at hi
   obtain ⟨b, vs', ty', k⟩ := h.box i cs' hi
   exact ⟨b, vs', ty', le.box _ _ k.box, k.base, hown k.own, k.none, hold k.blk, k.len, fun j d v a b => (k.rep j d v a b).mono le, k.room⟩
 ·intro i ver sz hi
  by_cases e : i = id
  ·rw [e, upd_same] at hi; rw [hi] at ho; cases ho
  ·rw [upd_other e] at hi
   obtain ⟨a, len, cap, k⟩ := h.fam i ver sz hi
   refine ⟨a, len, cap, k.hist, k.last, ?_⟩
   rcases k.room with r | ⟨b, vs', ty', fz, ha, r⟩
   ·exact .inl r
   ·exact .inr ⟨b, vs', ty', fz, ha, r.base, hown r.own, hold r.blk, r.fz, r.cap, r.none⟩
 ·intro i F hi
  by_cases e : i = id
  ·subst e
   rw [upd_same, ho] at hi
   cases hi
   refine ⟨w.heap.size, #[], 0, by simp [MM.withBox], h.below.size, by simp [ownAt], hnew, ?_, hF⟩
   show (w.heap.push _)[w.heap.size]? = _
   simp
  ·rw [upd_other e] at hi
   obtain ⟨b, ents, clock, q⟩ := h.mp i F hi
   exact ⟨b, ents, clock, le.box _ _ q.box, q.base, hown q.own, q.none, hold q.blk, q.fits⟩
 ·intro i k' t ps ag bd hi
  by_cases e : i = id
  ·rw [e, upd_same] at hi; rw [hi] at ho; cases ho
  ·rw [upd_other e] at hi
   obtain ⟨l, r, q⟩ := h.lp i k' t ps ag bd hi
   exact ⟨l, r, q.keep le (hown q.own) (hold q.blk)⟩
 ·intro b hb
  exact ⟨(h.mrk b hb).1, hold (h.mrk b hb).2⟩
def putBlock (w : World) (b : Nat) (o : Obj) : World := { w with heap := w.heap.setIfInBounds b o }
theorem putBlock_same {w : World} {b : Nat} {o p : Obj} (h : w.heap[b]? = some p) : (putBlock w b o).heap[b]? = some o := by
 have := lt_of_heap h
 simp [putBlock, this]
theorem putBlock_other {w : World} {b c : Nat} {o : Obj} (h : c ≠ b) : (putBlock w b o).heap[c]? = w.heap[c]? := by
 simp [putBlock, Array.getElem?_setIfInBounds_ne (Ne.symm h)]
theorem putBlock_size (w : World) (b : Nat) (o : Obj) : (putBlock w b o).heap.size = w.heap.size := by simp [putBlock]
theorem cell?_putBlock_other {w : World} {b c o : Nat} {p : Obj} (h : c ≠ b) : (putBlock w b p).cell? ⟨c, o, none⟩ = w.cell? ⟨c, o, none⟩ := by
 simp [World.cell?, putBlock_other h]
theorem below_putBlock {n : Nat} {w0 w : World} (h : Below n w0 w) {b : Nat} (hb : n ≤ b) (o : Obj) : Below n w0 (putBlock w b o) :=
 ⟨h.os, h.tape, h.output, by rw [putBlock_size]; exact h.size, fun k hk => by rw [putBlock_other (by omega)]; exact h.block k hk⟩
theorem WRel.setBox {w0 : Base} {w : World} {M : MM} {own : Nat → Option Nat} {σ : Nat → Ob} (h : WRel w0 M own σ w) {id b : Nat} {cs cs' : List D} {vs vs' : Array Value} {ty : TypeId}
  (k : BoxOK w0 M own id cs w b vs ty) (hl : cs'.length ≤ vs'.size) (hs : vs'.size = vs.size)
  (hr : ∀ (i : Nat) (d : D) (v : Value), cs'[i]? = some d → vs'[i]? = some v → Rep M d v) :
  WRel w0 M own (upd σ id (.box cs')) (putBlock w b (.cells vs' ty (0, 0))) := by
 refine ⟨below_putBlock h.below k.base _, ?_, h.old, ?_, ?_, ?_, ?_, ?_, ?_⟩
 ·intro c o v hc
  have : c ≠ b := fun e => by rw [e, k.none o] at hc; cases hc
  rw [cell?_putBlock_other this]
  exact h.cells c o v hc
 ·intro c i hc; rw [putBlock_size]; exact h.owned c i hc
 ·intro i cs2 hi
  by_cases e : i = id
  ·subst e
   rw [upd_same] at hi
   cases hi
   exact ⟨b, vs', ty, k.box, k.base, k.own, k.none, putBlock_same k.blk, hl, hr, fun sz a len cap q => by rw [hs]; exact k.room sz a len cap q⟩
  ·rw [upd_other e] at hi
   obtain ⟨c, vs2, ty2, k2⟩ := h.box i cs2 hi
   have : c ≠ b := fun ec => by have h1 := k2.own; rw [ec, k.own] at h1; exact e (Option.some.inj h1).symm
   exact ⟨c, vs2, ty2, k2.box, k2.base, k2.own, k2.none, by rw [putBlock_other this]; exact k2.blk, k2.len, k2.rep, k2.room⟩
 ·intro i ver sz hi
  by_cases e : i = id
  ·rw [e, upd_same] at hi; cases hi
  ·rw [upd_other e] at hi
   obtain ⟨a, len, cap, k2⟩ := h.fam i ver sz hi
   refine ⟨a, len, cap, k2.hist, k2.last, ?_⟩
   rcases k2.room with r | ⟨c, vs2, ty2, fz, ha, r⟩
   ·exact .inl r
   ·have : c ≠ b := fun ec => by have h1 := r.own; rw [ec, k.own] at h1; exact e (Option.some.inj h1).symm
    exact .inr ⟨c, vs2, ty2, fz, ha, r.base, r.own, by rw [putBlock_other this]; exact r.blk, r.fz, r.cap, r.none⟩
 ·intro i F hi
  by_cases e : i = id
  ·rw [e, upd_same] at hi; cases hi
  ·rw [upd_other e] at hi
   obtain ⟨c, ents, clock, q⟩ := h.mp i F hi
   have : c ≠ b := fun ec => by have h1 := q.own; rw [ec, k.own] at h1; exact e (Option.some.inj h1).symm
   exact ⟨c, ents, clock, q.box, q.base, q.own, q.none, by rw [putBlock_other this]; exact q.blk, q.fits⟩
 ·intro i k2 t ps ag bd hi
  by_cases e : i = id
  ·rw [e, upd_same] at hi; cases hi
  ·rw [upd_other e] at hi
   obtain ⟨l, r, q⟩ := h.lp i k2 t ps ag bd hi
   have : l ≠ b := fun ec => by have h1 := q.own; rw [ec, k.own] at h1; exact e (Option.some.inj h1).symm
   exact ⟨l, r, q.keep (.refl _) q.own (by rw [putBlock_other this]; exact q.blk)⟩
 ·intro c hc
  have : c ≠ b := fun ec => by have h1 := (h.mrk c hc).2; rw [ec, k.blk] at h1; cases h1
  exact ⟨(h.mrk c hc).1, by rw [putBlock_other this]; exact (h.mrk c hc).2⟩
theorem WRel.setMap {w0 : Base} {w : World} {M : MM} {own : Nat → Option Nat} {σ : Nat → Ob} (h : WRel w0 M own σ w) {id b : Nat} {F0 F1 : List MapEntry → Nat → Prop} {ents ents' : Array MapEntry} {clock : Nat}
  (k : MapOK w0 M own id F0 w b ents clock) (clock' : Nat) {o' : Ob} (ho : o'.mapF = some F1) (hf : F1 ents'.toList clock') :
  WRel w0 M own (upd σ id o') (putBlock w b (.map ents' clock')) := by
 refine ⟨below_putBlock h.below k.base _, ?_, h.old, ?_, ?_, ?_, ?_, ?_, ?_⟩
 ·intro c o v hc
  have : c ≠ b := fun e => by rw [e, k.none o] at hc; cases hc
  rw [cell?_putBlock_other this]
  exact h.cells c o v hc
 ·intro c i hc; rw [putBlock_size]; exact h.owned c i hc
 ·intro i cs2 hi
  by_cases e : i = id
  ·rw [e, upd_same] at hi; rw [hi] at ho; cases ho
  ·rw [upd_other e] at hi
   obtain ⟨c, vs2, ty2, k2⟩ := h.box i cs2 hi
   have : c ≠ b := fun ec => by have h1 := k2.own; rw [ec, k.own] at h1; exact e (Option.some.inj h1).symm
   exact ⟨c, vs2, ty2, k2.box, k2.base, k2.own, k2.none, by rw [putBlock_other this]; exact k2.blk, k2.len, k2.rep, k2.room⟩
 ·intro i ver sz hi
  by_cases e : i = id
  ·rw [e, upd_same] at hi; rw [hi] at ho; cases ho
  ·rw [upd_other e] at hi
   obtain ⟨a, len, cap, k2⟩ := h.fam i ver sz hi
   refine ⟨a, len, cap, k2.hist, k2.last, ?_⟩
   rcases k2.room with r | ⟨c, vs2, ty2, fz, ha, r⟩
   ·exact .inl r
   ·have : c ≠ b := fun ec => by have h1 := r.own; rw [ec, k.own] at h1; exact e (Option.some.inj h1).symm
    exact .inr ⟨c, vs2, ty2, fz, ha, r.base, r.own, by rw [putBlock_other this]; exact r.blk, r.fz, r.cap, r.none⟩
 ·intro i F hi
  by_cases e : i = id
  ·subst e
   rw [upd_same, ho] at hi
   cases hi
   exact ⟨b, ents', clock', k.box, k.base, k.own, k.none, putBlock_same k.blk, hf⟩
  ·rw [upd_other e] at hi
   obtain ⟨c, ents2, clock2, q⟩ := h.mp i F hi
   have : c ≠ b := fun ec => by have h1 := q.own; rw [ec, k.own] at h1; exact e (Option.some.inj h1).symm
   exact ⟨c, ents2, clock2, q.box, q.base, q.own, q.none, by rw [putBlock_other this]; exact q.blk, q.fits⟩
 ·intro i k2 t ps ag bd hi
  by_cases e : i = id
  ·rw [e, upd_same] at hi; rw [hi] at ho; cases ho
  ·rw [upd_other e] at hi
   obtain ⟨l, r, q⟩ := h.lp i k2 t ps ag bd hi
   have : l ≠ b := fun ec => by have h1 := q.own; rw [ec, k.own] at h1; exact e (Option.some.inj h1).symm
   exact ⟨l, r, q.keep (.refl _) q.own (by rw [putBlock_other this]; exact q.blk)⟩
 ·intro c hc
  have : c ≠ b := fun ec => by have h1 := (h.mrk c hc).2; rw [ec, k.blk] at h1; cases h1
  exact ⟨(h.mrk c hc).1, by rw [putBlock_other this]; exact (h.mrk c hc).2⟩
theorem WRel.setFam {w0 : Base} {w : World} {M : MM} {own : Nat → Option Nat} {σ : Nat → Ob} (h : WRel w0 M own σ w) {id ver : Nat} (hid : ∀ v, ver ≤ v → M.hist id v = none) {a : Option Addr} {len cap : Nat} (sz : Nat)
  (hroom : cap = len ∨ ∃ b vs ty fz, a = some ⟨b, 0, none⟩ ∧ w0.w.heap.size ≤ b ∧ (own b = none ∨ own b = some id) ∧ w.heap[b]? = some (.cells vs ty fz) ∧ unfrozen fz vs.size ∧ cap * sz ≤ vs.size ∧ ∀ o, len * sz ≤ o → M.cell b o = none) :
  ∃ own', WRel w0 (M.withHist id ver (.slice a len cap)) own' (upd σ id (.fam ver sz)) w := by
 have le := MM.le_withHist (ver := ver) (v := .slice a len cap) (hid ver (Nat.le_refl _))
 have mine : ∀ {own' : Nat → Option Nat}, (∀ b i, own b = some i → own' b = some i) → (∀ b i, own' b = some i → b < w.heap.size) →
   (cap = len ∨ ∃ b vs ty fz, a = some ⟨b, 0, none⟩ ∧ RoomOK w0 (M.withHist id ver (.slice a len cap)) own' id sz w len cap b vs ty fz) →
   WRel w0 (M.withHist id ver (.slice a len cap)) own' (upd σ id (.fam ver sz)) w := by
  intro own' hkeep howned hr
  refine ⟨h.below, h.cells, h.old, howned, ?_, ?_, ?_, ?_, h.mrk⟩
  ·intro i cs hi
   by_cases e : i = id
   ·rw [e, upd_same] at hi; cases hi
   ·rw [upd_other e] at hi
    obtain ⟨b, vs, ty, k⟩ := h.box i cs hi
    exact ⟨b, vs, ty, k.box, k.base, hkeep _ _ k.own, k.none, k.blk, k.len, fun j d v a b => (k.rep j d v a b).mono le, fun sz' a' len' cap' q => k.room sz' a' len' cap' (by simpa [MM.withHist, e] using q)⟩
  ·intro i ver' sz' hi
   by_cases e : i = id
   ·subst e
    rw [upd_same] at hi
    cases hi
    refine ⟨a, len, cap, by simp [MM.withHist], ?_, hr⟩
    intro v hv
    simp only [MM.withHist, show ¬ (v = ver) by omega, and_false, if_false]
    exact hid v (by omega)
   ·rw [upd_other e] at hi
    obtain ⟨a', len', cap', k⟩ := h.fam i ver' sz' hi
    refine ⟨a', len', cap', le.hist _ _ _ k.hist, ?_, ?_⟩
    ·intro v hv
     simp only [MM.withHist, e, false_and, if_false]
     exact k.last v hv
    ·rcases k.room with r | ⟨c, vs2, ty2, fz, ha, r⟩
     ·exact .inl r
     ·exact .inr ⟨c, vs2, ty2, fz, ha, r.base, hkeep _ _ r.own, r.blk, r.fz, r.cap, r.none⟩
  ·intro i F hi
   by_cases e : i = id
   ·rw [e, upd_same] at hi; cases hi
   ·rw [upd_other e] at hi
    obtain ⟨b, ents, clock, q⟩ := h.mp i F hi
    exact ⟨b, ents, clock, q.box, q.base, hkeep _ _ q.own, q.none, q.blk, q.fits⟩
  ·intro i k t ps ag bd hi
   by_cases e : i = id
   ·rw [e, upd_same] at hi; cases hi
   ·rw [upd_other e] at hi
    obtain ⟨l, r, q⟩ := h.lp i k t ps ag bd hi
    exact ⟨l, r, q.keep le (hkeep _ _ q.own) q.blk⟩
 rcases hroom with hc | ⟨b, vs, ty, fz, ha, hbase, hfree, hblk, hfz, hcap, hnone⟩
 ·exact ⟨own, mine (fun _ _ x => x) h.owned (.inl hc)⟩
 ·refine ⟨ownAt own b id, mine ?_ ?_ (.inr ⟨b, vs, ty, fz, ha, hbase, by simp [ownAt], hblk, hfz, hcap, hnone⟩)⟩
  ·intro c i hc
   by_cases e : c = b
   ·subst e
    rcases hfree with hfree | hfree
    ·rw [hfree] at hc; cases hc
    ·rw [hfree] at hc; simp [ownAt]; exact Option.some.inj hc
   ·simp [ownAt, e, hc]
  ·intro c i hc
   by_cases e : c = b
   ·rw [e]; exact lt_of_heap hblk
   ·simp only [ownAt, e, if_false] at hc; exact h.owned c i hc
def MM.more (M : MM) (b n1 n2 : Nat) (vs : Array Value) : MM := M.withCells b fun o => if n1 ≤ o ∧ o < n2 then vs[o]? else M.cell b o
theorem MM.le_more {M : MM} {b n1 n2 : Nat} {vs : Array Value} (h : ∀ o, n1 ≤ o → M.cell b o = none) : M.Le (M.more b n1 n2 vs) := by
 refine ⟨fun c o v k => ?_, fun _ _ k => k, fun _ _ _ k => k, fun _ k => k⟩
 by_cases e : c = b
 ·subst e
  simp only [more, withCells, if_true]
  rw [if_neg]
  ·exact k
  ·intro hh; rw [h o hh.1] at k; cases k
 ·simp only [more, withCells, e, if_false]; exact k
theorem WRel.fillRoom {w0 : Base} {w : World} {M : MM} {own : Nat → Option Nat} {σ : Nat → Ob} (h : WRel w0 M own σ w) {id sz len cap b : Nat} {ver sz' : Nat} {vs vs' : Array Value} {ty : TypeId} {fz : Nat × Nat} (_hs : σ id = .fam ver sz')
  (r : RoomOK w0 M own id sz w len cap b vs ty fz) (n2 : Nat) (_hsize : vs'.size = vs.size) (hsame : ∀ o, o < len * sz → vs'[o]? = vs[o]?) :
  WRel w0 (M.more b (len * sz) n2 vs') own (upd σ id .dead) (putBlock w b (.cells vs' ty fz)) := by
 have le : M.Le (M.more b (len * sz) n2 vs') := MM.le_more r.none
 refine ⟨below_putBlock h.below r.base _, ?_, ?_, ?_, ?_, ?_, ?_, ?_, ?_⟩
 ·intro c o v hc
  by_cases e : c = b
  ·subst e
   simp only [MM.more, MM.withCells, if_true] at hc
   simp only [World.cell?, putBlock_same r.blk]
   split at hc
   ·exact hc
   ·have h1 := h.cells c o v hc
    have h2 : o < len * sz := by
     rcases Nat.lt_or_ge o (len * sz) with q | q
     ·exact q
     ·rw [r.none o q] at hc; cases hc
    simp only [World.cell?, r.blk] at h1
    rw [← hsame o h2] at h1
    exact h1
  ·simp only [MM.more, MM.withCells, e, if_false] at hc
   rw [cell?_putBlock_other e]
   exact h.cells c o v hc
 ·intro c o v hc hlt
  have e : c ≠ b := fun e => by have := r.base; omega
  simp only [MM.more, MM.withCells, e, if_false] at hc
  exact h.old c o v hc hlt
 ·intro c i hc; rw [putBlock_size]; exact h.owned c i hc
 ·intro i cs2 hi
  by_cases e : i = id
  ·rw [e, upd_same] at hi; cases hi
  ·rw [upd_other e] at hi
   obtain ⟨c, vs2, ty2, k2⟩ := h.box i cs2 hi
   have : c ≠ b := fun ec => by have h1 := k2.own; rw [ec, r.own] at h1; exact e (Option.some.inj h1).symm
   exact ⟨c, vs2, ty2, k2.box, k2.base, k2.own, fun o => by simp only [MM.more, MM.withCells, this, if_false]; exact k2.none o, by rw [putBlock_other this]; exact k2.blk, k2.len, fun j d v a b => (k2.rep j d v a b).mono le, k2.room⟩
 ·intro i ver2 sz2 hi
  by_cases e : i = id
  ·rw [e, upd_same] at hi; cases hi
  ·rw [upd_other e] at hi
   obtain ⟨a, len2, cap2, k2⟩ := h.fam i ver2 sz2 hi
   refine ⟨a, len2, cap2, k2.hist, k2.last, ?_⟩
   rcases k2.room with q | ⟨c, vs2, ty2, fz2, ha, q⟩
   ·exact .inl q
   ·have : c ≠ b := fun ec => by have h1 := q.own; rw [ec, r.own] at h1; exact e (Option.some.inj h1).symm
    exact .inr ⟨c, vs2, ty2, fz2, ha, q.base, q.own, by rw [putBlock_other this]; exact q.blk, q.fz, q.cap, fun o ho => by simp only [MM.more, MM.withCells, this, if_false]; exact q.none o ho⟩
 ·intro i F hi
  by_cases e : i = id
  ·rw [e, upd_same] at hi; cases hi
  ·rw [upd_other e] at hi
   obtain ⟨c, ents, clock, q⟩ := h.mp i F hi
   have : c ≠ b := fun ec => by have h1 := q.own; rw [ec, r.own] at h1; exact e (Option.some.inj h1).symm
   exact ⟨c, ents, clock, q.box, q.base, q.own, fun o => by simp only [MM.more, MM.withCells, this, if_false]; exact q.none o, by rw [putBlock_other this]; exact q.blk, q.fits⟩
 ·intro i k2 t ps ag bd hi
  by_cases e : i = id
  ·rw [e, upd_same] at hi; cases hi
  ·rw [upd_other e] at hi
   obtain ⟨l, r', q⟩ := h.lp i k2 t ps ag bd hi
   have : l ≠ b := fun ec => by have h1 := q.own; rw [ec, r.own] at h1; exact e (Option.some.inj h1).symm
   exact ⟨l, r', q.keep le q.own (by rw [putBlock_other this]; exact q.blk)⟩
 ·intro c hc
  have : c ≠ b := fun ec => by have h1 := (h.mrk c hc).2; rw [ec, r.blk] at h1; cases h1
  exact ⟨(h.mrk c hc).1, by rw [putBlock_other this]; exact (h.mrk c hc).2⟩
theorem WRel.boxHist {w0 : Base} {w : World} {M : MM} {own : Nat → Option Nat} {σ : Nat → Ob} (h : WRel w0 M own σ w) {id b : Nat} {cs : List D} {vs : Array Value} {ty : TypeId} (hσ : σ id = .box cs)
  (k : BoxOK w0 M own id cs w b vs ty) {sz len cap : Nat} (hn : M.hist id sz = none) (hc : cap * sz ≤ vs.size) : WRel w0 (M.withHist id sz (.slice (some ⟨b, 0, none⟩) len cap)) own σ w := by
 have le := MM.le_withHist (v := .slice (some ⟨b, 0, none⟩) len cap) hn
 refine ⟨h.below, h.cells, h.old, h.owned, ?_, ?_, ?_, ?_, h.mrk⟩
 ·intro i cs' hi
  by_cases e : i = id
  ·subst e
   rw [hσ] at hi
   cases hi
   refine ⟨b, vs, ty, k.box, k.base, k.own, k.none, k.blk, k.len, fun j d v a b => (k.rep j d v a b).mono le, fun sz' a len' cap' q => ?_⟩
   by_cases es : sz' = sz
   ·subst es
    simp only [MM.withHist, and_self, if_true, Option.some.injEq, Value.slice.injEq] at q
    rw [← q.2.2]; exact hc
   ·simp only [MM.withHist, es, and_false, if_false] at q
    exact k.room sz' a len' cap' q
  ·obtain ⟨b', vs', ty', k'⟩ := h.box i cs' hi
   exact ⟨b', vs', ty', k'.box, k'.base, k'.own, k'.none, k'.blk, k'.len, fun j d v a b => (k'.rep j d v a b).mono le, fun sz' a len' cap' q => k'.room sz' a len' cap' (by simpa [MM.withHist, e] using q)⟩
 ·intro i ver sz' hi
  by_cases e : i = id
  ·subst e; rw [hσ] at hi; cases hi
  ·obtain ⟨a, len', cap', k'⟩ := h.fam i ver sz' hi
   refine ⟨a, len', cap', le.hist _ _ _ k'.hist, ?_, ?_⟩
   ·intro v hv
    simp only [MM.withHist, e, false_and, if_false]
    exact k'.last v hv
   ·rcases k'.room with r | ⟨c, vs2, ty2, fz, ha, r⟩
    ·exact .inl r
    ·exact .inr ⟨c, vs2, ty2, fz, ha, r.base, r.own, r.blk, r.fz, r.cap, r.none⟩
 ·intro i F hi
  obtain ⟨b', ents, clock, q⟩ := h.mp i F hi
  exact ⟨b', ents, clock, q.box, q.base, q.own, q.none, q.blk, q.fits⟩
 ·intro i kk t ps ag bd hi
  obtain ⟨l, r, q⟩ := h.lp i kk t ps ag bd hi
  exact ⟨l, r, q.keep le q.own q.blk⟩
theorem WRel.moveBox {w0 : Base} {w : World} {M : MM} {own : Nat → Option Nat} {σ : Nat → Ob} (h : WRel w0 M own σ w) {id id' b : Nat} {cs cs' : List D} {vs vs' : Array Value} {ty : TypeId}
  (k : BoxOK w0 M own id cs w b vs ty) (hid : M.box id' = none) (hh : ∀ v, M.hist id' v = none) (hl : cs'.length ≤ vs'.size) (hr : ∀ (i : Nat) (d : D) (v : Value), cs'[i]? = some d → vs'[i]? = some v → Rep M d v) :
  WRel w0 (M.withBox id' b) (ownAt own b id') (upd (upd σ id .dead) id' (.box cs')) (putBlock w b (.cells vs' ty (0, 0))) := by
 have le := MM.le_withBox (b := b) hid
 have hne : ∀ {i c : Nat}, own c = some i → i ≠ id → c ≠ b := fun hi e ec => by rw [ec, k.own] at hi; exact e (Option.some.inj hi).symm
 have hown : ∀ {i c : Nat}, own c = some i → i ≠ id → ownAt own b id' c = some i := fun hi e => by simp [ownAt, hne hi e, hi]
 refine ⟨below_putBlock h.below k.base _, ?_, h.old, ?_, ?_, ?_, ?_, ?_, ?_⟩
 ·intro c o v hc
  have hc' : M.cell c o = some v := hc
  have : c ≠ b := fun e => by rw [e, k.none o] at hc'; cases hc'
  rw [cell?_putBlock_other this]
  exact h.cells c o v hc'
 ·intro c i hc
  rw [putBlock_size]
  by_cases e : c = b
  ·rw [e]; exact lt_of_heap k.blk
  ·simp only [ownAt, e, if_false] at hc; exact h.owned c i hc
 ·intro i cs2 hi
  by_cases e : i = id'
  ·subst e
   rw [upd_same] at hi
   cases hi
   exact ⟨b, vs', ty, by simp [MM.withBox], k.base, by simp [ownAt], k.none, putBlock_same k.blk, hl, fun j d v a b => (hr j d v a b).mono le, fun sz a len cap q => by have q' : M.hist i sz = _ := q; rw [hh] at q'; cases q'⟩
  ·rw [upd_other e] at hi
   by_cases e2 : i = id
   ·rw [e2, upd_same] at hi; cases hi
   ·rw [upd_other e2] at hi
    obtain ⟨c, vs2, ty2, k2⟩ := h.box i cs2 hi
    exact ⟨c, vs2, ty2, le.box _ _ k2.box, k2.base, hown k2.own e2, k2.none, by rw [putBlock_other (hne k2.own e2)]; exact k2.blk, k2.len, fun j d v a b => (k2.rep j d v a b).mono le, k2.room⟩
 ·intro i ver sz hi
  by_cases e : i = id'
  ·rw [e, upd_same] at hi; cases hi
  ·rw [upd_other e] at hi
   by_cases e2 : i = id
   ·rw [e2, upd_same] at hi; cases hi
   ·rw [upd_other e2] at hi
    obtain ⟨a, len, cap, k2⟩ := h.fam i ver sz hi
    refine ⟨a, len, cap, k2.hist, k2.last, ?_⟩
    rcases k2.room with r | ⟨c, vs2, ty2, fz, ha, r⟩
    ·exact .inl r
    ·exact .inr ⟨c, vs2, ty2, fz, ha, r.base, hown r.own e2, by rw [putBlock_other (hne r.own e2)]; exact r.blk, r.fz, r.cap, r.none⟩
 ·intro i F hi
  by_cases e : i = id'
  ·rw [e, upd_same] at hi; cases hi
  ·rw [upd_other e] at hi
   by_cases e2 : i = id
   ·rw [e2, upd_same] at hi; cases hi
   ·rw [upd_other e2] at hi
    obtain ⟨c, ents, clock, q⟩ := h.mp i F hi
    exact ⟨c, ents, clock, le.box _ _ q.box, q.base, hown q.own e2, q.none, by rw [putBlock_other (hne q.own e2)]; exact q.blk, q.fits⟩
 ·intro i k2 t ps ag bd hi
  by_cases e : i = id'
  ·rw [e, upd_same] at hi; cases hi
  ·rw [upd_other e] at hi
   by_cases e2 : i = id
   ·rw [e2, upd_same] at hi; cases hi
   ·rw [upd_other e2] at hi
    obtain ⟨l, r, q⟩ := h.lp i k2 t ps ag bd hi
    exact ⟨l, r, q.keep le (hown q.own e2) (by rw [putBlock_other (hne q.own e2)]; exact q.blk)⟩
 ·intro c hc
  have : c ≠ b := fun ec => by have h1 := (h.mrk c hc).2; rw [ec, k.blk] at h1; cases h1
  exact ⟨(h.mrk c hc).1, by rw [putBlock_other this]; exact (h.mrk c hc).2⟩
def MM.withMk (M : MM) (b : Nat) : MM := { M with mrk := fun c => M.mrk c ∨ c = b }
theorem MM.le_withMk (M : MM) (b : Nat) : M.Le (M.withMk b) := ⟨fun _ _ _ h => h, fun _ _ h => h, fun _ _ _ h => h, fun _ h => .inl h⟩
theorem WRel.newMk {w0 : Base} {w : World} {M : MM} {own : Nat → Option Nat} {σ : Nat → Ob} (h : WRel w0 M own σ w) : WRel w0 (M.withMk w.heap.size) own σ (w.alloc (.deferred (some []))) := by
 have le := M.le_withMk w.heap.size
 have hold : ∀ {b : Nat} {o : Obj}, w.heap[b]? = some o → (w.alloc (.deferred (some []))).heap[b]? = some o := fun {b o} hb => by
  rw [Below.heap_alloc _ _ _ (lt_of_heap hb), hb]
 refine ⟨h.below.alloc h.below.size _, ?_, h.old, ?_, ?_, ?_, ?_, ?_, ?_⟩
 ·intro b o v k
  rw [World.cell?_alloc_lt]
  ·exact h.cells b o v k
  ·exact World.block_lt_of_cell? w _ (h.cells b o v k)
 ·intro b i k
  rw [World.size_alloc]
  have := h.owned b i k
  omega
 ·intro i cs hi
  obtain ⟨b, vs, ty, k⟩ := h.box i cs hi
  exact ⟨b, vs, ty, k.box, k.base, k.own, k.none, hold k.blk, k.len, fun j d v a b => (k.rep j d v a b).mono le, k.room⟩
 ·intro i ver sz hi
  obtain ⟨a, len, cap, k⟩ := h.fam i ver sz hi
  refine ⟨a, len, cap, k.hist, k.last, ?_⟩
  rcases k.room with r | ⟨b, vs', ty', fz, ha, r⟩
  ·exact .inl r
  ·exact .inr ⟨b, vs', ty', fz, ha, r.base, r.own, hold r.blk, r.fz, r.cap, r.none⟩
 ·intro i F hi
  obtain ⟨b, ents, clock, q⟩ := h.mp i F hi
  exact ⟨b, ents, clock, q.box, q.base, q.own, q.none, hold q.blk, q.fits⟩
 ·intro i k t ps ag bd hi
  obtain ⟨l, r, q⟩ := h.lp i k t ps ag bd hi
  exact ⟨l, r, q.keep le q.own (hold q.blk)⟩
 ·rintro b (hb | rfl)
  ·exact ⟨(h.mrk b hb).1, hold (h.mrk b hb).2⟩
  ·refine ⟨h.below.size, ?_⟩
   show (w.heap.push _)[w.heap.size]? = _
   simp
theorem WRel.newLp {w0 : Base} {w : World} {M : MM} {own : Nat → Option Nat} {σ : Nat → Ob} (h : WRel w0 M own σ w) {id : Nat} (hid : M.box id = none) (hh : ∀ v, M.hist id v = none) {k : Lk} {t : List D} {r : Loop}
  (hst : r.state = k.state) (hpd : k ≠ .busy → r.pending = k.pend) (ht : RepL M t r.tmps) :
  WRel w0 (M.withBox id w.heap.size) (ownAt own w.heap.size id) (upd σ id (.lp k t r.params r.assign r.body)) (w.alloc (.loop r)) := by
 have le := MM.le_withBox (b := w.heap.size) hid
 have hold : ∀ {b : Nat} {o : Obj}, w.heap[b]? = some o → (w.alloc (.loop r)).heap[b]? = some o := fun {b o} hb => by
  rw [Below.heap_alloc _ _ _ (lt_of_heap hb), hb]
 have hown : ∀ {b i : Nat}, own b = some i → ownAt own w.heap.size id b = some i := fun {b i} k => by
  have := h.owned b i k
  simp [ownAt, show b ≠ w.heap.size by omega, k]
 refine ⟨h.below.alloc h.below.size _, ?_, h.old, ?_, ?_, ?_, ?_, ?_, ?_⟩
 ·intro b o v k
  have k' : M.cell b o = some v := k
  rw [World.cell?_alloc_lt]
  ·exact h.cells b o v k'
  ·exact World.block_lt_of_cell? w _ (h.cells b o v k')
 ·intro b i k
  rw [World.size_alloc]
  by_cases e : b = w.heap.size
  ·omega
  ·simp only [ownAt, e, if_false] at k
   have := h.owned b i k
   omega
 ·intro i cs hi
  by_cases e : i = id
  ·rw [e, upd_same] at hi; cases hi
  ·rw [upd_other e] at hi
   obtain ⟨b, vs, ty, k⟩ := h.box i cs hi
   exact ⟨b, vs, ty, le.box _ _ k.box, k.base, hown k.own, k.none, hold k.blk, k.len, fun j d v a b => (k.rep j d v a b).mono le, k.room⟩
 ·intro i ver sz hi
  by_cases e : i = id
  ·rw [e, upd_same] at hi; cases hi
  ·rw [upd_other e] at hi
   obtain ⟨a, len, cap, k⟩ := h.fam i ver sz hi
   refine ⟨a, len, cap, k.hist, k.last, ?_⟩
   rcases k.room with r | ⟨b, vs', ty', fz, ha, r⟩
   ·exact .inl r
   ·exact .inr ⟨b, vs', ty', fz, ha, r.base, hown r.own, hold r.blk, r.fz, r.cap, r.none⟩
 ·intro i F hi
  by_cases e : i = id
  ·rw [e, upd_same] at hi; cases hi
  ·rw [upd_other e] at hi
   obtain ⟨b, ents, clock, q⟩ := h.mp i F hi
   exact ⟨b, ents, clock, le.box _ _ q.box, q.base, hown q.own, q.none, hold q.blk, q.fits⟩
 ·intro i k2 t2 ps ag bd hi
  by_cases e : i = id
  ·subst e
   rw [upd_same] at hi
   cases hi
   refine ⟨w.heap.size, r, by simp [MM.withBox], h.below.size, by simp [ownAt], ?_, hst, hpd, ht.mono le, rfl, rfl, rfl⟩
   show (w.heap.push _)[w.heap.size]? = _
   simp
  ·rw [upd_other e] at hi
   obtain ⟨l, r', q⟩ := h.lp i k2 t2 ps ag bd hi
   exact ⟨l, r', q.keep le (hown q.own) (hold q.blk)⟩
 ·intro b hb
  exact ⟨(h.mrk b hb).1, hold (h.mrk b hb).2⟩
theorem WRel.setLp {w0 : Base} {w : World} {M : MM} {own : Nat → Option Nat} {σ : Nat → Ob} (h : WRel w0 M own σ w) {id l : Nat} {k k' : Lk} {t : List D} {ps : Array Nat} {ag bd : Code} {r r' : Loop}
  (q : LpOK w0 M own id k t ps ag bd w l r) (o' : Ob) (ho : o' = .dead ∨ (o' = .lp k' t ps ag bd ∧ r'.state = k'.state ∧ (k' ≠ .busy → r'.pending = k'.pend) ∧ r'.tmps = r.tmps ∧ r'.params = r.params ∧ r'.assign = r.assign ∧ r'.body = r.body)) :
  WRel w0 M own (upd σ id o') (putBlock w l (.loop r')) := by
 refine ⟨below_putBlock h.below q.base _, ?_, h.old, ?_, ?_, ?_, ?_, ?_, ?_⟩
 ·intro c o v hc
  have : c ≠ l := fun e => by
   have := h.cells c o v hc
   rw [e] at this
   simp [World.cell?, q.blk] at this
  rw [cell?_putBlock_other this]
  exact h.cells c o v hc
 ·intro c i hc; rw [putBlock_size]; exact h.owned c i hc
 ·intro i cs2 hi
  by_cases e : i = id
  ·rw [e, upd_same] at hi; rcases ho with rfl | ⟨rfl, _⟩ <;> cases hi
  ·rw [upd_other e] at hi
   obtain ⟨c, vs2, ty2, k2⟩ := h.box i cs2 hi
   have : c ≠ l := fun ec => by have h1 := k2.own; rw [ec, q.own] at h1; exact e (Option.some.inj h1).symm
   exact ⟨c, vs2, ty2, k2.box, k2.base, k2.own, k2.none, by rw [putBlock_other this]; exact k2.blk, k2.len, k2.rep, k2.room⟩
 ·intro i ver sz hi
  by_cases e : i = id
  ·rw [e, upd_same] at hi; rcases ho with rfl | ⟨rfl, _⟩ <;> cases hi
  ·rw [upd_other e] at hi
   obtain ⟨a, len, cap, k2⟩ := h.fam i ver sz hi
   refine ⟨a, len, cap, k2.hist, k2.last, ?_⟩
   rcases k2.room with r | ⟨c, vs2, ty2, fz, ha, r⟩
   ·exact .inl r
   ·have : c ≠ l := fun ec => by have h1 := r.own; rw [ec, q.own] at h1; exact e (Option.some.inj h1).symm
    exact .inr ⟨c, vs2, ty2, fz, ha, r.base, r.own, by rw [putBlock_other this]; exact r.blk, r.fz, r.cap, r.none⟩
 ·intro i F hi
  by_cases e : i = id
  ·rw [e, upd_same] at hi; rcases ho with rfl | ⟨rfl, _⟩ <;> cases hi
  ·rw [upd_other e] at hi
   obtain ⟨c, ents, clock, q2⟩ := h.mp i F hi
   have : c ≠ l := fun ec => by have h1 := q2.own; rw [ec, q.own] at h1; exact e (Option.some.inj h1).symm
   exact ⟨c, ents, clock, q2.box, q2.base, q2.own, q2.none, by rw [putBlock_other this]; exact q2.blk, q2.fits⟩
 ·intro i k2 t2 ps2 ag2 bd2 hi
  by_cases e : i = id
  ·subst e
   rw [upd_same] at hi
   rcases ho with rfl | ⟨rfl, hst, hpd, hr⟩
   ·cases hi
   cases hi
   exact ⟨l, r', q.box, q.base, q.own, putBlock_same q.blk, hst, hpd, by rw [hr.1]; exact q.tm, by rw [hr.2.1]; exact q.ps, by rw [hr.2.2.1]; exact q.ag, by rw [hr.2.2.2]; exact q.bd⟩
  ·rw [upd_other e] at hi
   obtain ⟨l2, r2, q2⟩ := h.lp i k2 t2 ps2 ag2 bd2 hi
   have : l2 ≠ l := fun ec => by have h1 := q2.own; rw [ec, q.own] at h1; exact e (Option.some.inj h1).symm
   exact ⟨l2, r2, q2.keep (.refl _) q2.own (by rw [putBlock_other this]; exact q2.blk)⟩
 ·intro c hc
  have : c ≠ l := fun ec => by have h1 := (h.mrk c hc).2; rw [ec, q.blk] at h1; cases h1
  exact ⟨(h.mrk c hc).1, by rw [putBlock_other this]; exact (h.mrk c hc).2⟩
def MM.takeMk (M : MM) (b : Nat) : MM := { M with mrk := fun c => M.mrk c ∧ c ≠ b }
theorem WRel.takeMk {w0 : Base} {w : World} {M : MM} {own : Nat → Option Nat} {σ : Nat → Ob} (h : WRel w0 M own σ w) {b : Nat} (hb : M.mrk b) : WRel w0 (M.takeMk b) own σ (putBlock w b (.deferred none)) := by
 obtain ⟨hbase, hblk⟩ := h.mrk b hb
 have rb : ∀ {d : D} {v : Value}, Rep M d v → Rep (M.takeMk b) d v := fun {d v} hr => hr.noMk
 refine ⟨below_putBlock h.below hbase _, ?_, h.old, ?_, ?_, ?_, ?_, ?_, ?_⟩
 ·intro c o v hc
  have : c ≠ b := fun e => by
   have := h.cells c o v hc
   rw [e] at this
   simp [World.cell?, hblk] at this
  rw [cell?_putBlock_other this]
  exact h.cells c o v hc
 ·intro c i hc; rw [putBlock_size]; exact h.owned c i hc
 ·intro i cs2 hi
  obtain ⟨c, vs2, ty2, k2⟩ := h.box i cs2 hi
  have : c ≠ b := fun ec => by have h1 := k2.blk; rw [ec, hblk] at h1; cases h1
  exact ⟨c, vs2, ty2, k2.box, k2.base, k2.own, k2.none, by rw [putBlock_other this]; exact k2.blk, k2.len, fun j d v p q => rb (k2.rep j d v p q), k2.room⟩
 ·intro i ver sz hi
  obtain ⟨a, len, cap, k2⟩ := h.fam i ver sz hi
  refine ⟨a, len, cap, k2.hist, k2.last, ?_⟩
  rcases k2.room with r | ⟨c, vs2, ty2, fz, ha, r⟩
  ·exact .inl r
  ·have : c ≠ b := fun ec => by have h1 := r.blk; rw [ec, hblk] at h1; cases h1
   exact .inr ⟨c, vs2, ty2, fz, ha, r.base, r.own, by rw [putBlock_other this]; exact r.blk, r.fz, r.cap, r.none⟩
 ·intro i F hi
  obtain ⟨c, ents, clock, q2⟩ := h.mp i F hi
  have : c ≠ b := fun ec => by have h1 := q2.blk; rw [ec, hblk] at h1; cases h1
  exact ⟨c, ents, clock, q2.box, q2.base, q2.own, q2.none, by rw [putBlock_other this]; exact q2.blk, q2.fits⟩
 ·intro i k2 t2 ps2 ag2 bd2 hi
  obtain ⟨l2, r2, q2⟩ := h.lp i k2 t2 ps2 ag2 bd2 hi
  have : l2 ≠ b := fun ec => by have h1 := q2.blk; rw [ec, hblk] at h1; cases h1
  exact ⟨l2, r2, q2.box, q2.base, q2.own, by rw [putBlock_other this]; exact q2.blk, q2.st, q2.pd, ⟨q2.tm.1, fun i d v p q => rb (q2.tm.2 i d v p q)⟩, q2.ps, q2.ag, q2.bd⟩
 ·rintro c ⟨hc, hne⟩
  exact ⟨(h.mrk c hc).1, by rw [putBlock_other hne]; exact (h.mrk c hc).2⟩
def Ent (P : Program) (f : FuncId) : Prop := ∃ fn c, P.funcs[f]? = some fn ∧ fn.body = some c ∧ (fn.name == "runtime.NumGoroutine") = false
def FreshRoom (B : Nat) (w : World) (C : Nat → Nat → Option Value) (sz : Nat) (a : Option Addr) (len cap : Nat) : Prop :=
  cap = len ∨ ∃ b vs ty fz, a = some ⟨b, 0, none⟩ ∧ B ≤ b ∧ w.heap[b]? = some (.cells vs ty fz) ∧ unfrozen fz vs.size ∧ cap * sz ≤ vs.size ∧ ∀ o, len * sz ≤ o → C b o = none
def FreshD (B : Nat) (w : World) (C : Nat → Nat → Option Value) (d : D) (v : Value) : Prop :=
  (∀ sz sz' xs, d = .lst (.fresh sz) sz' xs → ∃ a len cap, v = .slice a len cap ∧ sz' = sz ∧ FreshRoom B w C sz a len cap) ∧
  ∀ ds vs, d = .tup ds → v = .tuple vs → ∀ (i : Nat) (sz sz' : Nat) (xs : List D), ds[i]? = some (.lst (.fresh sz) sz' xs) → ∃ a len cap, vs[i]? = some (.slice a len cap) ∧ sz' = sz ∧ FreshRoom B w C sz a len cap
structure Ret (P : Program) (f : FuncId) (args : List D) (d : D) : Prop where
  ent : Ent P f
  run : ∀ (w : World) (C : Nat → Nat → Option Value) (vs : Array Value), (∀ b o v, C b o = some v → w.cell? ⟨b, o, none⟩ = some v) → RepL (bareOf C) args vs →
    Calls P f vs w fun e w' => ∃ v C', e = .returned v ∧ Ext (bareOf C) w (bareOf C') w' ∧ Rep (bareOf C') d v ∧ FreshD w.heap.size w' C' d v
def sameKind : IntKind → IntKind → Bool
  | .i8, .i8 | .i16, .i16 | .i32, .i32 | .i64, .i64 | .u8, .u8 | .u16, .u16 | .u32, .u32 | .u64, .u64 => true
  | _, _ => false
def LK.fits : LK → D → Bool
  | .bool, .bool _ => true
  | .int k, .int k' _ => sameKind k k'
  | .str, .str _ => true
  | _, _ => false
def fitsL : List LK → List D → Bool
  | [], [] => true
  | k :: ks, d :: ds => k.fits d && fitsL ks ds
  | _, _ => false
def eqCell : D → D → Bool
  | .bool a, .bool b => a == b
  | .int _ a, .int _ b => a == b
  | .str a, .str b => a.toList == b.toList
  | _, _ => false
def eqCells : List D → List D → Bool
  | [], [] => true
  | a :: x, b :: y => eqCell a b && eqCells x y
  | _, _ => false
def eqCellV : Value → Value → Bool
  | .bool a, .bool b => a == b
  | .int _ a, .int _ b => a == b
  | .string a, .string b => a.toList == b.toList
  | _, _ => false
def eqCellsV : List Value → List Value → Bool
  | [], [] => true
  | a :: x, b :: y => eqCellV a b && eqCellsV x y
  | _, _ => false
def findE (x : List Value) : List MapEntry → Nat → Option (Nat × Value)
  | [], _ => none
  | e :: es, i => match e.key with
    | .agg y => match eqCellsV x y.toList with | true => some (i, e.val) | false => findE x es (i + 1)
    | _ => none
def noStr : List LK → Bool
  | [] => true
  | .str :: _ => false
  | _ :: r => noStr r
structure FlatKey (P : Program) (t : TypeId) (ks : List LK) : Prop where
  nostr : noStr ks = true
  check : ∀ (w : World) (em : Bool) (xs : Array Value), fitsVL ks xs.toList → (Instr.checkKey em 10000 t (.agg xs)).run P w = .ok () w
  find : ∀ (w : World) (x : Array Value) (l : List MapEntry), fitsVL ks x.toList → (∀ e ∈ l, ∃ y : Array Value, e.key = .agg y ∧ fitsVL ks y.toList) → (Instr.findKey t (.agg x) l).run P w = .ok (findE x.toList l 0) w
structure FlatEq (P : Program) (t : TypeId) (ks : List LK) : Prop where
  plain : P.eqGuardType P.depth t = false
  eq : ∀ (xs ys : Array Value) (w : World), fitsVL ks xs.toList → fitsVL ks ys.toList → (Op.equalIn 10000 t (.agg xs) (.agg ys)).run P w = .ok (eqCellsV xs.toList ys.toList) w
inductive Ex where
  | norm
  | exit (id : Nat)
  | ret
def Ex.is : Ex → Exit → Prop
  | .norm, .normal => True
  | .exit i, .exit j => i = j
  | .ret, .ret => True
  | _, _ => False
def stAt (s : List Ob) : Nat → Ob := fun i => s.getD i .dead
def MM.upto (M : MM) (n : Nat) : Prop := (∀ id, n ≤ id → M.box id = none) ∧ ∀ id v, n ≤ id → M.hist id v = none
def FW (r : Option Nat) : Fence := { Fence.wide with round := r }
def DefsOK (K : Nat → Prop) (M : MM) (ds : List Deferred) : Prop := (∀ b, K b → M.mrk b) ∧ ∃ bs : List Nat, ds = bs.map (fun b => { target := .collected b, args := #[] }) ∧ bs.Nodup ∧ ∀ b ∈ bs, M.mrk b ∧ ¬ K b
theorem DefsOK.mono {K : Nat → Prop} {M M' : MM} {ds : List Deferred} (h : DefsOK K M ds) (le : ∀ b, M.mrk b → M'.mrk b) : DefsOK K M' ds :=
 let ⟨h0, bs, h1, h2, h3⟩ := h
 ⟨fun b k => le b (h0 b k), bs, h1, h2, fun b hb => ⟨le b (h3 b hb).1, (h3 b hb).2⟩⟩
structure CodeRunR (P : Program) (rd : Bool) (c : Code) (t : List D) (s : List Ob) (ex : Ex) (t' : List D) (s' : List Ob) : Prop where
  run : ∀ (r : Option Nat), (rd = false → r = none) → ∀ (K : Nat → Prop) (w0 : Base) (M : MM) (own : Nat → Option Nat) (w : World) (a : Act), WRel w0 M own (stAt s) w → M.upto s.length → RepL M t a.tmps → DefsOK K M a.defers →
    c.wpIn (FW r) 0 P (fun e a' w' => ex.is e ∧ ∃ M' own', WRel w0 M' own' (stAt s') w' ∧ M'.upto s'.length ∧ M.Le M' ∧ RepL M' t' a'.tmps ∧ DefsOK K M' a'.defers) a w
  len : s.length ≤ s'.length
abbrev CodeRun (P : Program) := CodeRunR P true
theorem CodeRunR.any {P : Program} {c : Code} {t : List D} {s : List Ob} {ex : Ex} {t' : List D} {s' : List Ob} (h : CodeRun P c t s ex t' s') (rd : Bool) : CodeRunR P rd c t s ex t' s' :=
 ⟨fun r _ => h.run r (fun e => by cases e), h.len⟩
def MM.cut (M : MM) (n : Nat) : MM := ⟨M.cell, fun i => if i < n then M.box i else none, fun i v => if i < n then M.hist i v else none, M.mrk⟩
structure LoopRun (P : Program) (n0 : Nat) (c : Code) (t : List D) (s : List Ob) (ex : Ex) (t' : List D) (s' : List Ob) : Prop where
  run : ∀ (r : Option Nat) (K : Nat → Prop) (w0 : Base) (M : MM) (own : Nat → Option Nat) (w : World) (a : Act), WRel w0 M own (stAt s) w → M.upto s.length → RepL M t a.tmps → DefsOK K M a.defers →
    c.wpIn (FW r) 0 P (fun e a' w' => ex.is e ∧ ∃ M' own', WRel w0 M' own' (stAt s') w' ∧ M'.upto s'.length ∧ (M.cut n0).Le M' ∧ RepL M' t' a'.tmps ∧ DefsOK K M' a'.defers) a w
  len : n0 ≤ s'.length
structure HS where
  keep : List Nat
  obs : List Nat
  fams : List (Nat × Nat)
def lookD : List (Int × D) → Int → Option D
  | [], _ => none
  | (a, d) :: r, n => match n == a with | true => some d | false => lookD r n
def updD : List (Int × D) → Int → D → List (Int × D)
  | [], n, v => [(n, v)]
  | (a, d) :: r, n, v => match n == a with | true => (n, v) :: r | false => (a, d) :: updD r n v
def lookF : List (List D × D) → List D → Option D
  | [], _ => none
  | (a, d) :: r, n => match eqCells n a with | true => some d | false => lookF r n
def updF : List (List D × D) → List D → D → List (List D × D)
  | [], n, v => [(n, v)]
  | (a, d) :: r, n, v => match eqCells n a with | true => (n, v) :: r | false => (a, d) :: updF r n v
def idxD : List (Int × D) → Int → Nat
  | [], _ => 0
  | (a, _) :: r, n => match n == a with | true => 0 | false => idxD r n + 1
def idxF : List (List D × D) → List D → Nat
  | [], _ => 0
  | (a, _) :: r, n => match eqCells n a with | true => 0 | false => idxF r n + 1
def setV {α : Type} : List (α × D) → Nat → D → List (α × D)
  | [], _, _ => []
  | (a, _) :: r, 0, v => (a, v) :: r
  | e :: r, i + 1, v => e :: setV r i v
def LK.same : LK → LK → Bool
  | .bool, .bool => true
  | .int k, .int k' => sameKind k k'
  | .str, .str => true
  | _, _ => false
def sameLs : List LK → List LK → Bool
  | [], [] => true
  | a :: x, b :: y => a.same b && sameLs x y
  | _, _ => false
structure CallRun (P : Program) (f : FuncId) (args : List D) (s : List Ob) (d : D) (s' : List Ob) : Prop where
  ent : Ent P f
  len : s.length ≤ s'.length
  run : ∀ (w0 : Base) (M : MM) (own : Nat → Option Nat) (w : World) (vs : Array Value), WRel w0 M own (stAt s) w → M.upto s.length → RepL M args vs →
    Calls P f vs w fun e w' => ∃ v M' own', e = .returned v ∧ WRel w0 M' own' (stAt s') w' ∧ M'.upto s'.length ∧ M.Le M' ∧ Rep M' d v
def cellsOfL : List D → Option (List D)
  | [] => some []
  | d :: r => match d.cells, cellsOfL r with
    | some c, some cs => some (c ++ cs)
    | _, _ => none
inductive Ev (P : Program) where
  | ret (g : FuncId) (as : List D) (d : D) (h : Ret P g as d)
  | inl
  | callR (g : FuncId) (ar : List D) (s : List Ob) (d : D) (s' : List Ob) (h : CallRun P g ar s d s')
  | tst (q v : Bool) (h : q = v)
  | len (n m : Nat) (h : n ≤ m)
  | get (l : List D) (i : Nat) (d : D) (h : l[i]? = some d)
  | getA (l : List D) (i n : Nat) (l' : List D) (h : (l.drop i).take n = l' ∧ i + n ≤ l.length)
  | putA (l : List D) (i : Nat) (xs l' : List D) (h : l.take i ++ (xs ++ l.drop (i + xs.length)) = l' ∧ i + xs.length ≤ l.length)
  | flat (t : TypeId) (ks : List LK) (h : FlatEq P t ks)
  | keep (l : List (Nat × Ob))
  | keepC (cs : List (Nat × Nat × D)) (l : List (Nat × Ob))
  | mget (es : List (Int × D)) (n : Int) (r : Option D) (h : lookD es n = r)
  | mkey (t : TypeId) (ks : List LK) (h : FlatKey P t ks)
  | mgetF (es : List (List D × D)) (n : List D) (r : Option D) (h : lookF es n = r)
  | code (c : Code) (t : List D) (s : List Ob) (ex : Ex) (t' : List D) (s' : List Ob) (h : CodeRun P c t s ex t' s')
  | go (n : Nat)
  | rng (keep : List Nat)
  | raw
  | cl (cs : List D) (h : ∀ c ∈ cs, c.clean = true)
  | cel (ys nc : List D) (h : cellsOfL ys = some nc)
  | head (sp : HS) (n0 : Nat) (c : Code) (t : List D) (s : List Ob) (ex : Ex) (t' : List D) (s' : List Ob) (h : LoopRun P n0 c t s ex t' s')
  | blk (sp : HS) (n0 : Nat) (c : Code) (t : List D) (s : List Ob) (ex : Ex) (t' : List D) (s' : List Ob) (h : LoopRun P n0 c t s ex t' s')
structure Z (P : Program) where
  o : List (Ev P)
  c : Prop
section
variable {ρ : Type} {P : Program}
def chk (b : Bool) (k : Option ρ) : Option ρ := match b with | true => k | false => none
def ask (z : Z P) (b : Bool) (k : Z P → Option ρ) : Option ρ :=
  match z.o with
  | .tst q true _ :: r => k ⟨r, (q = b) ∧ z.c⟩
  | _ => none
def askLen (z : Z P) (n : Nat) (m : Nat) (k : Z P → Option ρ) : Option ρ :=
  match z.o with
  | .len n' m' _ :: r => k ⟨r, (n' = n ∧ m' = m) ∧ z.c⟩
  | _ => none
def branch (z : Z P) (b : Bool) (k1 k2 : Z P → Option ρ) : Option ρ :=
  match z.o with
  | .tst q v _ :: r => match v with
    | true => k1 ⟨r, (q = b) ∧ z.c⟩
    | false => k2 ⟨r, (q = b) ∧ z.c⟩
  | _ => none
def askIf (z : Z P) (still : Bool) (b : Bool) (k : Z P → Option ρ) : Option ρ :=
  match still with
  | true => chk b (k z)
  | false => ask z b k
def pick (z : Z P) (l : List D) (i : Nat) (k : Z P → D → Option ρ) : Option ρ :=
  match z.o with
  | .get l' i' d _ :: r => k ⟨r, (l' = l ∧ i' = i) ∧ z.c⟩ d
  | _ => none
def flatc (z : Z P) (ys : List D) (k : Z P → List D → Option ρ) : Option ρ :=
  match z.o with
  | .cel ys' nc _ :: r => k ⟨r, (ys' = ys) ∧ z.c⟩ nc
  | _ => match cellsOfL ys with
    | some nc => k z nc
    | none => none
def flatn (z : Z P) (ys : List D) (k : Z P → List D → Option ρ) : Option ρ :=
  match z.o with
  | .cel ys' nc _ :: r => ask ⟨r, (ys' = ys) ∧ z.c⟩ (Nat.blt 0 ys.length) fun z => k z nc
  | _ => match cellsOfL ys with
    | some nc => chk (!ys.isEmpty) (k z nc)
    | none => none
def mgetc (z : Z P) (es : List (Int × D)) (n : Int) (k : Z P → Option D → Option ρ) : Option ρ :=
  match z.o with
  | .mget es' n' r _ :: rest => k ⟨rest, (es' = es ∧ n' = n) ∧ z.c⟩ r
  | _ => none
def mgetFc (z : Z P) (es : List (List D × D)) (n : List D) (k : Z P → Option D → Option ρ) : Option ρ :=
  match z.o with
  | .mgetF es' n' r _ :: rest => k ⟨rest, (es' = es ∧ n' = n) ∧ z.c⟩ r
  | _ => none
def mkeyc (z : Z P) (t : TypeId) (k : Z P → List LK → Option ρ) : Option ρ :=
  match z.o with
  | .mkey t' ks _ :: r => chk (Nat.beq t' t) (k ⟨r, z.c⟩ ks)
  | _ => none
def scalD : Value → Option D
  | .bool b => some (.bool b)
  | .int k n => some (.int k n)
  | .string s => some (.str s)
  | .pointer none => some .nilp
  | .slice none 0 0 => some (.lst .tight 0 [])
  | .nilFunc => some .nilf
  | _ => none
def scalL : List Value → Option (List D)
  | [] => some []
  | v :: r => match scalD v, scalL r with
    | some d, some l => some (d :: l)
    | _, _ => none
def zerL : List Value → List D
  | [] => []
  | v :: r => (match scalD v with | some d => d | none => .undef) :: zerL r
def valD : Value → D
  | .agg cs => .agg (zerL cs.toList)
  | v => match scalD v with | some d => d | none => .undef
def opnd (t : List D) : Operand → D
  | .tmp i => t.getD i .undef
  | .const v => valD v
  | .global _ => .undef
  | .func f => .fn (.func f) [] []
def isConst : Operand → Bool
  | .const _ => true
  | _ => false
def aggDesc : TypeDesc → Bool
  | .struct _ => true
  | .array _ _ => true
  | _ => false
def known (P : Program) (t : TypeId) : Bool := (P.info? t).isSome
def zeroD (P : Program) (t : TypeId) : Option D :=
  match P.info? t with
  | some i => match i.zero with | some v => some (valD v) | none => none
  | none => none
def hasZero (P : Program) (t : TypeId) : Bool :=
  match P.info? t with
  | some i => match i.zero with | some v => Nat.beq v.cells.size i.size | none => false
  | none => false
def partc (P : Program) (z : Z P) (dyn : Bool) (t : TypeId) (cs : List D) (off : Nat) (k : Z P → D → Option ρ) : Option ρ :=
  match P.underlying t with
  | none => none
  | some d => match aggDesc d with
    | true => chk (known P t) (match dyn with
      | false => chk (Nat.ble (off + P.cellsOf t) cs.length) (k z (.agg ((cs.drop off).take (P.cellsOf t))))
      | true => match z.o with
        | .getA l i n l' _ :: r => k ⟨r, (l = cs ∧ i = off ∧ n = P.cellsOf t) ∧ z.c⟩ (.agg l')
        | _ => none)
    | false => match dyn with
      | false => match cs[off]? with | some x => k z x | none => none
      | true => pick z cs off k
def splice (cs : List D) (off : Nat) (xs : List D) : List D := cs.take off ++ (xs ++ cs.drop (off + xs.length))
def plainc (x : D) (k : D → Option ρ) : Option ρ := match x.plain with | true => k x | false => chk x.clean (k x.demote)
def plainp (x : D) (k : D → Option ρ) : Option ρ := match x with
  | .ptr _ _ off => k (.eptr false (.agg []) off)
  | .eptr q y off => k (.eptr q y off)
  | x => plainc x k
def plainsc : List D → (List D → Option ρ) → Option ρ
  | [], k => k []
  | x :: r, k => plainp x fun y => plainsc r fun l => k (y :: l)
def fillD (place : Nat → Option (Nat × Nat)) (cells : List D) : List (Nat × D) → Option (List D)
  | [] => some cells
  | (i, v) :: rest => match place i, v.cells with
    | some (off, size), some vc => match Nat.beq vc.length size && Nat.ble (off + size) cells.length with
      | true => fillD place (splice cells off vc) rest
      | false => none
    | _, _ => none
def buildD (P : Program) (t : TypeId) (parts : List (Nat × D)) : Option D :=
  match zeroD P t with
  | none => none
  | some z => match z.cells with
    | none => none
    | some zero => match P.underlying t with
      | some (.struct fields) => match fields.toList.all fun f => known P f.type with
        | true => match fillD (fun i => ((fields[i]?).map fun f => (f.offset, P.cellsOf f.type))) zero parts with
          | some cs => some (.agg cs)
          | none => none
        | false => none
      | some (.array _ elem) => match known P elem with
        | true => match fillD (fun i => some (i * P.cellsOf elem, P.cellsOf elem)) zero parts with
          | some cs => some (.agg cs)
          | none => none
        | false => none
      | _ => none
def setParts (size : Nat) (xs : List D) : List (Nat × D) → (List D → Option ρ) → Option ρ
  | [], k => k xs
  | (i, v) :: rest, k => plainc v fun v' => match v'.cells with
    | some vc => chk (Nat.beq vc.length size && Nat.blt i xs.length && vc.all storable) (setParts size (xs.set i v') rest k)
    | none => none
def intBin (z : Z P) (still : Bool) (op : BinOp) (k : IntKind) (a b : Int) (K : Z P → D → Option ρ) : Option ρ :=
  match op with
  | .add => K z (.int k (k.wrap (a + b)))
  | .sub => K z (.int k (k.wrap (a - b)))
  | .mul => K z (.int k (k.wrap (a * b)))
  | .quo => askIf z still (decide (b ≠ 0)) fun z => K z (.int k (k.wrap (a.tdiv b)))
  | .rem => askIf z still (decide (b ≠ 0)) fun z => K z (.int k (a.tmod b))
  | .and => K z (.int k (k.wrap (BitVec.ofInt k.bits a &&& BitVec.ofInt k.bits b).toNat))
  | .or => K z (.int k (k.wrap (BitVec.ofInt k.bits a ||| BitVec.ofInt k.bits b).toNat))
  | .xor => K z (.int k (k.wrap (BitVec.ofInt k.bits a ^^^ BitVec.ofInt k.bits b).toNat))
  | .andNot => K z (.int k (k.wrap (BitVec.ofInt k.bits a &&& ~~~BitVec.ofInt k.bits b).toNat))
  | .eql => K z (.bool (a == b))
  | .neq => K z (.bool (a != b))
  | .lss => K z (.bool (decide (a < b)))
  | .leq => K z (.bool (decide (a ≤ b)))
  | .gtr => K z (.bool (decide (a > b)))
  | .geq => K z (.bool (decide (a ≥ b)))
  | _ => none
def eqc (P : Program) (z : Z P) (t : TypeId) (x y : D) (K : Z P → Bool → Option ρ) : Option ρ :=
  match x, y with
  | .bool a, .bool b => match P.underlying t with | some .bool => K z (a == b) | _ => none
  | .agg xs, .agg ys => match z.o with
    | .flat t' ks _ :: r => chk (Nat.beq t' t && (fitsL ks xs && fitsL ks ys)) (K ⟨r, z.c⟩ (eqCells xs ys))
    | _ => none
  | .nilf, .nilf => match P.underlying t with | some (.func _ _ _) => K z true | _ => none
  | .nilf, .fn _ _ _ => match P.underlying t with | some (.func _ _ _) => K z false | _ => none
  | .fn _ _ _, .nilf => match P.underlying t with | some (.func _ _ _) => K z false | _ => none
  | .nilp, .nilp => match P.underlying t with | some (.pointer _) => K z true | _ => none
  | .ptr _ _ _, .nilp => match P.underlying t with | some (.pointer _) => K z false | _ => none
  | .eptr _ _ _, .nilp => match P.underlying t with | some (.pointer _) => K z false | _ => none
  | _, _ => none
def binc (P : Program) (z : Z P) (still : Bool) (op : BinOp) (t : TypeId) (x y : D) (K : Z P → D → Option ρ) : Option ρ :=
  match x, y with
  | .int k a, .int k' b => match op with
    | .shl => askIf z still (decide (0 ≤ b)) fun z => K z (.int k (k.wrap (a * 2 ^ (min b.toNat k.bits))))
    | .shr => askIf z still (decide (0 ≤ b)) fun z => K z (.int k (a.fdiv (2 ^ (min b.toNat k.bits))))
    | op => chk (sameKind k k') (intBin z still op k a b K)
  | .str a, .str b => match op with
    | .eql => K z (.bool (a.toList == b.toList))
    | .neq => K z (.bool (!(a.toList == b.toList)))
    | _ => none
  | x, y => match op with
    | .eql => eqc P z t x y fun z b => K z (.bool b)
    | .neq => eqc P z t x y fun z b => K z (.bool (!b))
    | _ => none
def unc (op : UnOp) (x : D) (K : D → Option ρ) : Option ρ :=
  match op, x with
  | .neg, .int k n => K (.int k (k.wrap (0 - n)))
  | .xor, .int k n => K (.int k (k.wrap (BitVec.ofInt k.bits (if k.signed then -1 else k.max) ^^^ BitVec.ofInt k.bits n).toNat))
  | .not, .bool b => K (.bool !b)
  | _, _ => none
def isByte : D → Bool
  | .int .u8 _ => true
  | _ => false
def byteD (b : UInt8) : D := .int .u8 b.toNat
def byteOf : D → UInt8
  | .int _ n => UInt8.ofNat n.toNat
  | _ => 0
def bytesD (s : ByteArray) : List D := s.data.toList.map byteD
def strD (xs : List D) : ByteArray := ⟨(xs.map byteOf).toArray⟩
inductive Eff where
  | pure (d : D)
  | read (id : Nat) (o : Ob) (d : D)
  | readc (id j : Nat) (d : D)
  | upd (id : Nat) (o o' : Ob) (d : D)
  | new (o : Ob) (mk : Nat → D)
  | all (s : List Ob) (d : D)
def convc (P : Program) (z : Z P) (src dst : TypeId) (x : D) (K : Z P → Eff → Option ρ) : Option ρ :=
  match P.underlying src, P.underlying dst, x with
  | some _, some (.int k), .int _ n => K z (.pure (.int k (k.wrap n)))
  | some .string, some .string, .str s => K z (.pure (.str s))
  | some .string, some (.slice e), .str s => match P.underlying e with
    | some (.int .u8) => K z (.new (.fam 0 1) fun id => .lst (.tok id 0) 1 (bytesD s))
    | _ => none
  | some (.slice e), some .string, .lst _ _ xs => match P.underlying e with
    | some (.int .u8) => ask z (xs.all isByte) fun z => K z (.pure (.str (strD xs)))
    | _ => none
  | _, _, _ => none
def idx (x : D) (K : Int → Option ρ) : Option ρ := match x with | .int _ n => K n | _ => none
def optIdx (t : List D) (o : Option Operand) (K : Option Int → Option ρ) : Option ρ :=
  match o with
  | none => K none
  | some x => idx (opnd t x) fun n => K (some n)
def slicec (z : Z P) (o : Own) (sz : Nat) (xs : List D) (lo hi mx : Option Int) (K : Z P → D → Option ρ) : Option ρ :=
  match lo, hi, mx with
  | none, none, none => K z (.lst o.demote sz xs)
  | some l, none, none => ask z (decide (0 ≤ l ∧ l ≤ xs.length)) fun z => K z (.lst o.demote sz (xs.drop l.toNat))
  | none, some h, none => ask z (decide (0 ≤ h ∧ h ≤ xs.length)) fun z => K z (.lst .no sz (xs.take h.toNat))
  | some l, some h, none => ask z (decide (0 ≤ l ∧ l ≤ h ∧ h ≤ xs.length)) fun z => K z (.lst .no sz ((xs.take h.toNat).drop l.toNat))
  | none, some h, some m => ask z (decide (0 ≤ h ∧ h ≤ xs.length ∧ m = h)) fun z => K z (.lst .tight sz (xs.take h.toNat))
  | some l, some h, some m => ask z (decide (0 ≤ l ∧ l ≤ h ∧ h ≤ xs.length ∧ m = h)) fun z => K z (.lst .tight sz ((xs.take h.toNat).drop l.toNat))
  | _, _, _ => none
def subc (z : Z P) (id off sz n : Nat) (cp : Option Nat) (lo hi mx : Option Int) (K : Z P → D → Option ρ) : Option ρ :=
  match lo, hi, mx with
  | none, none, none => K z (.sub id off sz n cp)
  | some l, none, none => ask z (decide (0 ≤ l ∧ l ≤ n)) fun z => K z (.sub id (off + l.toNat * sz) sz (n - l.toNat) (cp.map (· - l.toNat)))
  | none, some h, none => ask z (decide (0 ≤ h ∧ h ≤ n)) fun z => K z (.sub id off sz h.toNat cp)
  | some l, some h, none => ask z (decide (0 ≤ l ∧ l ≤ h ∧ h ≤ n)) fun z => K z (.sub id (off + l.toNat * sz) sz (h.toNat - l.toNat) (cp.map (· - l.toNat)))
  | none, some h, some m => ask z (decide (0 ≤ h ∧ h ≤ m ∧ m ≤ n)) fun z => K z (.sub id off sz h.toNat (some m.toNat))
  | some l, some h, some m => ask z (decide (0 ≤ l ∧ l ≤ h ∧ h ≤ m ∧ m ≤ n)) fun z => K z (.sub id (off + l.toNat * sz) sz (h.toNat - l.toNat) (some (m.toNat - l.toNat)))
  | _, _, _ => none
def indexAddrc (P : Program) (z : Z P) (still : Bool) (t : TypeId) (x ix : D) (K : Z P → D → Option ρ) : Option ρ :=
  match ix with
  | .int _ i => match P.underlying t, x with
    | some (.array len elem), .ptr dyn id off => chk (known P elem) (askIf z still (decide (0 ≤ i ∧ i < len)) fun z => K z (.ptr (dyn || !still) id (off + i.toNat * P.cellsOf elem)))
    | some (.array len elem), .eptr dyn y off => chk (known P elem) (askIf z still (decide (0 ≤ i ∧ i < len)) fun z => K z (.eptr (dyn || !still) y (off + i.toNat * P.cellsOf elem)))
    | some (.slice elem), .lst _ sz xs => chk (known P elem && Nat.beq (P.cellsOf elem) sz) (askIf z still (decide (0 ≤ i)) fun z => pick z xs i.toNat fun z y => K z (.eptr false y 0))
    | some (.slice elem), .slc id sz n => chk (known P elem && Nat.beq (P.cellsOf elem) sz) (ask z (decide (0 ≤ i ∧ i < n)) fun z => K z (.ptr true id (i.toNat * sz)))
    | some (.slice elem), .sub id off sz n _ => chk (known P elem && Nat.beq (P.cellsOf elem) sz) (ask z (decide (0 ≤ i ∧ i < n)) fun z => K z (.ptr true id (off + i.toNat * sz)))
    | _, _ => none
  | _ => none
def indexc (P : Program) (z : Z P) (still : Bool) (t : TypeId) (x ix : D) (K : Z P → D → Option ρ) : Option ρ :=
  match ix with
  | .int _ i => match P.underlying t, x with
    | some (.array len elem), .agg cs => chk (known P elem) (askIf z still (decide (0 ≤ i ∧ i < len)) fun z => partc P z (!still) elem cs (i.toNat * P.cellsOf elem) K)
    | some .string, .str s => askIf z still (decide (0 ≤ i)) fun z => pick z (bytesD s) i.toNat K
    | _, _ => none
  | _ => none
def scalT (P : Program) (t : TypeId) : Bool := match P.underlying t with
  | some e => !aggDesc e
  | none => false
def loadc (P : Program) (z : Z P) (t : TypeId) (x : D) (s : List Ob) (K : Z P → Eff → Option ρ) : Option ρ :=
  match x with
  | .ptr dyn id off => match s.getD id .dead with
    | .box cs => partc P z dyn t cs off fun z d => K z (match dyn, scalT P t with
      | false, true => .readc id off d
      | _, _ => .read id (.box cs) d)
    | _ => none
  | .eptr dyn y off => match y.cells with
    | some cs => partc P z dyn t cs off fun z d => K z (.pure d)
    | none => none
  | _ => none
def storec (P : Program) (z : Z P) (t : TypeId) (x v : D) (s : List Ob) (K : Z P → Eff → Option ρ) : Option ρ :=
  match x with
  | .ptr dyn id off => match s.getD id .dead with
    | .box cs => match v.cells with
      | some vc => chk (known P t && Nat.beq vc.length (P.cellsOf t) && vc.all storable) (match dyn with
        | false => chk (Nat.ble (off + vc.length) cs.length) (K z (.upd id (.box cs) (.box (splice cs off vc)) .undef))
        | true => match z.o with
          | .putA l i xs l' _ :: r => K ⟨r, (l = cs ∧ i = off ∧ xs = vc) ∧ z.c⟩ (.upd id (.box cs) (.box l') .undef)
          | _ => none)
      | none => none
    | _ => none
  | _ => none
def fieldAddrc (P : Program) (s : TypeId) (x : D) (f : Nat) (K : D → Option ρ) : Option ρ :=
  match P.underlying s with
  | some (.struct fields) => match fields[f]? with
    | some fd => chk (known P fd.type && Nat.blt 0 (P.cellsOf fd.type)) (match x with
      | .ptr dyn id off => K (.ptr dyn id (off + fd.offset))
      | .eptr dyn y off => K (.eptr dyn y (off + fd.offset))
      | _ => none)
    | none => none
  | _ => none
def big : Nat := 2147483648
def okSz (sz : Nat) (xs : List D) (size : Nat) : Bool := Nat.beq sz size || xs.isEmpty
def thawc (P : Program) (z : Z P) (elem : TypeId) (id off sz n : Nat) (st : List Ob) (K : Z P → Eff → Option ρ) : Option ρ :=
  match st.getD id .dead with
  | .box cs => chk (hasZero P elem && Nat.beq sz (P.cellsOf elem) && Nat.ble (P.bytesOf elem) 65536)
    (askLen z n big fun z => match z.o with
      | .go _ :: r => match Nat.beq sz 1 with
        | true => (match r with
          | .getA l i k nc _ :: r => ask ⟨r, (l = cs ∧ i = off ∧ k = n * sz) ∧ z.c⟩ (nc.all isByte) fun z => K z (.all (st ++ [.fam 0 sz]) (.lst (.tok st.length 0) sz nc))
          | _ => none)
        | false => none
      | _ => ask z (Nat.blt 0 n) fun z => match z.o with
        | .getA l i k nc _ :: r => K ⟨r, (l = cs ∧ i = off ∧ k = n * sz) ∧ z.c⟩ (.all (st ++ [.box nc]) (.slc st.length sz n))
        | _ => none)
  | _ => none
def joinc (P : Program) (z : Z P) (elem : TypeId) (id off sz n c id2 off2 sz2 n2 : Nat) (st : List Ob) (K : Z P → Eff → Option ρ) : Option ρ :=
  match st.getD id .dead with
  | .box cs => chk (hasZero P elem && Nat.beq id id2 && Nat.beq off 0 && Nat.beq sz (P.cellsOf elem) && Nat.beq sz2 (P.cellsOf elem) && Nat.ble (P.bytesOf elem) 65536)
    (askLen z (n + n2) big fun z => ask z (Nat.beq c n) fun z => branch z (Nat.blt 0 (n + n2)) (fun z => match z.o with
      | .getA l i k nc _ :: .getA l2 i2 k2 nc2 _ :: r => K ⟨r, (l2 = cs ∧ i2 = off2 ∧ k2 = n2 * sz) ∧ ((l = cs ∧ i = 0 ∧ k = n * sz) ∧ z.c)⟩ (.all (st.set id .dead ++ [.box (nc ++ nc2)]) (.slc st.length sz (n + n2)))
      | _ => none) (fun z => K z (.pure (.lst .tight sz []))))
  | _ => none
def appendc (P : Program) (z : Z P) (ts : Array TypeId) (s x : D) (st : List Ob) (K : Z P → Eff → Option ρ) : Option ρ :=
  match ts.toList with
  | ty :: xt :: _ => match P.underlying ty, P.underlying xt with
    | some (.slice elem), some (.slice _) => match s, x with
      | .lst o sz xs, .lst _ sz' ys => match z.o with
        | .go 0 :: r => match o, xs with
          | .tight, [] => chk (hasZero P elem && okSz sz' ys (P.cellsOf elem) && Nat.ble (P.bytesOf elem) 65536)
            (askLen ⟨r, z.c⟩ ys.length big fun z => flatn z ys fun z nc => K z (.new (.box nc) fun id => .slc id (P.cellsOf elem) ys.length))
          | _, _ => none
        | .go (_ + 1) :: r => match ys with
          | [] => chk (hasZero P elem && okSz sz xs (P.cellsOf elem) && Nat.ble (P.bytesOf elem) 65536)
            (askLen ⟨r, z.c⟩ xs.length big fun z => K z (.pure (.lst o sz xs)))
          | _ => none
        | _ => chk (known P elem && hasZero P elem && okSz sz xs (P.cellsOf elem) && okSz sz' ys (P.cellsOf elem) && Nat.ble (P.bytesOf elem) 65536)
          (askLen z (xs.length + ys.length) big fun z => match o with
            | .tight => K z (.new (.fam 0 (P.cellsOf elem)) fun id => .lst (.tok id 0) (P.cellsOf elem) (xs ++ ys))
            | .tok t v => match st.getD t .dead with
              | .fam v' sz2 => chk (Nat.beq v' v && Nat.beq sz2 (P.cellsOf elem)) (K z (.upd t (.fam v' sz2) (.fam (v + 1) sz2) (.lst (.tok t (v + 1)) (P.cellsOf elem) (xs ++ ys))))
              | _ => none
            | _ => none)
      | .slc id sz n, .lst _ sz' ys => match st.getD id .dead with
        | .box cs => chk (hasZero P elem && Nat.beq sz (P.cellsOf elem) && okSz sz' ys (P.cellsOf elem) && Nat.ble (P.bytesOf elem) 65536)
            (askLen z (n + ys.length) big fun z => ask z (Nat.beq cs.length (n * P.cellsOf elem)) fun z => flatc z ys fun z nc => K z (.all (st.set id .dead ++ [.box (cs ++ nc)]) (.slc st.length sz (n + ys.length))))
        | _ => none
      | .lst .tight _ [], .slc id sz n => thawc P z elem id 0 sz n st K
      | .lst .tight _ [], .sub id off sz n _ => thawc P z elem id off sz n st K
      | .sub id off sz n (some c), .sub id2 off2 sz2 n2 _ => joinc P z elem id off sz n c id2 off2 sz2 n2 st K
      | _, _ => none
    | _, _ => none
  | _ => none
def boxRowc (z : Z P) (st : List Ob) (id off n size : Nat) (K : Z P → List D → Nat → Option ρ) : Option ρ :=
  match st.getD id .dead with
  | .box cs => match z.o with
    | .getA l i k nc _ :: r => K ⟨r, (l = cs ∧ i = off ∧ k = n * size) ∧ z.c⟩ nc n
    | _ => none
  | _ => none
def rowc (z : Z P) (st : List Ob) (x : D) (size : Nat) (K : Z P → List D → Nat → Option ρ) : Option ρ :=
  match x with
  | .lst _ sz ys => chk (okSz sz ys size) (flatc z ys fun z nc => K z nc ys.length)
  | .slc id sz n => chk (Nat.beq sz size) (boxRowc z st id 0 n size K)
  | .sub id off sz n _ => chk (Nat.beq sz size) (boxRowc z st id off n size K)
  | _ => none
def copyTo (z : Z P) (st : List Ob) (id off n : Nat) (src : D) (K : Z P → Eff → Option ρ) : Option ρ :=
  rowc z st src 1 fun z nc m => ask z (Nat.ble m n) fun z => ask z (nc.all isByte) fun z => match st.getD id .dead with
    | .box cs => match z.o with
      | .putA l i xs l' _ :: r => K ⟨r, (l = cs ∧ i = off ∧ xs = nc) ∧ z.c⟩ (.all (st.set id (.box l')) (.int .i64 m))
      | _ => none
    | _ => none
def copyc (P : Program) (z : Z P) (ts : Array TypeId) (dst src : D) (st : List Ob) (K : Z P → Eff → Option ρ) : Option ρ :=
  match ts.toList with
  | ty :: _ => match P.underlying ty with
    | some (.slice e) => chk (known P e && Nat.beq (P.cellsOf e) 1) (match dst with
      | .slc id sz n => chk (Nat.beq sz 1) (copyTo z st id 0 n src K)
      | .sub id off sz n _ => chk (Nat.beq sz 1) (copyTo z st id off n src K)
      | _ => none)
    | _ => none
  | _ => none
def lenc (P : Program) (t : TypeId) (x : D) (K : D → Option ρ) : Option ρ :=
  match P.underlying t, x with
  | some .string, .str s => K (.int .i64 s.size)
  | some (.array n _), _ => K (.int .i64 n)
  | some (.slice _), .lst _ _ xs => K (.int .i64 xs.length)
  | some (.slice _), .slc _ _ n => K (.int .i64 n)
  | some (.slice _), .sub _ _ _ n _ => K (.int .i64 n)
  | _, _ => none
def minc (x y : D) (K : D → Option ρ) : Option ρ :=
  match x, y with
  | .int k a, .int _ b => K (.int k (if b < a then b else a))
  | _, _ => none
def maxc (x y : D) (K : D → Option ρ) : Option ρ :=
  match x, y with
  | .int k a, .int _ b => K (.int k (if b > a then b else a))
  | _, _ => none
def isScal : D → Bool
  | .int _ _ => true
  | .bool _ => true
  | .str _ => true
  | _ => false
def mapKind (P : Program) (t : TypeId) : Option (IntKind × TypeId) := match P.underlying t with
  | some (.map kt et) => match P.underlying kt with
    | some (.int k) => some (k, et)
    | _ => none
  | _ => none
def mapKeyT (P : Program) (t : TypeId) : Option (TypeId × TypeId) := match P.underlying t with
  | some (.map kt et) => some (kt, et)
  | _ => none
def mapNewc (P : Program) (z : Z P) (t : TypeId) (K : Z P → Eff → Option ρ) : Option ρ :=
  match mapKind P t with
  | some (k, _) => K z (.new (.mp k []) fun id => .mapp id)
  | none => match mapKeyT P t with
    | some (kt, _) => mkeyc z kt fun z ks => K z (.new (.mf ks []) fun id => .mapp id)
    | none => none
def mapUpdc (P : Program) (z : Z P) (t : TypeId) (m k v : D) (s : List Ob) (K : Z P → Eff → Option ρ) : Option ρ :=
  match m, k with
  | .mapp id, .int q n => match s.getD id .dead, mapKind P t with
    | .mp q' es, some (q2, _) => chk (sameKind q q' && sameKind q q2 && isScal v) (K z (.upd id (.mp q' es) (.mp q' (updD es n v)) .undef))
    | _, _ => none
  | .mapp id, .agg cs => match s.getD id .dead, mapKeyT P t with
    | .mf ks es, some (kt, _) => mkeyc z kt fun z ks' => chk (sameLs ks' ks && fitsL ks cs && isScal v) (K z (.upd id (.mf ks es) (.mf ks (updF es cs v)) .undef))
    | _, _ => none
  | _, _ => none
def mapEntc (P : Program) (z : Z P) (t : TypeId) (m k : D) (s : List Ob) (K : Z P → Eff → Option ρ) : Option ρ :=
  match m, k with
  | .mapp id, .int q n => match s.getD id .dead, mapKind P t with
    | .mp q' es, some (q2, et) => match zeroD P et with
      | some zd => chk (sameKind q q' && sameKind q q2 && isScal zd) (mgetc z es n fun z r => match r with
        | some d => K z (.upd id (.mp q' es) (.mp q' es) (.tup [d, .int .i64 (idxD es n)]))
        | none => K z (.upd id (.mp q' es) (.mp q' (updD es n zd)) (.tup [zd, .int .i64 (idxD es n)])))
      | none => none
    | _, _ => none
  | .mapp id, .agg cs => match s.getD id .dead, mapKeyT P t with
    | .mf ks es, some (kt, et) => match zeroD P et with
      | some zd => mkeyc z kt fun z ks' => chk (sameLs ks' ks && fitsL ks cs && isScal zd) (mgetFc z es cs fun z r => match r with
        | some d => K z (.upd id (.mf ks es) (.mf ks es) (.tup [d, .int .i64 (idxF es cs)]))
        | none => K z (.upd id (.mf ks es) (.mf ks (updF es cs zd)) (.tup [zd, .int .i64 (idxF es cs)])))
      | none => none
    | _, _ => none
  | _, _ => none
def entStorec (P : Program) (z : Z P) (m n v : D) (s : List Ob) (K : Z P → Eff → Option ρ) : Option ρ :=
  match m, n with
  | .mapp id, .int _ j => match s.getD id .dead with
    | .mp q es => chk (isScal v) (ask z (decide (0 ≤ j) && Nat.blt j.toNat es.length) fun z => K z (.upd id (.mp q es) (.mp q (setV es j.toNat v)) .undef))
    | .mf ks es => chk (isScal v) (ask z (decide (0 ≤ j) && Nat.blt j.toNat es.length) fun z => K z (.upd id (.mf ks es) (.mf ks (setV es j.toNat v)) .undef))
    | _ => none
  | _, _ => none
def mapLookc (P : Program) (z : Z P) (t : TypeId) (m k : D) (ok : Bool) (s : List Ob) (K : Z P → Eff → Option ρ) : Option ρ :=
  match m, k with
  | .mapp id, .int q n => match s.getD id .dead, mapKind P t with
    | .mp q' es, some (q2, et) => match zeroD P et with
      | some zd => chk (sameKind q q' && sameKind q q2) (mgetc z es n fun z r => match r, ok with
        | some d, true => K z (.read id (.mp q' es) (.tup [d, .bool true]))
        | some d, false => K z (.read id (.mp q' es) d)
        | none, true => K z (.read id (.mp q' es) (.tup [zd, .bool false]))
        | none, false => K z (.read id (.mp q' es) zd))
      | none => none
    | _, _ => none
  | .mapp id, .agg cs => match s.getD id .dead, mapKeyT P t with
    | .mf ks es, some (kt, et) => match zeroD P et with
      | some zd => mkeyc z kt fun z ks' => chk (sameLs ks' ks && fitsL ks cs) (mgetFc z es cs fun z r => match r, ok with
        | some d, true => K z (.read id (.mf ks es) (.tup [d, .bool true]))
        | some d, false => K z (.read id (.mf ks es) d)
        | none, true => K z (.read id (.mf ks es) (.tup [zd, .bool false]))
        | none, false => K z (.read id (.mf ks es) zd))
      | none => none
    | _, _ => none
  | _, _ => none
def repD (n : Nat) : List D → List D
  | [d] => List.replicate n d
  | zc => (List.replicate n zc).flatten
def makec (P : Program) (z : Z P) (t : TypeId) (l c : D) (K : Z P → Eff → Option ρ) : Option ρ :=
  match P.underlying t, l, c with
  | some (.slice e), .int _ n, .int _ m => match zeroD P e with
    | some zd => match zd.cells with
      | some zc => match z.o with
        | .go 5 :: r => chk (known P e && Nat.beq zc.length (P.cellsOf e) && Nat.blt 0 zc.length && Nat.ble (P.bytesOf e) 65536 && zc.all storable)
          (ask ⟨r, z.c⟩ (decide (0 ≤ n ∧ n = m ∧ n ≤ 2147483648)) fun z => K z (.pure (.lst .tight (P.cellsOf e) (List.replicate n.toNat zd))))
        | _ => chk (known P e && Nat.beq zc.length (P.cellsOf e) && Nat.blt 0 zc.length && Nat.ble (P.bytesOf e) 65536)
          (ask z (decide (0 ≤ n ∧ n = m ∧ n ≤ 2147483648)) fun z => K z (.new (.box (repD n.toNat zc)) fun id => .slc id (P.cellsOf e) n.toNat))
      | none => none
    | none => none
  | _, _, _ => none
def adoptL (id : Nat) : List D → Option (List D × Nat)
  | [] => none
  | .lst (.fresh sz) sz' xs :: r => some (.lst (.tok id 0) sz' xs :: r.map D.demote, sz)
  | d :: r => match adoptL id r with
    | some (l, sz) => some (d :: l, sz)
    | none => none
def adopt (id : Nat) (d : D) : D × Ob :=
  match d with
  | .lst (.fresh sz) sz' xs => (.lst (.tok id 0) sz' xs, .fam 0 sz)
  | .tup ds => match adoptL id ds with
    | some (l, sz) => (.tup l, .fam 0 sz)
    | none => (.tup ds, .dead)
  | d => (d, .dead)
mutual
def force : D → (D → Option ρ) → Option ρ
  | .undef, K => K .undef
  | .int k n, K => K (.int k n)
  | .bool b, K => K (.bool b)
  | .str s, K => K (.str s)
  | .nilp, K => K .nilp
  | .ptr dyn id off, K => K (.ptr dyn id off)
  | .eptr dyn x off, K => K (.eptr dyn x off)
  | .mapp id, K => K (.mapp id)
  | .yld id, K => K (.yld id)
  | .slc id sz n, K => K (.slc id sz n)
  | .sub id off sz n cp, K => K (.sub id off sz n cp)
  | .lst o sz xs, K => K (.lst o sz xs)
  | .nilf, K => K .nilf
  | .fn f a b, K => forceL a fun a' => forceL b fun b' => K (.fn f a' b')
  | .agg cs, K => forceL cs fun l => K (.agg l)
  | .tup cs, K => forceL cs fun l => K (.tup l)
def forceL : List D → (List D → Option ρ) → Option ρ
  | [], K => K []
  | d :: r, K => force d fun d' => forceL r fun l => K (d' :: l)
end
def setc : List D → Nat → D → (List D → Option ρ) → Option ρ
  | [], _, _, K => K []
  | _ :: r, 0, d, K => K (d :: r)
  | a :: r, i + 1, d, K => setc r i d fun l => K (a :: l)
def put (t : List D) (dst : Option Nat) (d : D) : List D := match dst with | some i => t.set i d | none => t
def putc (t : List D) (dst : Option Nat) (d : D) (K : List D → Option ρ) : Option ρ := match dst with
  | some i => force d fun d' => setc t i d' K
  | none => K t
def setOb : List Ob → Nat → Ob → (List Ob → Option ρ) → Option ρ
  | [], _, _, K => K []
  | _ :: r, 0, d, K => K (d :: r)
  | a :: r, i + 1, d, K => setOb r i d fun l => K (a :: l)
def forceEs : List (List D × D) → (List (List D × D) → Option ρ) → Option ρ
  | [], K => K []
  | e :: r, K => forceL e.1 fun n => force e.2 fun d => forceEs r fun l => K ((n, d) :: l)
def forceOb : Ob → (Ob → Option ρ) → Option ρ
  | .dead, K => K .dead
  | .box cs, K => forceL cs fun l => K (.box l)
  | .fam v sz, K => K (.fam v sz)
  | .mp k es, K => K (.mp k es)
  | .mf ks es, K => forceEs es fun l => K (.mf ks l)
  | .lp k t ps ag bd, K => forceL t fun l => K (.lp k l ps ag bd)
def forceQ (z : Z P) (o : Ob) (k : Z P → Ob → Option ρ) : Option ρ := match z.o with
  | .raw :: r => k ⟨r, z.c⟩ o
  | _ => forceOb o fun o2 => k z o2
def pushOb : List Ob → Ob → (List Ob → Option ρ) → Option ρ
  | [], o, K => K [o]
  | a :: r, o, K => pushOb r o fun l => K (a :: l)
inductive Tg where
  | fn (f : FuncId)
  | yl (id : Nat)
abbrev Inl (P : Program) (ρ : Type) := Tg → List D → List Ob → Z P → (D → List Ob → Z P → Option ρ) → Option ρ
def frzc (z : Z P) (d : D) (s : List Ob) (K : Z P → Eff → Option ρ) : Option ρ :=
  match z.o with
  | .go 777777 :: r => match d with
    | .slc id sz n => match s.getD id .dead with
      | .box cs => chk (Nat.beq sz 1) (ask ⟨r, z.c⟩ (Nat.beq cs.length n && cs.all isByte) fun z => K z (.all (s.set id .dead) (.lst .no 1 cs)))
      | _ => none
    | _ => none
  | _ => K z (.all s d)
def calleec (P : Program) (inl : Inl P ρ) (g : FuncId) (args : List D) (s : List Ob) (z : Z P) (K : Z P → Eff → Option ρ) : Option ρ :=
  match z.o with
  | .inl :: r => inl (.fn g) args s ⟨r, z.c⟩ fun d s' z => frzc z d s' K
  | .callR g' ar s1 d s1' _ :: r => chk (Nat.beq g' g) (K ⟨r, (ar = args ∧ s1 = s) ∧ z.c⟩ (.all s1' d))
  | .ret g' as d _ :: r => chk (Nat.beq g' g) (plainsc args fun as' => K ⟨r, (as = as') ∧ z.c⟩ (.new (adopt 0 d).2 fun id => (adopt id d).1))
  | _ => none
def yldc (P : Program) (inl : Inl P ρ) (id : Nat) (args : List D) (s : List Ob) (z : Z P) (K : Z P → Eff → Option ρ) : Option ρ :=
  match z.o with
  | .inl :: r => inl (.yl id) args s ⟨r, z.c⟩ fun d s' z => K z (.all s' d)
  | _ => none
def opc (P : Program) (inl : Inl P ρ) (o : Oper) (t : List D) (s : List Ob) (z : Z P) (K : Z P → Eff → Option ρ) : Option ρ :=
  match o.op with
  | .move x => K z (.pure (opnd t x))
  | .assign x => K z (.pure (opnd t x))
  | .pick c a b => match opnd t c with
    | .bool q => branch z q (fun z => K z (.pure (opnd t a))) (fun z => K z (.pure (opnd t b)))
    | _ => none
  | .box _ x => match (opnd t x).cells with
    | some cs => K z (.new (.box cs) fun id => .ptr false id 0)
    | none => none
  | .alloc e => match zeroD P e with
    | some d => match d.cells with
      | some cs => K z (.new (.box cs) fun id => .ptr false id 0)
      | none => none
    | none => none
  | .build ty parts => match buildD P ty (parts.toList.map fun p => (p.1, opnd t p.2)) with
    | some d => K z (.pure d)
    | none => none
  | .buildSlice ty len parts => match P.underlying ty with
    | some (.slice e) => match zeroD P e with
      | some d => match d.cells with
        | some zc => chk (known P e && Nat.beq zc.length (P.cellsOf e) && Nat.ble (len * P.cellsOf e) 16777216 && d.plain && zc.all storable)
            (setParts (P.cellsOf e) (List.replicate len d) (parts.toList.map fun p => (p.1, opnd t p.2)) fun xs => K z (.pure (.lst .tight (P.cellsOf e) xs)))
        | none => none
      | none => none
    | _ => none
  | .load ty a => loadc P z ty (opnd t a) s K
  | .store ty a x => storec P z ty (opnd t a) (opnd t x) s K
  | .nilCheck x => match opnd t x with
    | .ptr dyn id off => K z (.pure (.ptr dyn id off))
    | .eptr dyn y off => K z (.pure (.eptr dyn y off))
    | .fn (.func g) a b => K z (.pure (.fn (.func g) a b))
    | _ => none
  | .binOp op ty x y _ => binc P z (isConst y) op ty (opnd t x) (opnd t y) fun z d => K z (.pure d)
  | .unOp op _ x => unc op (opnd t x) fun d => K z (.pure d)
  | .convert src dst x => convc P z src dst (opnd t x) K
  | .makeFunc f first cap => K z (.pure (.fn f (first.toList.map (opnd t)) (cap.toList.map (opnd t))))
  | .slice ty x lo hi mx => match P.underlying ty, opnd t x with
    | some (.slice e), .lst o' sz xs => chk (known P e && Nat.beq (P.cellsOf e) sz) (optIdx t lo fun l => optIdx t hi fun h => optIdx t mx fun m => slicec z o' sz xs l h m fun z d => K z (.pure d))
    | some (.slice e), .slc id sz n => chk (known P e && Nat.beq (P.cellsOf e) sz) (optIdx t lo fun l => optIdx t hi fun h => optIdx t mx fun m => subc z id 0 sz n none l h m fun z d => K z (.pure d))
    | some (.slice e), .sub id off sz n cp => chk (known P e && Nat.beq (P.cellsOf e) sz) (optIdx t lo fun l => optIdx t hi fun h => optIdx t mx fun m => subc z id off sz n cp l h m fun z d => K z (.pure d))
    | some (.array n e), .ptr _ id off => chk (known P e) (optIdx t lo fun l => optIdx t hi fun h => optIdx t mx fun m => subc z id off (P.cellsOf e) n (some n) l h m fun z d => K z (.pure d))
    | _, _ => none
  | .fieldAddr ty x f => fieldAddrc P ty (opnd t x) f fun d => K z (.pure d)
  | .field ty x f => match P.underlying ty, opnd t x with
    | some (.struct fields), .agg cs => match fields[f]? with
      | some fd => partc P z false fd.type cs fd.offset fun z d => K z (.pure d)
      | none => none
    | _, _ => none
  | .indexAddr ty x ix => indexAddrc P z (isConst ix) ty (opnd t x) (opnd t ix) fun z d => K z (.pure d)
  | .index ty x ix => indexc P z (isConst ix) ty (opnd t x) (opnd t ix) fun z d => K z (.pure d)
  | .extract x i => match opnd t x with
    | .tup ds => match ds[i]? with
      | some d => K z (.pure d)
      | none => none
    | _ => none
  | .call c => match c.callee with
    | .builtin .len => match c.args.toList, c.argTypes.toList with
      | x :: _, ty :: _ => lenc P ty (opnd t x) fun d => K z (.pure d)
      | _, _ => none
    | .builtin .append => match c.args.toList with
      | x :: y :: _ => appendc P z c.argTypes (opnd t x) (opnd t y) s K
      | _ => none
    | .builtin .min => match c.args.toList with
      | [x, y] => minc (opnd t x) (opnd t y) fun d => K z (.pure d)
      | _ => none
    | .builtin .max => match c.args.toList with
      | [x, y] => maxc (opnd t x) (opnd t y) fun d => K z (.pure d)
      | _ => none
    | .builtin .copy => match c.args.toList with
      | x :: y :: _ => copyc P z c.argTypes (opnd t x) (opnd t y) s K
      | _ => none
    | .value f => match opnd t f with
      | .fn (.func g) first cap => calleec P inl g (first ++ (c.args.toList.map (opnd t) ++ cap)) s z K
      | .yld id => yldc P inl id (c.args.toList.map (opnd t)) s z K
      | _ => none
    | _ => none
  | .makeMap ty r => match r with
    | none => mapNewc P z ty K
    | some x => idx (opnd t x) fun _ => mapNewc P z ty K
  | .insert ty m k v => mapUpdc P z ty (opnd t m) (opnd t k) (opnd t v) s K
  | .mapUpdate ty m k v => mapUpdc P z ty (opnd t m) (opnd t k) (opnd t v) s K
  | .lookup ty m k ok => mapLookc P z ty (opnd t m) (opnd t k) ok s K
  | .mapEntry ty m k => mapEntc P z ty (opnd t m) (opnd t k) s K
  | .entryStore _ m n v => entStorec P z (opnd t m) (opnd t n) (opnd t v) s K
  | .makeSlice ty l c => makec P z ty (opnd t l) (opnd t c) K
  | _ => none
def guardVal (ops : Array Oper) (t : List D) (j : Nat) : D := match ops[j]? with
  | some o => match o.dst with | some i => t.getD i .undef | none => .undef
  | none => .undef
def memN (i : Nat) : List Nat → Bool
  | [] => false
  | a :: r => match Nat.beq a i with | true => true | false => memN i r
inductive FP where
  | non
  | rd (id : Nat)
  | rdc (id j : Nat)
  | wr (id : Nat)
  | nw (id : Nat)
  | all (l : List Nat) (kc : List (Nat × Nat))
def keepP (s s' : List Ob) : List (Nat × Ob) → Prop → Prop
  | [], c => c
  | (i, o) :: r, c => keepP s s' r ((o = s.getD i .dead ∧ o = s'.getD i .dead) ∧ c)
def keepIds : List (Nat × Ob) → List Nat
  | [] => []
  | (i, _) :: r => i :: keepIds r
def cellAt : Ob → Nat → Option D
  | .box cs, j => cs[j]?
  | _, _ => none
def cellP (s s' : List Ob) : List (Nat × Nat × D) → Prop → Prop
  | [], c => c
  | (i, j, d) :: r, c => cellP s s' r ((some d = cellAt (s.getD i .dead) j ∧ some d = cellAt (s'.getD i .dead) j) ∧ c)
def cellIds : List (Nat × Nat × D) → List (Nat × Nat)
  | [] => []
  | (i, j, _) :: r => (i, j) :: cellIds r
def memC (i j : Nat) : List (Nat × Nat) → Bool
  | [] => false
  | (a, b) :: r => match Nat.beq a i, Nat.beq b j with | true, true => true | _, _ => memC i j r
def keepLt (n : Nat) : List (Nat × Ob) → Bool
  | [] => true
  | (i, _) :: r => match Nat.blt i n with | true => keepLt n r | false => false
def keepc (z : Z P) (s s' : List Ob) (k : Z P → List Nat → List (Nat × Nat) → Option ρ) : Option ρ :=
  match z.o with
  | .keep l :: r => chk (keepLt s.length l) (k ⟨r, keepP s s' l z.c⟩ (keepIds l) [])
  | .keepC cs l :: r => chk (keepLt s.length l) (k ⟨r, cellP s s' cs (keepP s s' l z.c)⟩ (keepIds l) (cellIds cs))
  | _ => k z [] []
def opsc (P : Program) (inl : Inl P ρ) (ops : Array Oper) : List Oper → List D → List Ob → List FP → Z P → (List D → List Ob → List FP → Z P → Option ρ) → Option ρ
  | [], t, s, fps, z, K => K t s fps z
  | o :: rest, t, s, fps, z, K =>
    let run := fun z => opc P inl o t s z fun z e => match e with
      | .pure d => putc t o.dst d fun t' => opsc P inl ops rest t' s (.non :: fps) z K
      | .read id _ d => putc t o.dst d fun t' => opsc P inl ops rest t' s (.rd id :: fps) z K
      | .readc id j d => putc t o.dst d fun t' => opsc P inl ops rest t' s (.rdc id j :: fps) z K
      | .upd id _ o' d => putc t o.dst d fun t' => forceQ z o' fun z o2 => setOb s id o2 fun s' => opsc P inl ops rest t' s' (.wr id :: fps) z K
      | .new o' mk => putc t o.dst (mk s.length) fun t' => forceQ z o' fun z o2 => pushOb s o2 fun s' => opsc P inl ops rest t' s' (.nw s.length :: fps) z K
      | .all s' d => putc t o.dst d fun t' => keepc z s s' fun z l kc => opsc P inl ops rest t' s' (.all l kc :: fps) z K
    match o.guard with
    | none => run z
    | some (j, want) => match guardVal ops t j with
      | .bool b => branch z (b == want) run (fun z => putc t o.dst (.tup []) fun t' => opsc P inl ops rest t' s (.non :: fps) z K)
      | .tup [] => putc t o.dst (.tup []) fun t' => opsc P inl ops rest t' s (.non :: fps) z K
      | _ => none
def aheads : List Oper → List Nat → List Nat
  | [], acc => acc
  | o :: rest, acc => aheads rest (acc ++ [o.after.toList.foldl (fun m e => match Region.binds .any e with | true => m ||| (1 <<< e.on) ||| acc.getD e.on 0 | false => m) 0])
def clash : FP → FP → Bool
  | .non, _ => false
  | _, .non => false
  | .all l _, .rd i => !memN i l
  | .rd i, .all l _ => !memN i l
  | .all l kc, .rdc i j => !memN i l && !memC i j kc
  | .rdc i j, .all l kc => !memN i l && !memC i j kc
  | .all _ _, _ => true
  | _, .all _ _ => true
  | .rd _, .rd _ => false
  | .rd _, .rdc _ _ => false
  | .rdc _ _, .rd _ => false
  | .rdc _ _, .rdc _ _ => false
  | .rdc i _, .wr j => Nat.beq i j
  | .rdc i _, .nw j => Nat.beq i j
  | .wr i, .rdc j _ => Nat.beq i j
  | .nw i, .rdc j _ => Nat.beq i j
  | .rd i, .wr j => Nat.beq i j
  | .rd i, .nw j => Nat.beq i j
  | .wr i, .rd j => Nat.beq i j
  | .wr i, .wr j => Nat.beq i j
  | .wr i, .nw j => Nat.beq i j
  | .nw i, .rd j => Nat.beq i j
  | .nw i, .wr j => Nat.beq i j
  | .nw i, .nw j => Nat.beq i j
def tmpsOf (xs : List Operand) : List Nat := xs.filterMap fun x => match x with | .tmp i => some i | _ => none
def looks (ops : Array Oper) (o : Oper) : List Nat :=
  tmpsOf o.op.operands.toList ++ (match o.guard with
    | some (j, _) => match ops[j]? with
      | some q => q.dst.toList
      | none => []
    | none => [])
def share (ops : Array Oper) (x y : Oper) : Bool :=
  (match x.dst with | some d => (looks ops y).contains d || y.dst == some d | none => false) || (match y.dst with | some d => (looks ops x).contains d | none => false)
def drawOK (ops : Array Oper) (fps : List FP) : Bool :=
  let l := ops.toList
  let ah := aheads l []
  let f := fps.reverse
  (Nat.beq f.length l.length) &&
  (List.range l.length).all fun j =>
    (match l[j]? with
     | some o => o.after.all fun e => !Region.binds .any e || Nat.blt e.on j
     | none => false) &&
    (List.range j).all fun i => (ah.getD j 0).testBit i ||
      (match l[i]?, l[j]? with
       | some x, some y => !share ops x y
       | _, _ => false) && !clash (f.getD i (.all [] [])) (f.getD j (.all [] []))
mutual
def idsB (n : Nat) : D → Bool
  | .ptr _ id _ => Nat.blt id n
  | .mapp id => Nat.blt id n
  | .yld id => Nat.blt id n
  | .slc id _ _ => Nat.blt id n
  | .sub id _ _ _ _ => Nat.blt id n
  | .lst (.tok id _) _ _ => Nat.blt id n
  | .fn _ a b => idsBL n a && idsBL n b
  | .agg cs => idsBL n cs
  | .tup cs => idsBL n cs
  | _ => true
def idsBL (n : Nat) : List D → Bool
  | [] => true
  | d :: r => idsB n d && idsBL n r
end
def cellK : Nat := 1000000
def rootD (t : List D) (s : List Ob) (k : Nat) : D := match Nat.ble cellK k with
  | false => t.getD k .undef
  | true => match s.getD ((k - cellK) / 1000) .dead with
    | .box cs => cs.getD ((k - cellK) % 1000) .undef
    | _ => .undef
def growc (s : List Ob) (size id : Nat) (d : D) : Option (D × Option Nat × Ob) :=
  match d with
  | .lst .tight sz xs => match okSz sz xs size with
    | true => some (.lst (.tok id 0) size xs, none, .fam 0 size)
    | false => none
  | .lst (.tok i v) sz xs => match s.getD i .dead with
    | .fam v' sz2 => match Nat.beq v' v && (Nat.beq sz2 size && okSz sz xs size) with
      | true => some (.lst (.tok id 0) size xs, some i, .fam 0 size)
      | false => none
    | _ => none
  | .slc i sz n => match s.getD i .dead with
    | .box cs => match Nat.beq sz size with
      | true => some (.slc id sz n, some i, .box (cs.map D.demote))
      | false => none
    | _ => none
  | _ => none
def growL (t : List D) (s : List Ob) : List (Nat × Nat) → Nat → Option (List (Option Nat) × List Ob)
  | [], _ => some ([], [])
  | (k, size) :: r, id => match growc s size id (rootD t s k), growL t s r (id + 1) with
    | some (_, o, ob), some (l, obs) => some (o :: l, ob :: obs)
    | _, _ => none
def findF (i : Nat) : List (Nat × Nat) → Nat → Option (Nat × Nat)
  | [], _ => none
  | (k, size) :: r, id => match Nat.beq k i with | true => some (id, size) | false => findF i r (id + 1)
def findS (i : Nat) (fs : List (Nat × Nat)) (n0 : Nat) : Option (Nat × Nat) := match Nat.ble cellK i with | true => none | false => findF i fs n0
def findC (i j : Nat) (fs : List (Nat × Nat)) (n0 : Nat) : Option (Nat × Nat) := match Nat.blt j 1000 with | true => findF (cellK + i * 1000 + j) fs n0 | false => none
def slotc (sp : HS) (n0 : Nat) (s : List Ob) (i : Nat) (d : D) : Option D :=
  match findS i sp.fams n0 with
  | some (id, size) => match growc s size id d with | some (d', _) => some d' | none => none
  | none => match memN i sp.keep with
    | true => match idsB n0 d with | true => some d | false => none
    | false => some .undef
def slotsc (sp : HS) (n0 : Nat) (s : List Ob) : Nat → List D → Option (List D)
  | _, [] => some []
  | i, d :: r => match slotc sp n0 s i d, slotsc sp n0 s (i + 1) r with
    | some d', some l => some (d' :: l)
    | _, _ => none
def hasO (i : Nat) : List (Option Nat) → Bool
  | [] => false
  | none :: r => hasO i r
  | some a :: r => match Nat.beq a i with | true => true | false => hasO i r
def distO : List (Option Nat) → Bool
  | [] => true
  | none :: r => distO r
  | some a :: r => !hasO a r && distO r
def cellsc (sp : HS) (n0 : Nat) (s : List Ob) (i : Nat) : Nat → List D → Option (List D)
  | _, [] => some []
  | j, d :: r => match (match findC i j sp.fams n0 with
      | some (id, size) => (match growc s size id d with | some (d', _) => some d' | none => none)
      | none => (match idsB n0 d with | true => some d | false => none)), cellsc sp n0 s i (j + 1) r with
    | some d', some l => some (d' :: l)
    | _, _ => none
def obc (sp : HS) (n0 : Nat) (s : List Ob) (used : List (Option Nat)) (i : Nat) (o : Ob) : Option Ob :=
  match memN (cellK + i) sp.obs && !hasO i used with
  | true => match o with
    | .box cs => some (.box (cs.map D.demote))
    | _ => none
  | false => match memN i sp.obs && !hasO i used with
    | false => some .dead
    | true => match o with
      | .box cs => match cellsc sp n0 s i 0 cs with | some cs' => some (.box cs') | none => none
      | .lp k t ps ag bd => match idsBL n0 t with | true => some (.lp k t ps ag bd) | false => none
      | o => some o
def obsc (sp : HS) (n0 : Nat) (s0 : List Ob) (used : List (Option Nat)) (new : List Ob) : Nat → Nat → List Ob → Option (List Ob)
  | 0, _, _ => some new
  | _ + 1, _, [] => none
  | n + 1, i, o :: r => match obc sp n0 s0 used i o, obsc sp n0 s0 used new n (i + 1) r with
    | some o', some l => some (o' :: l)
    | _, _ => none
def headc (sp : HS) (n0 : Nat) (t : List D) (s : List Ob) : Option (List D × List Ob) :=
  match growL t s sp.fams n0 with
  | some (used, new) => match distO used with
    | true => match slotsc sp n0 s 0 t, obsc sp n0 s used new n0 0 s with
      | some t', some s' => some (t', s')
      | _, _ => none
    | false => none
  | none => none
def boxAt (s : List Ob) (i : Nat) : List (List D) := match s.getD i .dead with | .box cs => [cs] | _ => []
def headB1 (s : List Ob) : List Nat → List (List D)
  | [] => []
  | o :: r => match Nat.ble cellK o with
    | true => boxAt s (o - cellK) ++ headB1 s r
    | false => headB1 s r
def headB2 (t : List D) (s : List Ob) : List (Nat × Nat) → List (List D)
  | [] => []
  | (k, _) :: r => (match rootD t s k with | .slc i _ _ => boxAt s i | _ => []) ++ headB2 t s r
def headBs (sp : HS) (t : List D) (s : List Ob) : List (List D) := headB1 s sp.obs ++ headB2 t s sp.fams
def clsc : List (List D) → Z P → (Z P → Option ρ) → Option ρ
  | [], z, k => k z
  | cs :: r, z, k => match z.o with
    | .cl cs' _ :: o => clsc r ⟨o, (cs' = cs) ∧ z.c⟩ k
    | _ => none
def iter (body : List D → List Ob → Z P → (Ex → List D → List Ob → Z P → Option ρ) → Option ρ) : Nat → List D → List Ob → Z P → (Ex → List D → List Ob → Z P → Option ρ) → Option ρ
  | 0, _, _, _, _ => none
  | n + 1, t, s, z, K => body t s z fun ex t' s' z => match ex with
    | .norm => iter body n t' s' z K
    | e => K e t' s' z
def keepT (keep : List Nat) : Nat → List D → List D
  | _, [] => []
  | i, d :: r => (match memN i keep with | true => d | false => .undef) :: keepT keep (i + 1) r
def setPs : List D → List (Nat × D) → List D
  | t, [] => t
  | t, (i, d) :: r => setPs (t.set i d) r
def codec (P : Program) (inl : Inl P ρ) (rd : Bool) : Code → List D → List Ob → Z P → (Ex → List D → List Ob → Z P → Option ρ) → Option ρ
  | .skip, t, s, z, K => K .norm t s z
  | .label _, t, s, z, K => K .norm t s z
  | .region _ ops draw, t, s, z, K => opsc P inl ops ops.toList t s [] z fun t' s' fps z => match draw with
    | false => K .norm t' s' z
    | true => chk (drawOK ops fps) (K .norm t' s' z)
  | .seq a b, t, s, z, K => codec P inl rd a t s z fun ex t' s' z => match ex with
    | .norm => codec P inl rd b t' s' z K
    | e => K e t' s' z
  | .cond c a b, t, s, z, K => match opnd t c with
    | .bool q => branch z q (fun z => codec P inl rd a t s z K) (fun z => codec P inl rd b t s z K)
    | _ => none
  | .block id a, t, s, z, K => match z.o with
    | .blk sp n0 c' t1 s1 ex t2 s2 _ :: r => match headc sp n0 t s with
      | some (t', s') => chk (Nat.beq n0 s.length) (clsc (headBs sp t s) ⟨r, (c' = .block id a ∧ t1 = t' ∧ s1 = s') ∧ z.c⟩ fun z => K ex t2 s2 z)
      | none => none
    | _ => codec P inl rd a t s z fun ex t' s' z => match ex with
      | .exit i => match Nat.beq i id with | true => K .norm t' s' z | false => K (.exit i) t' s' z
      | e => K e t' s' z
  | .scope a, t, s, z, K => codec P inl rd a t s z K
  | .exit id, t, s, z, K => K (.exit id) t s z
  | .ret, t, s, z, K => K .ret t s z
  | .loop x, t, s, z, K => match z.o with
    | .go n :: r => iter (codec P inl rd x) n t s ⟨r, z.c⟩ K
    | .head sp n0 c' t1 s1 ex t2 s2 _ :: r => match headc sp n0 t s with
      | some (t', s') => chk (Nat.beq n0 s.length) (clsc (headBs sp t s) ⟨r, (c' = .loop x ∧ t1 = t' ∧ s1 = s') ∧ z.c⟩ fun z => K ex t2 s2 z)
      | none => none
    | .code c' t1 s1 ex t2 s2 _ :: r => K ex t2 s2 ⟨r, (c' = .loop x ∧ t1 = t ∧ s1 = s) ∧ z.c⟩
    | _ => none
  | .rangeFunc g ps ag bd, t, s, z, K => match z.o with
    | .rng keep :: r => match rd, opnd t g with
      | false, .fn (.func gf) first cap => forceL (keepT keep 0 t) fun t1 => pushOb s (.lp .ready t1 ps ag bd) fun s1 =>
        inl (.fn gf) (first ++ (.yld s.length :: cap)) s1 ⟨r, z.c⟩ fun _ s2 z => match s2.getD s.length .dead with
          | .lp .ready _ _ _ _ => setOb s2 s.length .dead fun s3 => K .norm t s3 z
          | .lp .ret _ _ _ _ => setOb s2 s.length .dead fun s3 => K .ret t s3 z
          | .lp (.exit i) _ _ _ _ => setOb s2 s.length .dead fun s3 => K (.exit i) t s3 z
          | _ => none
      | _, _ => none
    | .code c' t1 s1 ex t2 s2 _ :: r => K ex t2 s2 ⟨r, (c' = .rangeFunc g ps ag bd ∧ t1 = t ∧ s1 = s) ∧ z.c⟩
    | _ => none
  | c, t, s, z, K => match z.o with
    | .code c' t1 s1 ex t2 s2 _ :: r => K ex t2 s2 ⟨r, (c' = c ∧ t1 = t ∧ s1 = s) ∧ z.c⟩
    | _ => none
def resOne (P : Program) (t : List D) (s : List Ob) : ResultVar → Option D
  | .tmp i => some (t.getD i .undef)
  | .cell a ty => match t.getD a .undef with
    | .ptr _ id off => match s.getD id .dead with
      | .box cs => match P.underlying ty with
        | some d => match aggDesc d with
          | true => match known P ty && Nat.ble (off + P.cellsOf ty) cs.length with
            | true => some (.agg ((cs.drop off).take (P.cellsOf ty)))
            | false => none
          | false => cs[off]?
        | none => none
      | _ => none
    | _ => none
def resL (P : Program) (t : List D) (s : List Ob) : List ResultVar → Option (List D)
  | [] => some []
  | r :: rs => match resOne P t s r, resL P t s rs with
    | some d, some l => some (d :: l)
    | _, _ => none
def resD : List D → D
  | [d] => d
  | l => .tup l
def bodyc (P : Program) (inl : Inl P ρ) (fn : Func) (args : List D) (s : List Ob) (z : Z P) (K : D → List Ob → Z P → Option ρ) : Option ρ :=
  match fn.body with
  | some c => chk (Nat.ble args.length fn.ntmps) (forceL (args ++ List.replicate (fn.ntmps - args.length) .undef) fun t0 => codec P inl false c t0 s z fun ex t' s' z => match ex with
    | .exit _ => none
    | _ => match resL P t' s' fn.results.toList with
      | some l => K (resD l) s' z
      | none => none)
  | none => none
def roundc (P : Program) (inl : Inl P ρ) (id : Nat) (args : List D) (s : List Ob) (z : Z P) (K : D → List Ob → Z P → Option ρ) : Option ρ :=
  match s.getD id .dead with
  | .lp .ready t ps ag bd => chk (Nat.beq args.length ps.size) (forceL (setPs t (ps.toList.zip args)) fun t1 => codec P inl true ag t1 s z fun ex t2 s2 z => match ex with
    | .norm => match s2.getD id .dead with
      | .lp .ready t' ps' ag' bd' => setOb s2 id (.lp .busy t' ps' ag' bd') fun s3 => codec P inl true bd t2 s3 z fun ex _ s4 z => match s4.getD id .dead with
        | .lp .busy t5 ps5 ag5 bd5 => match ex with
          | .norm => setOb s4 id (.lp .ready t5 ps5 ag5 bd5) fun s5 => K (.bool true) s5 z
          | .ret => setOb s4 id (.lp .ret t5 ps5 ag5 bd5) fun s5 => K (.bool false) s5 z
          | .exit i => setOb s4 id (.lp (.exit i) t5 ps5 ag5 bd5) fun s5 => K (.bool false) s5 z
        | _ => none
      | _ => none
    | _ => none)
  | _ => none
def inlN (P : Program) : Nat → Inl P ρ
  | 0 => fun _ _ _ _ _ => none
  | n + 1 => fun g args s z K => match g with
    | .fn f => match P.funcs[f]? with
      | some fn => chk (!(fn.name == "runtime.NumGoroutine")) (bodyc P (inlN P n) fn args s z K)
      | none => none
    | .yl id => roundc P (inlN P n) id args s z K
def outFlag (s : List Ob) : D → D
  | .lst (.tok id v) sz xs => match s.getD id .dead with
    | .fam v' sz2 => match Nat.beq v v' && Nat.beq sz sz2 with | true => .lst (.fresh sz) sz xs | false => .lst .no sz xs
    | _ => .lst .no sz xs
  | d => d.demote
def outD (s : List Ob) : D → D
  | .tup ds => .tup (ds.map (outFlag s))
  | d => outFlag s d
end
def keepS : List (Nat × Ob) → Prop → Prop
  | [], c => c
  | (_, o) :: r, c => keepS r ((o = o ∧ o = o) ∧ c)
theorem keepS_true : ∀ (l : List (Nat × Ob)) {c : Prop}, c → keepS l c
 | [], _, h => h
 | (_, o) :: r, _, h => keepS_true r ⟨⟨rfl, rfl⟩, h⟩
def cellS : List (Nat × Nat × D) → Prop → Prop
  | [], c => c
  | (_, _, d) :: r, c => cellS r ((some d = some d ∧ some d = some d) ∧ c)
theorem cellS_true : ∀ (l : List (Nat × Nat × D)) {c : Prop}, c → cellS l c
 | [], _, h => h
 | (_, _, d) :: r, _, h => cellS_true r ⟨⟨rfl, rfl⟩, h⟩
def Ev.self {P : Program} : Ev P → Prop → Prop
  | .ret _ as _ _, c => (as = as) ∧ c
  | .inl, c => c
  | .callR _ ar s _ _ _, c => (ar = ar ∧ s = s) ∧ c
  | .tst q _ _, c => (q = q) ∧ c
  | .len n m _, c => (n = n ∧ m = m) ∧ c
  | .get l i _ _, c => (l = l ∧ i = i) ∧ c
  | .getA l i n _ _, c => (l = l ∧ i = i ∧ n = n) ∧ c
  | .putA l i xs _ _, c => (l = l ∧ i = i ∧ xs = xs) ∧ c
  | .flat _ _ _, c => c
  | .mget es n _ _, c => (es = es ∧ n = n) ∧ c
  | .mkey _ _ _, c => c
  | .mgetF es n _ _, c => (es = es ∧ n = n) ∧ c
  | .keep l, c => keepS l c
  | .keepC cs l, c => cellS cs (keepS l c)
  | .code c' t s _ _ _ _, c => (c' = c' ∧ t = t ∧ s = s) ∧ c
  | .go _, c => c
  | .rng _, c => c
  | .raw, c => c
  | .cl cs _, c => (cs = cs) ∧ c
  | .cel ys _ _, c => (ys = ys) ∧ c
  | .head _ _ c' t s _ _ _ _, c => (c' = c' ∧ t = t ∧ s = s) ∧ c
  | .blk _ _ c' t s _ _ _ _, c => (c' = c' ∧ t = t ∧ s = s) ∧ c
def selfs {P : Program} : List (Ev P) → Prop → Prop
  | [], c => c
  | e :: r, c => selfs r (e.self c)
theorem selfs_true {P : Program} (l : List (Ev P)) : ∀ {c : Prop}, c → selfs l c := by
 induction l with
 | nil => exact fun h => h
 | cons e r ih =>
  intro c h
  refine ih ?_
  cases e <;> simp only [Ev.self, true_and, and_self] <;> first | exact h | exact keepS_true _ h | exact cellS_true _ (keepS_true _ h)
def evalRet (P : Program) (fn : Func) (args : List D) (o : List (Ev P)) : Option (D × Prop) :=
  bodyc P (inlN P 20) fn args [] ⟨o, True⟩ fun d s z => chk d.clean (match z.o with | [] => some (outD s d, z.c) | _ => none)
def evalRound (P : Program) (c : Code) (sp : HS) (n0 : Nat) (t : List D) (s : List Ob) (o : List (Ev P)) : Option ((Ex × List D × List Ob) × Prop) :=
  codec P (inlN P 20) true c t s ⟨o, True⟩ fun ex t' s' z => match headc sp n0 t' s' with
    | some (t2, s2) => clsc (headBs sp t' s') z fun z => match z.o with
      | [] => some ((ex, t2, s2), z.c)
      | _ => none
    | none => none
def evalCode (P : Program) (c : Code) (t : List D) (s : List Ob) (o : List (Ev P)) : Option ((Ex × List D × List Ob) × Prop) :=
  codec P (inlN P 20) true c t s ⟨o, True⟩ fun ex t' s' z => match z.o with | [] => some ((ex, t', s'), z.c) | _ => none
end Go.Ev
