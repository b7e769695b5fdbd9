/- Contracts and plain laws that a statement's proof leans on (texts merged: MdK1, MdK2, MdK3, MdK4, MdMv, Base, Az, MdW, MdF2, MdE, MdP, MdS, MdI, MdO, MdPl, FEH, FE0, MdJ, MdT, MdK, MdFr). -/
import Derived.Test.YtkpneibifdoecaaGreatProg
import Derived.Test.YtkpneibifdoecaaGreatH05
import Derived.Test.YtkpneibifdoecaaGreatH06
set_option linter.unusedVariables false
set_option linter.unusedSimpArgs false
set_option maxRecDepth 100000
set_option maxHeartbeats 8000000
namespace Go.Ev
open Go
def InstS.may (x : InstS) : Bool := mayM x.kind x.op x.width x.size x.byReg x.dst x.src x.off x.imm
def isd (l : List InstS) : List D := l.map InstS.d
def tgt2 (i kind off : Int) : Bool := (kind == 3 || kind == 4) && (decide (-1099511627776 ≤ i ∧ i ≤ 1099511627776) && decide (-1099511627776 ≤ off ∧ off ≤ 1099511627776))
def tgt1 (i kind off : Int) : Int := if tgt2 i kind off = true then i + 1 + off else 0
def ckFrom (n : Int) : Int → List InstS → Option (Int × Int)
  | _, [] => none
  | i, x :: r => if x.may = false then some (i, 31) else if tgt2 i x.kind x.off = true ∧ ¬ (0 ≤ tgt1 i x.kind x.off ∧ tgt1 i x.kind x.off < n) then some (i, 32) else ckFrom n (i + 1) r
def kindAt (l : List InstS) (i : Nat) : Int := match l[i]? with | some x => x.kind | none => 0
def checkM (ctx : Int) (l : List InstS) : Int × Int :=
  if ctx < 0 ∨ 256 < ctx then (0, 2) else if l.length < 1 ∨ 64 < l.length then (0, 3)
  else match ckFrom l.length 0 l with
    | some r => r
    | none => if kindAt l (l.length - 1) = 4 ∨ kindAt l (l.length - 1) = 6 then (0, 0) else (l.length - 1, 33)
theorem look_upd (es : List (Int × D)) (n : Int) (v : D) (m : Int) : lookD (updD es n v) m = if m = n then some v else lookD es m := by
 induction es with
 | nil =>
  by_cases h : m = n
  ·subst h; simp [updD, lookD]
  ·have : (m == n) = false := by simpa using h
   simp [updD, lookD, this, h]
 | cons p r ih =>
  obtain ⟨a, d⟩ := p
  rw [updD]
  by_cases hn : n = a
  ·subst hn
   simp only [beq_self_eq_true]
   by_cases h : m = n
   ·subst h; simp [lookD]
   ·have : (m == n) = false := by simpa using h
    simp [lookD, this, h]
  ·have e : (n == a) = false := by simpa using hn
   simp only [e]
   by_cases h : m = a
   ·subst h
    have : ¬ m = n := fun q => hn q.symm
    simp [lookD, this]
   ·have e2 : (m == a) = false := by simpa using h
    simp only [lookD, e2]
    exact ih
def stopK (k : Int) : Bool := k == 3 || k == 4 || k == 6
def stepB (es : List (Int × D)) (k : Int) (x : InstS) : List (Int × D) :=
  if tgt2 k x.kind x.off = true then updD (if stopK x.kind = true then updD es (k + 1) (.bool true) else es) (tgt1 k x.kind x.off) (.bool true)
  else if stopK x.kind = true then updD es (k + 1) (.bool true) else es
def begE (l : List InstS) : Nat → List (Int × D)
  | 0 => [(0, .bool true)]
  | k + 1 => match l[k]? with
    | some x => stepB (begE l k) k x
    | none => begE l k
def begS (l : List InstS) (k : Nat) (i : Int) : Bool := match l[k]? with
  | some x => (stopK x.kind && i == (k : Int) + 1) || (tgt2 k x.kind x.off && i == tgt1 k x.kind x.off)
  | none => false
def begU (l : List InstS) (i : Int) : Nat → Bool
  | 0 => i == 0
  | k + 1 => begU l i k || begS l k i
def begM (l : List InstS) (i : Int) : Bool := begU l i l.length
structure OkP (l : List InstS) : Prop where
  pos : 1 ≤ l.length
  le : l.length ≤ 64
  may : ∀ j (h : j < l.length), l[j].may = true
  tgt : ∀ j (h : j < l.length), tgt2 j l[j].kind l[j].off = true → 0 ≤ tgt1 j l[j].kind l[j].off ∧ tgt1 j l[j].kind l[j].off < l.length
  last : kindAt l (l.length - 1) = 4 ∨ kindAt l (l.length - 1) = 6
theorem put_set {l : List D} {i : Nat} {x : D} (h : (i : Int) < (l.length : Int)) : PutsA l i [x] (l.set i x) := by
 refine ⟨?_, by simp; omega⟩
 rw [List.set_eq_take_append_cons_drop, if_pos (by omega)]
 rfl
theorem cl_set {l : List D} {i : Nat} {x : D} (h : ∀ c ∈ l, c.clean = true) (hx : x.clean = true) : ∀ c ∈ l.set i x, c.clean = true := by
 intro c hc
 rcases List.mem_or_eq_of_mem_set hc with q | rfl
 ·exact h c q
 ·exact hx
theorem cl_app {l m : List D} (h : ∀ c ∈ l, c.clean = true) (hm : m.all D.clean = true) : ∀ c ∈ l ++ m, c.clean = true := by
 intro c hc
 rcases List.mem_append.1 hc with q | q
 ·exact h c q
 ·exact List.all_eq_true.1 hm c q
abbrev Mv := Int × Int
def cntI : List Int → Int → Nat
  | [], _ => 0
  | b :: r, a => (if b = a then 1 else 0) + cntI r a
theorem cntI_app (a : Int) : ∀ (l m : List Int), cntI (l ++ m) a = cntI l a + cntI m a
 | [], m => by simp [cntI]
 | b :: l, m => by simp only [List.cons_append, cntI, cntI_app a l m]; omega
theorem cntI_pos (a : Int) : ∀ (l : List Int), 0 < cntI l a ↔ a ∈ l
 | [] => by simp [cntI]
 | b :: l => by
  rw [cntI, List.mem_cons, ← cntI_pos a l]
  by_cases h : b = a
  ·subst h; simp; omega
  ·have : ¬ a = b := fun e => h e.symm
   simp [h, this]
theorem cntI_le (a : Int) : ∀ (l : List Int), cntI l a ≤ l.length
 | [] => by simp [cntI]
 | b :: l => by
  have := cntI_le a l
  rw [cntI, List.length_cons]
  by_cases h : b = a <;> simp [h] <;> omega
def rdyAt (all : List Mv) : List Mv → Nat → Option Nat
  | [], _ => none
  | p :: r, i => if cntI (all.map Prod.snd) p.1 = 0 then some i else rdyAt all r (i + 1)
def movM (sc : Int) : Nat → List Mv → List Mv
  | 0, _ => []
  | _ + 1, [] => []
  | f + 1, p :: r => match rdyAt (p :: r) (p :: r) 0 with
    | some k => (p :: r).getD k (0, 0) :: movM sc f ((p :: r).eraseIdx k)
    | none => (sc, p.2) :: movM sc f ((p :: r).map fun q => if q.2 = p.2 then (q.1, sc) else q)
def doF : List Mv → (Int → Int) → Int → Int
  | [], R => R
  | p :: r, R => doF r fun x => if x = p.1 then R p.2 else R x
def offS (sc : Int) : List Mv → Nat
  | [] => 0
  | p :: r => (if p.2 = sc then 0 else 1) + offS sc r
theorem offS_le (sc : Int) : ∀ l, offS sc l ≤ l.length
 | [] => by simp [offS]
 | p :: r => by
  have := offS_le sc r
  rw [offS, List.length_cons]
  by_cases h : p.2 = sc <;> simp [h] <;> omega
theorem offS_lt (sc : Int) : ∀ l : List Mv, (∃ p ∈ l, p.2 = sc) → offS sc l < l.length
 | [], ⟨_, h, _⟩ => by simp at h
 | p :: r, ⟨q, h, e⟩ => by
  have h1 := offS_le sc r
  rw [offS, List.length_cons]
  by_cases hp : p.2 = sc
  ·simp [hp]; omega
  ·rcases List.mem_cons.1 h with rfl | h
   ·exact absurd e hp
   ·have := offS_lt sc r ⟨q, h, e⟩
    simp [hp]; omega
theorem offS_erase (sc : Int) : ∀ (l : List Mv) (k : Nat), offS sc (l.eraseIdx k) ≤ offS sc l
 | [], k => by simp [offS]
 | p :: r, 0 => by rw [List.eraseIdx_cons_zero, offS]; omega
 | p :: r, k + 1 => by rw [List.eraseIdx_cons_succ, offS, offS]; have := offS_erase sc r k; omega
theorem offS_map (sc f : Int) (hf : f ≠ sc) : ∀ (l : List Mv), offS sc (l.map fun q => if q.2 = f then (q.1, sc) else q) ≤ offS sc l ∧ ((∃ p ∈ l, p.2 = f) → offS sc (l.map fun q => if q.2 = f then (q.1, sc) else q) < offS sc l)
 | [] => by simp [offS]
 | p :: r => by
  obtain ⟨h1, h2⟩ := offS_map sc f hf r
  rw [List.map_cons, offS, offS]
  by_cases h : p.2 = f
  ·have : ¬ p.2 = sc := by rw [h]; exact hf
   simp only [h, if_true, hf, if_false]
   constructor <;> (try intro _) <;> omega
  ·simp only [h, if_false]
   refine ⟨by omega, ?_⟩
   rintro ⟨q, hq, e⟩
   rcases List.mem_cons.1 hq with rfl | hq
   ·exact absurd e h
   ·have := h2 ⟨q, hq, e⟩; omega
theorem hole : ∀ (l m : List Int), l.Nodup → (∀ a ∈ l, a ∈ m) → l.length ≤ m.length
 | [], m, _, _ => by simp
 | a :: l, m, hn, h => by
  have ha := h a (by simp)
  have hn' := List.nodup_cons.1 hn
  have := hole l (m.erase a) hn'.2 (fun b hb => by
   have hne : b ≠ a := fun e => hn'.1 (e ▸ hb)
   exact (List.mem_erase_of_ne hne).2 (h b (by simp [hb])))
  rw [List.length_erase_of_mem ha] at this
  have hp : 0 < m.length := List.length_pos_of_mem ha
  rw [List.length_cons]; omega
theorem rdyAt_none (all : List Mv) : ∀ (l : List Mv) (i : Nat), rdyAt all l i = none → ∀ p ∈ l, p.1 ∈ all.map Prod.snd
 | [], _, _, p, hp => by simp at hp
 | q :: r, i, h, p, hp => by
  rw [rdyAt] at h
  split at h
  ·cases h
  ·rename_i hc
   rcases List.mem_cons.1 hp with rfl | hp
   ·exact (cntI_pos _ _).1 (by omega)
   ·exact rdyAt_none all r (i + 1) h p hp
theorem rdyAt_some (all : List Mv) : ∀ (l : List Mv) (i k : Nat), rdyAt all l i = some k → ∃ j p, k = i + j ∧ l[j]? = some p ∧ p.1 ∉ all.map Prod.snd
 | [], _, _, h => by simp [rdyAt] at h
 | q :: r, i, k, h => by
  rw [rdyAt] at h
  split at h
  ·rename_i hc
   cases h
   refine ⟨0, q, rfl, rfl, fun hm => ?_⟩
   have := (cntI_pos _ _).2 hm
   omega
  ·obtain ⟨j, p, e, h1, h2⟩ := rdyAt_some all r (i + 1) k h
   exact ⟨j + 1, p, by omega, h1, h2⟩
theorem filt_len (sc : Int) : ∀ l : List Mv, ((l.map Prod.snd).filter fun a => !(a == sc)).length = offS sc l
 | [] => rfl
 | p :: r => by
  rw [List.map_cons, offS, ← filt_len sc r]
  by_cases h : p.2 = sc
  ·simp [h]
  ·simp [h]; omega
theorem stuck_off (sc : Int) (l : List Mv) (hn : (l.map Prod.fst).Nodup) (hs : sc ∉ l.map Prod.fst) (h : rdyAt l l 0 = none) : ∀ p ∈ l, p.2 ≠ sc := by
 intro p hp e
 have h1 := hole (l.map Prod.fst) ((l.map Prod.snd).filter fun a => !(a == sc)) hn (fun a ha => by
  obtain ⟨q, hq, rfl⟩ := List.mem_map.1 ha
  refine List.mem_filter.2 ⟨rdyAt_none l l 0 h q hq, ?_⟩
  have : q.1 ≠ sc := fun e => hs (e ▸ ha)
  simpa using this)
 rw [filt_len, List.length_map] at h1
 have := offS_lt sc l ⟨p, hp, e⟩
 omega
theorem mem_erase_get {l : List Mv} {k : Nat} {p : Mv} (hn : (l.map Prod.fst).Nodup) (hk : l[k]? = some p) : p.1 ∉ (l.eraseIdx k).map Prod.fst := by
 induction l generalizing k with
 | nil => simp at hk
 | cons q r ih =>
  rw [List.map_cons, List.nodup_cons] at hn
  cases k with
  | zero =>
   simp only [List.getElem?_cons_zero, Option.some.injEq] at hk
   subst hk
   exact hn.1
  | succ k =>
   rw [List.getElem?_cons_succ] at hk
   rw [List.eraseIdx_cons_succ, List.map_cons, List.mem_cons]
   rintro (e | e)
   ·exact hn.1 (e ▸ List.mem_map_of_mem (List.mem_of_getElem? hk))
   ·exact ih hn.2 hk e
theorem mem_or_erase {l : List Mv} {k : Nat} {p : Mv} (hk : l[k]? = some p) : ∀ q ∈ l, q = p ∨ q ∈ l.eraseIdx k := by
 induction l generalizing k with
 | nil => simp at hk
 | cons a r ih =>
  intro q hq
  cases k with
  | zero =>
   simp only [List.getElem?_cons_zero, Option.some.injEq] at hk
   subst hk
   rcases List.mem_cons.1 hq with rfl | hq
   ·exact .inl rfl
   ·exact .inr hq
  | succ k =>
   rw [List.getElem?_cons_succ] at hk
   rw [List.eraseIdx_cons_succ]
   rcases List.mem_cons.1 hq with rfl | hq
   ·exact .inr (by simp)
   ·rcases ih hk q hq with h | h
    ·exact .inl h
    ·exact .inr (by simp [h])
theorem erase_sub (l : List Mv) (k : Nat) : ∀ q ∈ l.eraseIdx k, q ∈ l := fun q h => List.mem_of_mem_eraseIdx h
structure MvOk (sc : Int) (l : List Mv) : Prop where
  nd : (l.map Prod.fst).Nodup
  sc : sc ∉ l.map Prod.fst
  ne : ∀ p ∈ l, p.1 ≠ p.2
theorem MvOk.erase {sc : Int} {l : List Mv} (h : MvOk sc l) (k : Nat) : MvOk sc (l.eraseIdx k) := by
 have hs : ((l.eraseIdx k).map Prod.fst).Sublist (l.map Prod.fst) := (List.eraseIdx_sublist l k).map _
 exact ⟨hs.nodup h.nd, fun q => h.sc (hs.subset q), fun p hp => h.ne p (erase_sub l k p hp)⟩
theorem swap_fst (sc f : Int) (l : List Mv) : (l.map fun q => if q.2 = f then (q.1, sc) else q).map Prod.fst = l.map Prod.fst := by
 rw [List.map_map]
 congr 1
 funext q
 by_cases h : q.2 = f <;> simp [h]
theorem MvOk.swap {sc : Int} {l : List Mv} (h : MvOk sc l) (f : Int) : MvOk sc (l.map fun q => if q.2 = f then (q.1, sc) else q) := by
 refine ⟨by rw [swap_fst]; exact h.nd, by rw [swap_fst]; exact h.sc, fun p hp => ?_⟩
 obtain ⟨q, hq, rfl⟩ := List.mem_map.1 hp
 by_cases e : q.2 = f
 ·simp only [e, if_true]
  exact fun e2 => h.sc (e2 ▸ List.mem_map_of_mem hq)
 ·simp only [e, if_false]
  exact h.ne q hq
theorem mov_right (sc : Int) : ∀ (f : Nat) (l : List Mv) (R : Int → Int), MvOk sc l → l.length + offS sc l ≤ f →
  (∀ p ∈ l, doF (movM sc f l) R p.1 = R p.2) ∧ ∀ x, x ≠ sc → x ∉ l.map Prod.fst → doF (movM sc f l) R x = R x
 | 0, l, R, h, hf => by
  have : l = [] := List.eq_nil_of_length_eq_zero (by omega)
  subst this
  exact ⟨fun p hp => by simp at hp, fun x _ _ => rfl⟩
 | f + 1, [], R, h, hf => ⟨fun p hp => by simp at hp, fun x _ _ => rfl⟩
 | f + 1, p :: r, R, h, hf => by
  rw [movM]
  cases hr : rdyAt (p :: r) (p :: r) 0 with
  | some k =>
   obtain ⟨j, q, rfl, hk, hq⟩ := rdyAt_some _ _ _ _ hr
   rw [Nat.zero_add] at *
   have hqm := List.mem_of_getElem? hk
   have hq' := hq
   have hlen : ((p :: r).eraseIdx j).length + 1 = (p :: r).length := by
    have := (List.getElem?_eq_some_iff.1 hk).1
    rw [List.length_eraseIdx, if_pos this]; omega
   have hoff := offS_erase sc (p :: r) j
   simp only []
   rw [doF, List.getD_eq_getElem?_getD, hk, Option.getD_some]
   obtain ⟨i1, i2⟩ := mov_right sc f ((p :: r).eraseIdx j) (fun x => if x = q.1 then R q.2 else R x) (h.erase j) (by omega)
   constructor
   ·intro a ha
    rcases mem_or_erase hk a ha with rfl | ha'
    ·rw [i2 a.1 (fun e => h.sc (e ▸ List.mem_map_of_mem ha)) (mem_erase_get h.nd hk)]
     simp
    ·rw [i1 a ha']
     have : a.2 ≠ q.1 := fun e => hq' (e ▸ List.mem_map_of_mem ha)
     simp [this]
   ·intro x hx hm
    have hxq : x ≠ q.1 := fun e => hm (e ▸ List.mem_map_of_mem hqm)
    rw [i2 x hx (fun q => hm (((List.eraseIdx_sublist _ _).map _).subset q))]
    simp [hxq]
  | none =>
   have hoff := stuck_off sc (p :: r) h.nd h.sc hr
   have hp : p.2 ≠ sc := hoff p (by simp)
   obtain ⟨o1, o2⟩ := offS_map sc p.2 hp (p :: r)
   have o3 := o2 ⟨p, by simp, rfl⟩
   simp only []
   rw [doF]
   obtain ⟨i1, i2⟩ := mov_right sc f ((p :: r).map fun q => if q.2 = p.2 then (q.1, sc) else q) (fun x => if x = sc then R p.2 else R x) (h.swap p.2) (by rw [List.length_map]; omega)
   constructor
   ·intro a ha
    have := i1 _ (List.mem_map_of_mem (f := fun q : Mv => if q.2 = p.2 then (q.1, sc) else q) ha)
    by_cases e : a.2 = p.2
    ·simpa [e] using this
    ·simpa [e, hoff a ha] using this
   ·intro x hx hm
    rw [i2 x hx (by rw [swap_fst]; exact hm)]
    simp [hx]
def rgB (r : Int) : Bool := decide (0 ≤ r) && decide (r < 16)
def mvD (l : List Mv) : List D := l.map fun p => .agg [.int .i8 p.1, .int .i8 p.2]
def mvC : List Mv → List D
  | [] => []
  | p :: r => .int .i8 p.1 :: .int .i8 p.2 :: mvC r
theorem mvC_app : ∀ l m : List Mv, mvC (l ++ m) = mvC l ++ mvC m
 | [], m => rfl
 | p :: r, m => by rw [List.cons_append, mvC, mvC, mvC_app r m]; rfl
theorem mvC_len : ∀ l : List Mv, (mvC l).length = l.length * 2
 | [] => rfl
 | p :: r => by rw [mvC, List.length_cons, List.length_cons, mvC_len r, List.length_cons]; omega
theorem mvC_clean : ∀ l : List Mv, ∀ c ∈ mvC l, c.clean = true
 | [], c, h => by simp [mvC] at h
 | p :: r, c, h => by
  rw [mvC] at h
  rcases List.mem_cons.1 h with rfl | h
  ·rfl
  rcases List.mem_cons.1 h with rfl | h
  ·rfl
  exact mvC_clean r c h
theorem mvC_demote : ∀ l : List Mv, (mvC l).map D.demote = mvC l
 | [] => rfl
 | p :: r => by rw [mvC, List.map_cons, List.map_cons, mvC_demote r]; rfl
theorem mvC_drop : ∀ (l : List Mv) (k : Nat), (mvC l).drop (k * 2) = mvC (l.drop k)
 | [], k => by simp [mvC]
 | p :: r, 0 => by simp
 | p :: r, k + 1 => by
  rw [List.drop_succ_cons, ← mvC_drop r k, mvC, show (k + 1) * 2 = k * 2 + 1 + 1 by omega, List.drop_succ_cons, List.drop_succ_cons]
theorem mvC_take : ∀ (l : List Mv) (k : Nat), (mvC l).take (k * 2) = mvC (l.take k)
 | [], k => by simp [mvC]
 | p :: r, 0 => by simp [mvC]
 | p :: r, k + 1 => by
  rw [List.take_succ_cons, mvC, mvC, ← mvC_take r k, show (k + 1) * 2 = k * 2 + 1 + 1 by omega, List.take_succ_cons, List.take_succ_cons]
theorem mvC_gets {l : List Mv} {k : Nat} (h : k < l.length) : GetsA (mvC l) (k * 2) 2 [.int .i8 l[k].1, .int .i8 l[k].2] := by
 refine ⟨?_, by rw [mvC_len]; omega⟩
 rw [mvC_drop, List.drop_eq_getElem_cons h]
 rfl
theorem mvC_first {l : List Mv} {k : Nat} (h : k ≤ l.length) : GetsA (mvC l) 0 (k * 2) (mvC (l.take k)) := by
 refine ⟨?_, by rw [mvC_len]; omega⟩
 rw [List.drop_zero, mvC_take]
theorem mvC_rest {l : List Mv} {k n : Nat} (hk : k ≤ l.length) (hn : n = l.length - k) : GetsA (mvC l) (k * 2) (n * 2) (mvC (l.drop k)) := by
 subst hn
 refine ⟨?_, by rw [mvC_len]; omega⟩
 rw [mvC_drop, List.take_of_length_le]
 rw [mvC_len, List.length_drop]
 omega
theorem mvC_get2 : ∀ (l : List Mv) (k : Nat) (h : k < l.length), (mvC l)[k * 2 + 1]? = some (.int .i8 l[k].2)
 | p :: r, 0, h => rfl
 | p :: r, k + 1, h => by
  rw [mvC, show (k + 1) * 2 + 1 = (k * 2 + 1) + 1 + 1 by omega, List.getElem?_cons_succ, List.getElem?_cons_succ]
  exact mvC_get2 r k (by simpa using h)
theorem mvC_set : ∀ (l : List Mv) (k : Nat) (h : k < l.length) (v : Int), (mvC l).set (k * 2 + 1) (.int .i8 v) = mvC (l.set k (l[k].1, v))
 | p :: r, 0, h, v => rfl
 | p :: r, k + 1, h, v => by
  rw [mvC, show (k + 1) * 2 + 1 = (k * 2 + 1) + 1 + 1 by omega, List.set_cons_succ, List.set_cons_succ, List.set_cons_succ, mvC, mvC_set r k (by simpa using h) v]
  rfl
theorem look_self (es : List (Int × D)) (a : Int) (v : D) : lookD (updD es a v) a = some v := by rw [look_upd, if_pos rfl]
theorem lookF_self2 (es : List (List D × D)) (a b : Int) (v : D) : lookF (updF es [.int .i8 a, .int .i8 b] v) [.int .i8 a, .int .i8 b] = some v := by
 have e : eqCells [D.int .i8 a, D.int .i8 b] [D.int .i8 a, D.int .i8 b] = true := by simp [eqCells, eqCell]
 induction es with
 | nil => simp only [updF, lookF, e]
 | cons p r ih =>
  obtain ⟨x, d⟩ := p
  rw [updF]
  cases h : eqCells [D.int .i8 a, D.int .i8 b] x with
  | true => simp only [lookF, e]
  | false => simp only [lookF, h]; exact ih
def cntD (l : List Int) (a : Int) : Option D := if cntI l a = 0 then none else some (.int .i64 (cntI l a : Int))
def cntE : List Int → List (Int × D)
  | [] => []
  | b :: l => updD (cntE l) b (.int .i64 (cntI (b :: l) b : Int))
theorem cntE_look : ∀ (l : List Int) (a : Int), lookD (cntE l) a = cntD l a
 | [], a => rfl
 | b :: l, a => by
  rw [cntE, look_upd]
  by_cases h : a = b
  ·subst h
   have : ¬ cntI (a :: l) a = 0 := by rw [cntI, if_pos rfl]; omega
   rw [if_pos rfl, cntD, if_neg this]
  ·have hb : ¬ b = a := fun e => h e.symm
   rw [if_neg h, cntE_look l a, cntD, cntD, cntI, if_neg hb, Nat.zero_add]
theorem gets_mv {l : List D} {i n : Nat} {l' : List D} (h : GetsA l i n l') : GetsA l i n l' := h
theorem nbeq_self {n : Nat} : Nat.beq n n = true := by rw [Nat.beq_eq]
theorem cl_app2 {l m : List D} (h : ∀ c ∈ l, c.clean = true) (hm : ∀ c ∈ m, c.clean = true) : ∀ c ∈ l ++ m, c.clean = true := by
 intro c hc
 rcases List.mem_append.1 hc with q | q
 ·exact h c q
 ·exact hm c q
theorem beq_len2 {l : List D} {r : Nat} (h : l.length = r * 2) : Nat.beq l.length (r * 2) = true := by
 rw [Nat.beq_eq]; exact h
def nmM (seen : List Int) : List Mv → Bool
  | [] => true
  | p :: r => !(seen.contains p.1) && (rgB p.1 && (rgB p.2 && nmM (p.1 :: seen) r))
def onesE : List Int → List (Int × D)
  | [] => []
  | b :: s => updD (onesE s) b (.int .i64 1)
theorem onesE_look : ∀ (s : List Int) (a : Int), lookD (onesE s) a = if s.contains a = true then some (.int .i64 1) else none
 | [], a => rfl
 | b :: s, a => by
  rw [onesE, look_upd, onesE_look s a]
  by_cases h : a = b
  ·subst h; simp
  ·have : (a == b) = false := by simpa using h
   simp [List.contains_cons, this, h]
def ofM (sc : Int) (l : List Mv) : Bool := l.all fun p => !(p.1 == sc) && !(p.2 == sc)
def mayMv (l : List Mv) (sc : Int) : Bool := ofM sc l && (rgB sc && nmM [] l)
theorem nmM_nd : ∀ (l : List Mv) (seen : List Int), nmM seen l = true → (l.map Prod.fst).Nodup ∧ (∀ p ∈ l, p.1 ∉ seen) ∧ ∀ p ∈ l, rgB p.1 = true ∧ rgB p.2 = true
 | [], seen, _ => ⟨by simp, fun p h => by simp at h, fun p h => by simp at h⟩
 | p :: r, seen, h => by
  simp only [nmM, Bool.and_eq_true, Bool.not_eq_true', List.contains_eq_mem, decide_eq_false_iff_not] at h
  obtain ⟨h1, h2, h3, h4⟩ := h
  obtain ⟨i1, i2, i3⟩ := nmM_nd r (p.1 :: seen) h4
  refine ⟨?_, ?_, ?_⟩
  ·rw [List.map_cons, List.nodup_cons]
   refine ⟨fun hm => ?_, i1⟩
   obtain ⟨q, hq, e⟩ := List.mem_map.1 hm
   exact i2 q hq (by rw [e]; simp)
  ·intro q hq
   rcases List.mem_cons.1 hq with rfl | hq
   ·exact h1
   ·exact fun e => i2 q hq (by simp [e])
  ·intro q hq
   rcases List.mem_cons.1 hq with rfl | hq
   ·exact ⟨h2, h3⟩
   ·exact i3 q hq
def leftM (l : List Mv) : List Mv := l.filter fun p => !(p.1 == p.2)
theorem leftM_ok {l : List Mv} {sc : Int} (h : mayMv l sc = true) : MvOk sc (leftM l) := by
 simp only [mayMv, Bool.and_eq_true, ofM, List.all_eq_true, Bool.not_eq_true', beq_eq_false_iff_ne] at h
 obtain ⟨h1, h2, h3⟩ := h
 obtain ⟨n1, _, _⟩ := nmM_nd l [] h3
 have hs : ((leftM l).map Prod.fst).Sublist (l.map Prod.fst) := (List.filter_sublist).map _
 refine ⟨hs.nodup n1, fun hm => ?_, fun p hp => ?_⟩
 ·obtain ⟨p, hp, e⟩ := List.mem_map.1 (hs.subset hm)
  exact (h1 p hp).1 e
 ·have := (List.mem_filter.1 hp).2
  simpa using this
end Go.Ev
namespace Go.Proofs.YtkpneibifdoecaaGreat
open Go Go.Ev
theorem mixed : Tryz.prog.follows .mixedOrders = true := by kernel_rfl
theorem flat_X : FlatEq Tryz.prog 55 [.int .i8, .int .i8, .int .i8, .int .i8, .int .i8, .int .i64, .int .i64, .int .i8] := FlatEq.of_flat (d := 5) (by kernel_rfl) (by kernel_rfl) (by kernel_rfl) (by kernel_rfl)
theorem flat_Ir : FlatEq Tryz.prog 65 [.int .i8, .int .i8, .int .i8, .int .i8, .int .i8, .int .i8, .int .i64, .int .i64, .int .i8, .int .i8, .int .i8, .int .i64, .int .i64] := FlatEq.of_flat (d := 5) (by kernel_rfl) (by kernel_rfl) (by kernel_rfl) (by kernel_rfl)
theorem flat_Place : FlatEq Tryz.prog 25 [.int .i8, .int .i8] := FlatEq.of_flat (d := 5) (by kernel_rfl) (by kernel_rfl) (by kernel_rfl) (by kernel_rfl)
theorem flat_Flags : FlatEq Tryz.prog 45 [.bool, .bool, .bool, .bool, .bool] := FlatEq.of_flat (d := 5) (by kernel_rfl) (by kernel_rfl) (by kernel_rfl) (by kernel_rfl)
theorem key_Pair : FlatKey Tryz.prog 79 [.int .i8, .int .i8] := FlatKey.of_flat (d := 5) (by kernel_rfl) (by kernel_rfl) (by kernel_rfl) (by kernel_rfl) (by kernel_rfl)
abbrev EL := List (Ev Tryz.prog)
theorem bft (b : Bool) : b = true ∨ b = false := Bool.eq_false_or_eq_true b
theorem sl0 : (∀ {p : Prop} [Decidable p], (decide p = true) = p) ∧ (∀ {p : Prop} [Decidable p], (decide p = false) ↔ ¬p) ∧ (∀ (b : Bool), (¬(b = true)) = (b = false)) ∧ (∀ {α : Type} [BEq α] [LawfulBEq α] {a b : α}, (a == b) = true ↔ a = b) ∧ (∀ {α : Type} [BEq α] [LawfulBEq α] {a b : α}, (a == b) = false ↔ a ≠ b) ∧ (∀ (a b : Bool), (D.bool a = D.bool b) = (a = b)) := ⟨@decide_eq_true_eq, @decide_eq_false_iff_not, @Bool.not_eq_true, @beq_iff_eq, @beq_eq_false_iff_ne, @D.bool.injEq⟩
theorem sl2 : (∀ n : Int, IntKind.i8.wrap n = (n + 128) % 256 - 128) ∧ (∀ n : Int, IntKind.u8.wrap n = n % 256) ∧ (∀ n : Int, IntKind.i64.wrap n = (n + 9223372036854775808) % 18446744073709551616 - 9223372036854775808) ∧ (∀ n : Int, IntKind.u64.wrap n = n % 18446744073709551616) ∧ (∀ {p : Prop} [Decidable p], (decide p = true) = p) ∧ (∀ {p : Prop} [Decidable p], (decide p = false) ↔ ¬p) ∧ (∀ {α : Type} [BEq α] [LawfulBEq α] {a b : α}, (a == b) = true ↔ a = b) ∧ (∀ {α : Type} [BEq α] [LawfulBEq α] {a b : α}, (a != b) = true ↔ a ≠ b) ∧ (∀ {α : Type} [BEq α] [LawfulBEq α] {a b : α}, (a == b) = false ↔ a ≠ b) ∧ (∀ {α : Type} [BEq α] [LawfulBEq α] {a b : α}, (a != b) = false ↔ a = b) ∧ (∀ (b : Bool), ((!b) = true) = (b = false)) ∧ (∀ (b : Bool), ((!b) = false) = (b = true)) ∧ (∀ (a b : Bool), ((a && b) = true) = (a = true ∧ b = true)) ∧ (∀ (a b : Bool), ((a || b) = true) = (a = true ∨ b = true)) := ⟨@w_i8, @w_u8, @w_i64, @w_u64, @decide_eq_true_eq, @decide_eq_false_iff_not, @beq_iff_eq, @bne_iff_ne, @beq_eq_false_iff_ne, @bne_eq_false_iff_eq, @Bool.not_eq_true', @Bool.not_eq_false', @Bool.and_eq_true, @Bool.or_eq_true⟩
def OE (n : Nat) (f : Func) : Prop := ∀ {x : List D} {d : D} (o : EL), evalRet Tryz.prog f x o = some (d, selfs o True) → Ret Tryz.prog n x d
theorem o0 : OE 0 Tryz.f0 := Ret.of_eval mixed Tryz.func0 (by kernel_rfl)
theorem o1 : OE 1 Tryz.f1 := Ret.of_eval mixed Tryz.func1 (by kernel_rfl)
theorem o2 : OE 2 Tryz.f2 := Ret.of_eval mixed Tryz.func2 (by kernel_rfl)
theorem o3 : OE 3 Tryz.f3 := Ret.of_eval mixed Tryz.func3 (by kernel_rfl)
theorem o4 : OE 4 Tryz.f4 := Ret.of_eval mixed Tryz.func4 (by kernel_rfl)
theorem o23 : OE 23 Tryz.f23 := Ret.of_eval mixed Tryz.func23 (by kernel_rfl)
theorem o25 : OE 25 Tryz.f25 := Ret.of_eval mixed Tryz.func25 (by kernel_rfl)
theorem o28 : OE 28 Tryz.f28 := Ret.of_eval mixed Tryz.func28 (by kernel_rfl)
theorem o53 : OE 53 Tryz.f53 := Ret.of_eval mixed Tryz.func53 (by kernel_rfl)
theorem o55 : OE 55 Tryz.f55 := Ret.of_eval mixed Tryz.func55 (by kernel_rfl)
theorem o56 : OE 56 Tryz.f56 := Ret.of_eval mixed Tryz.func56 (by kernel_rfl)
theorem o71 : OE 71 Tryz.f71 := Ret.of_eval mixed Tryz.func71 (by kernel_rfl)
theorem o72 : OE 72 Tryz.f72 := Ret.of_eval mixed Tryz.func72 (by kernel_rfl)
theorem o73 : OE 73 Tryz.f73 := Ret.of_eval mixed Tryz.func73 (by kernel_rfl)
theorem o99 : OE 99 Tryz.f99 := Ret.of_eval mixed Tryz.func99 (by kernel_rfl)
theorem o100 : OE 100 Tryz.f100 := Ret.of_eval mixed Tryz.func100 (by kernel_rfl)
theorem o101 : OE 101 Tryz.f101 := Ret.of_eval mixed Tryz.func101 (by kernel_rfl)
theorem o102 : OE 102 Tryz.f102 := Ret.of_eval mixed Tryz.func102 (by kernel_rfl)
theorem o103 : OE 103 Tryz.f103 := Ret.of_eval mixed Tryz.func103 (by kernel_rfl)
theorem o104 : OE 104 Tryz.f104 := Ret.of_eval mixed Tryz.func104 (by kernel_rfl)
theorem o105 : OE 105 Tryz.f105 := Ret.of_eval mixed Tryz.func105 (by kernel_rfl)
theorem o107 : OE 107 Tryz.f107 := Ret.of_eval mixed Tryz.func107 (by kernel_rfl)
theorem o111 : OE 111 Tryz.f111 := Ret.of_eval mixed Tryz.func111 (by kernel_rfl)
theorem o112 : OE 112 Tryz.f112 := Ret.of_eval mixed Tryz.func112 (by kernel_rfl)
theorem o113 : OE 113 Tryz.f113 := Ret.of_eval mixed Tryz.func113 (by kernel_rfl)
theorem o114 : OE 114 Tryz.f114 := Ret.of_eval mixed Tryz.func114 (by kernel_rfl)
theorem o115 : OE 115 Tryz.f115 := Ret.of_eval mixed Tryz.func115 (by kernel_rfl)
theorem o125 : OE 125 Tryz.f125 := Ret.of_eval mixed Tryz.func125 (by kernel_rfl)
theorem o137 : OE 137 Tryz.f137 := Ret.of_eval mixed Tryz.func137 (by kernel_rfl)
theorem o138 : OE 138 Tryz.f138 := Ret.of_eval mixed Tryz.func138 (by kernel_rfl)
theorem o139 : OE 139 Tryz.f139 := Ret.of_eval mixed Tryz.func139 (by kernel_rfl)
theorem o141 : OE 141 Tryz.f141 := Ret.of_eval mixed Tryz.func141 (by kernel_rfl)
theorem o142 : OE 142 Tryz.f142 := Ret.of_eval mixed Tryz.func142 (by kernel_rfl)
theorem o144 : OE 144 Tryz.f144 := Ret.of_eval mixed Tryz.func144 (by kernel_rfl)
theorem o145 : OE 145 Tryz.f145 := Ret.of_eval mixed Tryz.func145 (by kernel_rfl)
theorem o148 : OE 148 Tryz.f148 := Ret.of_eval mixed Tryz.func148 (by kernel_rfl)
theorem o149 : OE 149 Tryz.f149 := Ret.of_eval mixed Tryz.func149 (by kernel_rfl)
theorem o150 : OE 150 Tryz.f150 := Ret.of_eval mixed Tryz.func150 (by kernel_rfl)
theorem o152 : OE 152 Tryz.f152 := Ret.of_eval mixed Tryz.func152 (by kernel_rfl)
theorem o166 : OE 166 Tryz.f166 := Ret.of_eval mixed Tryz.func166 (by kernel_rfl)
theorem o174 : OE 174 Tryz.f174 := Ret.of_eval mixed Tryz.func174 (by kernel_rfl)
theorem o175 : OE 175 Tryz.f175 := Ret.of_eval mixed Tryz.func175 (by kernel_rfl)
theorem o176 : OE 176 Tryz.f176 := Ret.of_eval mixed Tryz.func176 (by kernel_rfl)
end Go.Proofs.YtkpneibifdoecaaGreat
namespace Go.Ev
open Go
def readsX (op dst src base : Int) : Int :=
  if op = 0 then sh8 src
  else if op = 1 ∨ op = 28 ∨ op = 29 then 0
  else if 20 ≤ op ∧ op ≤ 22 then or64 (sh8 dst) (sh8 1)
  else if op = 24 then or64 (or64 (sh8 dst) (sh8 0)) (sh8 2)
  else if op = 26 then sh8 base
  else if op = 27 then or64 (sh8 base) (sh8 src)
  else if op = 30 then 17
  else if op = 31 then 1477
  else if shapeM op = 1 ∨ shapeM op = 2 ∨ shapeM op = 6 then or64 (sh8 dst) (sh8 src)
  else sh8 dst
def writesX (op dst : Int) : Int :=
  if op = 7 ∨ op = 8 ∨ op = 14 ∨ op = 15 ∨ op = 27 ∨ op = 28 ∨ op = 29 then 0
  else if op = 24 then 5
  else if op = 30 then 16
  else if op = 31 then 2051
  else sh8 dst
def readsXX (op w dst src base disp imm cc : Int) : Int := if mayX op w dst src base disp imm cc then readsX op dst src base else 0
def writesXX (op w dst src base disp imm cc : Int) : Int := if mayX op w dst src base disp imm cc then writesX op dst else 0
def addC (w a b : Int) : Bool := decide (cutM (u64 (a + b)) w < cutM a w)
def addO (w a b : Int) : Bool := negM (and64u (xor64 a (u64 (a + b))) (xor64 b (u64 (a + b)))) w
def subC (w a b : Int) : Bool := decide (cutM a w < cutM b w)
def subO (w a b : Int) : Bool := negM (and64u (xor64 a b) (xor64 a (u64 (a - b)))) w
theorem sign_a (v : Int) : IntKind.u64.wrap (IntKind.i64.wrap (IntKind.i8.wrap v)) = IntKind.u64.wrap (IntKind.i8.wrap v) := by rw [w_u64, w_u64, w_i64, w_i8]; omega
theorem sign_b (v : Int) : IntKind.u64.wrap (IntKind.i64.wrap (IntKind.i16.wrap v)) = IntKind.u64.wrap (IntKind.i16.wrap v) := by rw [w_u64, w_u64, w_i64, w_i16]; omega
theorem sign_c (v : Int) : IntKind.u64.wrap (IntKind.i64.wrap (IntKind.i32.wrap v)) = IntKind.u64.wrap (IntKind.i32.wrap v) := by rw [w_u64, w_u64, w_i64, w_i32]; omega
def holdM (cc : Int) (c z s o : Bool) : Bool :=
  if cc = 2 then c else if cc = 3 then !c else if cc = 4 then z else if cc = 5 then !z else if cc = 6 then (c || z) else if cc = 7 then !(c || z)
  else if cc = 12 then (s != o) else if cc = 13 then !(s != o) else if cc = 14 then (z || (s != o)) else !(z || (s != o))
def wrOp (op : Int) : Bool := !(decide (op = 7 ∨ op = 8 ∨ op = 14 ∨ op = 15 ∨ op = 27 ∨ op = 28 ∨ op = 29))
theorem sh8_pos {d : Int} (h0 : 0 ≤ d) (h1 : d ≤ 15) : sh8 d ≠ 0 := by
 obtain ⟨n, rfl⟩ := fin16 h0 h1
 clear h0 h1
 revert n
 decide +kernel
theorem wr_nz {op w dst src base disp imm cc : Int} (hm : mayX op w dst src base disp imm cc = true) (d0 : 0 ≤ dst) (d1 : dst ≤ 15) (hop : wrOp op = true) : (writesXX op w dst src base disp imm cc == 0) = false := by
 rw [beq_eq_false_iff_ne]
 unfold writesXX
 rw [if_pos hm]
 unfold writesX
 simp only [wrOp, Bool.not_eq_true', decide_eq_false_iff_not] at hop
 rw [if_neg hop]
 split
 ·decide
 ·split
  ·decide
  ·split
   ·decide
   ·exact sh8_pos d0 d1
theorem wr_z {op w dst src base disp imm cc : Int} (hop : wrOp op = false) : (writesXX op w dst src base disp imm cc == 0) = true := by
 rw [beq_iff_eq]
 unfold writesXX writesX
 simp only [wrOp, Bool.not_eq_false', decide_eq_true_eq] at hop
 rw [if_pos hop]
 split <;> rfl
def inU (n : Int) : Prop := 0 ≤ n ∧ n ≤ 18446744073709551615
theorem cut_cut (v w : Int) : cutM (cutM v w) w = cutM v w := by
 unfold cutM
 split
 ·omega
 ·split
  ·omega
  ·split
   ·omega
   ·rfl
def bitOf (w k : Int) : Int := IntKind.i64.wrap ((BitVec.ofInt 64 (w.fdiv (2 ^ (min k.toNat 64))) &&& BitVec.ofInt 64 1).toNat : Int)
def mayP (w dst src : Int) : Bool := longM w && regM dst && regM src
theorem st_ne {i d v r : Int} (h : d ≠ i) : st i d v r = r := by unfold st; rw [if_neg h]
theorem cases16 {p : Int → Prop} (h0 : p 0) (h1 : p 1) (h2 : p 2) (h3 : p 3) (h4 : p 4) (h5 : p 5) (h6 : p 6) (h7 : p 7) (h8 : p 8) (h9 : p 9) (h10 : p 10) (h11 : p 11) (h12 : p 12) (h13 : p 13) (h14 : p 14) (h15 : p 15) : ∀ k : Int, 0 ≤ k → k ≤ 15 → p k := by
 intro k k0 k1
 have : k = 0 ∨ k = 1 ∨ k = 2 ∨ k = 3 ∨ k = 4 ∨ k = 5 ∨ k = 6 ∨ k = 7 ∨ k = 8 ∨ k = 9 ∨ k = 10 ∨ k = 11 ∨ k = 12 ∨ k = 13 ∨ k = 14 ∨ k = 15 := by omega
 rcases this with rfl | rfl | rfl | rfl | rfl | rfl | rfl | rfl | rfl | rfl | rfl | rfl | rfl | rfl | rfl | rfl
 ·exact h0
 ·exact h1
 ·exact h2
 ·exact h3
 ·exact h4
 ·exact h5
 ·exact h6
 ·exact h7
 ·exact h8
 ·exact h9
 ·exact h10
 ·exact h11
 ·exact h12
 ·exact h13
 ·exact h14
 ·exact h15
theorem may_long {sh w dst src base disp imm cc : Int} (h : mayS sh w dst src base disp imm cc = true) (hs : sh = 1 ∨ sh = 2 ∨ sh = 3 ∨ sh = 4 ∨ sh = 5 ∨ sh = 6) : longM w = true := by
 rcases hs with rfl | rfl | rfl | rfl | rfl | rfl <;> simp [mayS] at h <;> first | exact h.1 | exact h.1.1 | exact h
theorem may_cc {w dst src base disp imm cc : Int} (h : mayS 6 w dst src base disp imm cc = true) : ccM cc = true := by
 simp [mayS] at h; exact h.2
theorem may_cc' {w dst src base disp imm cc : Int} (h : mayS 10 w dst src base disp imm cc = true) : ccM cc = true := by
 simp [mayS] at h; exact h.2
structure MachS where
  (q0 q1 q2 q3 q4 q5 q6 q7 q8 q9 q10 q11 q12 q13 q14 q15 : Int)
  (fk fc fz fs fo : Bool)
  (pc : Int)
deriving DecidableEq
def MachS.d (m : MachS) : D := .agg [.int .u64 m.q0, .int .u64 m.q1, .int .u64 m.q2, .int .u64 m.q3, .int .u64 m.q4, .int .u64 m.q5, .int .u64 m.q6, .int .u64 m.q7, .int .u64 m.q8, .int .u64 m.q9, .int .u64 m.q10, .int .u64 m.q11, .int .u64 m.q12, .int .u64 m.q13, .int .u64 m.q14, .int .u64 m.q15, .bool m.fk, .bool m.fc, .bool m.fz, .bool m.fs, .bool m.fo, .int .u64 m.pc]
def MachS.rl (m : MachS) : List Int := [m.q0, m.q1, m.q2, m.q3, m.q4, m.q5, m.q6, m.q7, m.q8, m.q9, m.q10, m.q11, m.q12, m.q13, m.q14, m.q15]
def MachS.put (m : MachS) (i v : Int) : MachS := ⟨st 0 i v m.q0, st 1 i v m.q1, st 2 i v m.q2, st 3 i v m.q3, st 4 i v m.q4, st 5 i v m.q5, st 6 i v m.q6, st 7 i v m.q7, st 8 i v m.q8, st 9 i v m.q9, st 10 i v m.q10, st 11 i v m.q11, st 12 i v m.q12, st 13 i v m.q13, st 14 i v m.q14, st 15 i v m.q15, m.fk, m.fc, m.fz, m.fs, m.fo, m.pc⟩
def MachS.flags (m : MachS) (k c z s o : Bool) : MachS := ⟨m.q0, m.q1, m.q2, m.q3, m.q4, m.q5, m.q6, m.q7, m.q8, m.q9, m.q10, m.q11, m.q12, m.q13, m.q14, m.q15, k, c, z, s, o, m.pc⟩
def MachS.at (m : MachS) (v : Int) : MachS := ⟨m.q0, m.q1, m.q2, m.q3, m.q4, m.q5, m.q6, m.q7, m.q8, m.q9, m.q10, m.q11, m.q12, m.q13, m.q14, m.q15, m.fk, m.fc, m.fz, m.fs, m.fo, v⟩
def MachS.zero : MachS := ⟨0, 0, 0, 0, 0, 0, 0, 0, 0, 0, 0, 0, 0, 0, 0, 0, false, false, false, false, false, 0⟩
def XS.len (x : XS) : Int := lenX x.op x.w x.dst x.src x.base x.disp x.imm x.cc
def XS.may (x : XS) : Bool := mayX x.op x.w x.dst x.src x.base x.disp x.imm x.cc
def sopM (op : Int) : Option (Int × Int) :=
  match op with
  | 2 => some (0, 0)
  | 3 => some (4, 0)
  | 4 => some (5, 0)
  | 5 => some (1, 0)
  | 6 => some (10, 0)
  | 7 => some (1, 0)
  | 8 => some (5, 0)
  | 9 => some (0, 1)
  | 10 => some (4, 1)
  | 11 => some (5, 1)
  | 12 => some (1, 1)
  | 13 => some (10, 1)
  | 14 => some (1, 1)
  | 15 => some (5, 1)
  | 16 => some (2, 0)
  | 17 => some (6, 1)
  | 18 => some (7, 1)
  | 19 => some (12, 1)
  | 20 => some (6, 2)
  | 21 => some (7, 2)
  | 22 => some (12, 2)
  | 23 => some (8, 0)
  | _ => none
def secS (m : MachS) (x : XS) (k : Int) : Int := match k with
  | 2 => m.q1
  | 1 => u64 x.imm
  | _ => rg m.rl x.src
def flagS (m : MachS) (s w a b v : Int) : MachS := match s with
  | 0 => m.flags true (addC w a b) (cutM (u64 (a + b)) w == 0) (negM (u64 (a + b)) w) (addO w a b)
  | 1 => m.flags true (subC w a b) (cutM (u64 (a - b)) w == 0) (negM (u64 (a - b)) w) (subO w a b)
  | 8 => m.flags true (subC w 0 a) (cutM (u64 (0 - a)) w == 0) (negM (u64 (0 - a)) w) (subO w 0 a)
  | 4 => m.flags true false (cutM v w == 0) (negM v w) false
  | 5 => m.flags true false (cutM v w == 0) (negM v w) false
  | 10 => m.flags true false (cutM v w == 0) (negM v w) false
  | _ => m.flags false false false false false
def keepOp (op : Int) : Bool := match op with
  | 7 => true
  | 8 => true
  | 14 => true
  | 15 => true
  | _ => false
def doS (m : MachS) (x : XS) (ld : Int) : MachS × Int := match sopM x.op with
  | some (s, k) =>
    let a := rg m.rl x.dst
    let b := secS m x k
    let v := doM s x.w a b
    match keepOp x.op with
    | true => (flagS m s x.w a b v, 0)
    | false => ((flagS m s x.w a b v).put x.dst v, 0)
  | none => match x.op with
    | 0 => (m.put x.dst (cutM (rg m.rl x.src) x.w), 0)
    | 1 => (m.put x.dst (cutM (u64 x.imm) x.w), 0)
    | 24 => match cutM (rg m.rl x.dst) x.w == 0 with
      | true => (.zero, 20)
      | false => match cutM m.q2 x.w == 0 with
        | false => (.zero, 20)
        | true => (({ m with q0 := u64 ((cutM m.q0 x.w).tdiv (cutM (rg m.rl x.dst) x.w)), q2 := (cutM m.q0 x.w).tmod (cutM (rg m.rl x.dst) x.w) }).flags false false false false false, 0)
    | 25 => match m.fk with
      | false => (.zero, 20)
      | true => (m.put x.dst (cutM (if holdM x.cc m.fc m.fz m.fs m.fo then rg m.rl x.src else rg m.rl x.dst) x.w), 0)
    | 26 => (m.put x.dst (cutM ld x.w), 0)
    | 28 => (m.at (u64 (m.pc + u64 x.imm)), 0)
    | 29 => match m.fk with
      | false => (.zero, 20)
      | true => (m.at (if holdM x.cc m.fc m.fz m.fs m.fo then u64 (m.pc + u64 x.imm) else m.pc), 0)
    | 30 => (({ m with q4 := u64 (m.q4 + 8) }).at ld, 0)
    | 31 => ({ m with q0 := ld, q1 := 0, q11 := 0 }, 0)
    | _ => (m, 0)
def execS (m : MachS) (x : XS) (ld : Int) : MachS × Int := match x.may with
  | false => (.zero, 2)
  | true => doS (m.at (u64 (m.pc + u64 x.len))) x ld
def execM (m : MachS) (x : XS) (ld : Int) : MachS := (execS m x ld).1
def execE (m : MachS) (x : XS) (ld : Int) : Int := (execS m x ld).2
theorem execS_no {m : MachS} {x : XS} {ld : Int} (h : x.may = false) : execS m x ld = (.zero, 2) := by unfold execS; rw [h]
theorem execS_may {m : MachS} {x : XS} {ld : Int} (h : x.may = true) : execS m x ld = doS (m.at (u64 (m.pc + u64 x.len))) x ld := by unfold execS; rw [h]
def pcX (m : MachS) (op w dst src base disp imm cc : Int) : Int := u64 (m.pc + u64 (lenX op w dst src base disp imm cc))
def xT (op w dst src base disp imm cc ld : Int) : List D := [.int .i8 op, .int .i8 w, .int .i8 dst, .int .i8 src, .int .i8 base, .int .i64 disp, .int .i64 imm, .int .i8 cc, .int .u64 ld]
def fT (m : MachS) (p : Int) (tl : List D) : List D := .bool m.fk :: .bool m.fc :: .bool m.fz :: .bool m.fs :: .bool m.fo :: .int .u64 p :: tl
def zC : List D := [.int .u64 0, .int .u64 0, .int .u64 0, .int .u64 0, .int .u64 0, .int .u64 0, .int .u64 0, .int .u64 0, .int .u64 0, .int .u64 0, .int .u64 0, .int .u64 0, .int .u64 0, .int .u64 0, .int .u64 0, .int .u64 0, .bool false, .bool false, .bool false, .bool false, .bool false, .int .u64 0]
def MachS.cw (m : MachS) (p : Int) (tl : List D) : List D := .int .u64 m.q0 :: .int .u64 m.q1 :: .int .u64 m.q2 :: .int .u64 m.q3 :: .int .u64 m.q4 :: .int .u64 m.q5 :: .int .u64 m.q6 :: .int .u64 m.q7 :: .int .u64 m.q8 :: .int .u64 m.q9 :: .int .u64 m.q10 :: .int .u64 m.q11 :: .int .u64 m.q12 :: .int .u64 m.q13 :: .int .u64 m.q14 :: .int .u64 m.q15 :: .bool m.fk :: .bool m.fc :: .bool m.fz :: .bool m.fs :: .bool m.fo :: .int .u64 p :: tl
theorem get_regm (m : MachS) (i : Int) (tl : List D) (h0 : 0 ≤ i) (h1 : i ≤ 15) : (D.int .u64 m.q0 :: D.int .u64 m.q1 :: D.int .u64 m.q2 :: D.int .u64 m.q3 :: D.int .u64 m.q4 :: D.int .u64 m.q5 :: D.int .u64 m.q6 :: D.int .u64 m.q7 :: D.int .u64 m.q8 :: D.int .u64 m.q9 :: D.int .u64 m.q10 :: D.int .u64 m.q11 :: D.int .u64 m.q12 :: D.int .u64 m.q13 :: D.int .u64 m.q14 :: D.int .u64 m.q15 :: tl : List D)[0 + i.toNat * 1]? = some (.int .u64 (rg m.rl i)) := get_reg h0 h1
theorem put_regm (m : MachS) (i v : Int) (tl : List D) (h0 : 0 ≤ i) (h1 : i ≤ 15) : PutsA (D.int .u64 m.q0 :: D.int .u64 m.q1 :: D.int .u64 m.q2 :: D.int .u64 m.q3 :: D.int .u64 m.q4 :: D.int .u64 m.q5 :: D.int .u64 m.q6 :: D.int .u64 m.q7 :: D.int .u64 m.q8 :: D.int .u64 m.q9 :: D.int .u64 m.q10 :: D.int .u64 m.q11 :: D.int .u64 m.q12 :: D.int .u64 m.q13 :: D.int .u64 m.q14 :: D.int .u64 m.q15 :: tl : List D) (0 + i.toNat * 1) [D.int .u64 v] (D.int .u64 (m.put i v).q0 :: D.int .u64 (m.put i v).q1 :: D.int .u64 (m.put i v).q2 :: D.int .u64 (m.put i v).q3 :: D.int .u64 (m.put i v).q4 :: D.int .u64 (m.put i v).q5 :: D.int .u64 (m.put i v).q6 :: D.int .u64 (m.put i v).q7 :: D.int .u64 (m.put i v).q8 :: D.int .u64 (m.put i v).q9 :: D.int .u64 (m.put i v).q10 :: D.int .u64 (m.put i v).q11 :: D.int .u64 (m.put i v).q12 :: D.int .u64 (m.put i v).q13 :: D.int .u64 (m.put i v).q14 :: D.int .u64 (m.put i v).q15 :: tl) := put_reg h0 h1
def addrS (m : MachS) (x : XS) : Int × Int × Bool :=
  if x.may = true ∧ (x.op = 26 ∨ x.op = 27) then (u64 (rg m.rl x.base + u64 x.disp), x.w / 8, true)
  else if x.may = true ∧ x.op = 30 then (m.q4, 8, true)
  else (0, 0, false)
def storedS (m : MachS) (x : XS) : Int := if x.may = true ∧ x.op = 27 then cutM (rg m.rl x.src) x.w else 0
def numS (m : MachS) : Int × Bool := if 16 ≤ m.q0 then (0, false) else (IntKind.i64.wrap m.q0, true)
def numV (q : Int) : Int := if 16 ≤ q then 0 else IntKind.i64.wrap q
def numB (q : Int) : Bool := !decide (16 ≤ q)
def argsS (m : MachS) : List Int := if 16 ≤ m.q0 then [] else [m.q7, m.q6, m.q2, m.q10, m.q8].take (m.q0.toNat % 6)
def wD (l : List Int) : List D := l.map (fun x => .int .u64 x)
def toccM (cc : Int) : Int × Bool :=
  if cc = 0 then (4, true) else if cc = 1 then (5, true) else if cc = 2 then (7, true) else if cc = 3 then (3, true) else if cc = 4 then (2, true) else if cc = 5 then (6, true)
  else if cc = 6 then (15, true) else if cc = 7 then (13, true) else if cc = 8 then (12, true) else if cc = 9 then (14, true) else if cc = 10 then (5, true) else (0, false)
def ccM' (cc : Int) : Int × Bool :=
  if cc = 4 then (0, true) else if cc = 5 then (1, true) else if cc = 7 then (2, true) else if cc = 3 then (3, true) else if cc = 2 then (4, true) else if cc = 6 then (5, true)
  else if cc = 15 then (6, true) else if cc = 13 then (7, true) else if cc = 12 then (8, true) else if cc = 14 then (9, true) else (0, false)
structure RgS where
  (r0 r1 r2 r3 r4 r5 r6 r7 r8 r9 r10 : Int)
deriving DecidableEq
def RgS.c (r : RgS) : List D := [.int .u64 r.r0, .int .u64 r.r1, .int .u64 r.r2, .int .u64 r.r3, .int .u64 r.r4, .int .u64 r.r5, .int .u64 r.r6, .int .u64 r.r7, .int .u64 r.r8, .int .u64 r.r9, .int .u64 r.r10]
def RgS.d (r : RgS) : D := .agg r.c
def RgS.l (r : RgS) : List Int := [r.r0, r.r1, r.r2, r.r3, r.r4, r.r5, r.r6, r.r7, r.r8, r.r9, r.r10]
def RgS.get (r : RgS) (i : Int) : Int := rg r.l i
def RgS.put (r : RgS) (i v : Int) : RgS := ⟨st 0 i v r.r0, st 1 i v r.r1, st 2 i v r.r2, st 3 i v r.r3, st 4 i v r.r4, st 5 i v r.r5, st 6 i v r.r6, st 7 i v r.r7, st 8 i v r.r8, st 9 i v r.r9, st 10 i v r.r10⟩
def RgS.zero : RgS := ⟨0, 0, 0, 0, 0, 0, 0, 0, 0, 0, 0⟩
theorem fin11 {i : Int} (h0 : 0 ≤ i) (h1 : i ≤ 10) : i = 0 ∨ i = 1 ∨ i = 2 ∨ i = 3 ∨ i = 4 ∨ i = 5 ∨ i = 6 ∨ i = 7 ∨ i = 8 ∨ i = 9 ∨ i = 10 := by omega
section
variable {r0 r1 r2 r3 r4 r5 r6 r7 r8 r9 r10 i v : Int} {tl : List D}
end
def MachS.c (m : MachS) : List D := [.int .u64 m.q0, .int .u64 m.q1, .int .u64 m.q2, .int .u64 m.q3, .int .u64 m.q4, .int .u64 m.q5, .int .u64 m.q6, .int .u64 m.q7, .int .u64 m.q8, .int .u64 m.q9, .int .u64 m.q10, .int .u64 m.q11, .int .u64 m.q12, .int .u64 m.q13, .int .u64 m.q14, .int .u64 m.q15, .bool m.fk, .bool m.fc, .bool m.fz, .bool m.fs, .bool m.fo, .int .u64 m.pc]
def IrS.x (s : IrS) : XS := ⟨s.op, s.w, s.dst, s.src, s.base, s.disp, s.imm, s.cc⟩
def scrM (n : Int) : Bool := decide (n = 0 ∨ n = 1 ∨ n = 2 ∨ n = 11)
theorem wk_bool {a b : Bool} (h : a = b) : wk (.bool a) (.bool b) := by subst h; simp [wk]
def namesM (op w dst src base disp imm cc : Int) : Int := or64 (readsXX op w dst src base disp imm cc) (writesXX op w dst src base disp imm cc)
def ownM (op w dst src base disp imm cc : Int) : Bool := andNot64 (namesM op w dst src base disp imm cc) 2055 == 0
def zeroX (op w dst src base disp imm cc : Int) : Bool := decide (op = 0 ∧ w = 0 ∧ dst = 0 ∧ src = 0 ∧ base = 0 ∧ disp = 0 ∧ imm = 0 ∧ cc = 0)
def mayI (kind op w dst src base disp imm cc reg phys num to : Int) : Bool :=
  if kind = 0 then mayX op w dst src base disp imm cc && decide (op < 28) && ownM op w dst src base disp imm cc && decide (reg = 0 ∧ phys = 0 ∧ num = 0 ∧ to = 0)
  else if kind = 1 ∨ kind = 2 then decide (0 ≤ reg ∧ reg ≤ 10) && scrM phys && zeroX op w dst src base disp imm cc && decide (num = 0 ∧ to = 0)
  else if kind = 3 then decide (0 ≤ num ∧ num ≤ 15) && zeroX op w dst src base disp imm cc && decide (reg = 0 ∧ phys = 0 ∧ to = 0)
  else if kind = 4 then ccM cc && zeroX (op - 29) w dst src base disp imm 0 && decide (0 ≤ to ∧ to ≤ 64) && decide (reg = 0 ∧ phys = 0 ∧ num = 0)
  else if kind = 5 then decide (0 ≤ to ∧ to ≤ 64) && zeroX op w dst src base disp imm cc && decide (reg = 0 ∧ phys = 0 ∧ num = 0)
  else if kind = 6 then zeroX op w dst src base disp imm cc && decide (reg = 0 ∧ phys = 0 ∧ num = 0 ∧ to = 0)
  else false
def stopsI (kind op : Int) : Bool := decide ((3 ≤ kind ∧ kind ≤ 6) ∨ (kind = 0 ∧ (op = 26 ∨ op = 27)))
def IrS.ok (s : IrS) : Prop := -128 ≤ s.kind ∧ s.kind ≤ 127 ∧ s.op ≤ 127 ∧ s.cc ≤ 127 ∧ s.phys ≤ 127 ∧ -128 ≤ s.reg ∧ s.reg ≤ 127
def AllOk (l : List IrS) : Prop := ∀ s ∈ l, s.ok
def IrS.may (s : IrS) : Bool := mayI s.kind s.op s.w s.dst s.src s.base s.disp s.imm s.cc s.reg s.phys s.num s.to
def IrS.stops (s : IrS) : Bool := stopsI s.kind s.op
def badI (l : List IrS) : Option Nat := l.findIdx? (fun s => !s.may)
def chkI (l : List IrS) : Int × Int := match badI l with
  | some k => ((k : Int), 2)
  | none => (0, 0)
def runI : List IrS → RgS → MachS → RgS × MachS × Nat × Int
  | [], r, m => (r, m, 0, 0)
  | s :: t, r, m => match s.stops with
    | true => (r, m, t.length + 1, 0)
    | false => if s.kind = 1 then runI t r (m.put s.phys (r.get s.reg))
      else if s.kind = 2 then runI t (r.put s.reg (rg m.rl s.phys)) m
      else if (execS m s.x 0).2 = 0 then runI t r ((execS m s.x 0).1.at 0)
      else (.zero, .zero, t.length + 1, (execS m s.x 0).2)
def restI (l : List IrS) (r : RgS) (m : MachS) : List IrS := l.drop (l.length - (runI l r m).2.2.1)
def doI (l : List IrS) (r : RgS) : RgS × MachS × Int × Int :=
  if (chkI l).2 = 0 then
    let q := runI l r .zero
    if q.2.2.2 = 0 then (q.1, q.2.1, ((l.length - q.2.2.1 : Nat) : Int), 0) else (.zero, .zero, 0, q.2.2.2)
  else (.zero, .zero, 0, 2)
def namedI (k : Int) (n : Int) : List IrS → Int
  | [] => n
  | s :: t => namedI k (if s.kind = k ∧ 0 ≤ s.reg ∧ s.reg ≤ 10 then or64 n (sh8 s.reg) else n) t
def homeP (k n : Int) : Bool := decide (k = 1 ∧ (n = 3 ∨ n = 9 ∨ n = 6 ∨ n = 7 ∨ n = 8 ∨ n = 10))
def plOK (k n : Int) : Bool := decide (k = 0 ∧ n = 0) || homeP k n || decide (k = 2 ∧ 0 ≤ n ∧ n < 11)
def mayPl (kl nl : List Int) : Bool := (List.range 11).all fun i => plOK (rg kl (i : Int)) (rg nl (i : Int))
section
variable {k0 n0 k1 n1 k2 n2 k3 n3 k4 n4 k5 n5 k6 n6 k7 n7 k8 n8 k9 n9 k10 n10 i : Int} {tl : List D}
end
structure PlS where
  k : Int → Int
  n : Int → Int
def PlS.d (p : PlS) : D := .agg [.int .i8 (p.k 0), .int .i8 (p.n 0), .int .i8 (p.k 1), .int .i8 (p.n 1), .int .i8 (p.k 2), .int .i8 (p.n 2), .int .i8 (p.k 3), .int .i8 (p.n 3), .int .i8 (p.k 4), .int .i8 (p.n 4), .int .i8 (p.k 5), .int .i8 (p.n 5), .int .i8 (p.k 6), .int .i8 (p.n 6), .int .i8 (p.k 7), .int .i8 (p.n 7), .int .i8 (p.k 8), .int .i8 (p.n 8), .int .i8 (p.k 9), .int .i8 (p.n 9), .int .i8 (p.k 10), .int .i8 (p.n 10)]
section
variable {p : PlS} {i : Int} {tl : List D}
theorem getp (h0 : 0 ≤ i) (h1 : i ≤ 10) : GetsA (.int .i8 (p.k 0) :: .int .i8 (p.n 0) :: .int .i8 (p.k 1) :: .int .i8 (p.n 1) :: .int .i8 (p.k 2) :: .int .i8 (p.n 2) :: .int .i8 (p.k 3) :: .int .i8 (p.n 3) :: .int .i8 (p.k 4) :: .int .i8 (p.n 4) :: .int .i8 (p.k 5) :: .int .i8 (p.n 5) :: .int .i8 (p.k 6) :: .int .i8 (p.n 6) :: .int .i8 (p.k 7) :: .int .i8 (p.n 7) :: .int .i8 (p.k 8) :: .int .i8 (p.n 8) :: .int .i8 (p.k 9) :: .int .i8 (p.n 9) :: .int .i8 (p.k 10) :: .int .i8 (p.n 10) :: tl : List D) (0 + i.toNat * 2) 2 [.int .i8 (p.k i), .int .i8 (p.n i)] := by
 rcases fin11 h0 h1 with rfl | rfl | rfl | rfl | rfl | rfl | rfl | rfl | rfl | rfl | rfl <;> exact ⟨rfl, by simp⟩
theorem getp' (h0 : 0 ≤ i) (h1 : i ≤ 10) : GetsA (.int .i8 (p.k 0) :: .int .i8 (p.n 0) :: .int .i8 (p.k 1) :: .int .i8 (p.n 1) :: .int .i8 (p.k 2) :: .int .i8 (p.n 2) :: .int .i8 (p.k 3) :: .int .i8 (p.n 3) :: .int .i8 (p.k 4) :: .int .i8 (p.n 4) :: .int .i8 (p.k 5) :: .int .i8 (p.n 5) :: .int .i8 (p.k 6) :: .int .i8 (p.n 6) :: .int .i8 (p.k 7) :: .int .i8 (p.n 7) :: .int .i8 (p.k 8) :: .int .i8 (p.n 8) :: .int .i8 (p.k 9) :: .int .i8 (p.n 9) :: .int .i8 (p.k 10) :: .int .i8 (p.n 10) :: tl : List D) (i.toNat * 2) 2 [.int .i8 (p.k i), .int .i8 (p.n i)] := by
 rcases fin11 h0 h1 with rfl | rfl | rfl | rfl | rfl | rfl | rfl | rfl | rfl | rfl | rfl <;> exact ⟨rfl, by simp⟩
theorem getpk (h0 : 0 ≤ i) (h1 : i ≤ 10) : (.int .i8 (p.k 0) :: .int .i8 (p.n 0) :: .int .i8 (p.k 1) :: .int .i8 (p.n 1) :: .int .i8 (p.k 2) :: .int .i8 (p.n 2) :: .int .i8 (p.k 3) :: .int .i8 (p.n 3) :: .int .i8 (p.k 4) :: .int .i8 (p.n 4) :: .int .i8 (p.k 5) :: .int .i8 (p.n 5) :: .int .i8 (p.k 6) :: .int .i8 (p.n 6) :: .int .i8 (p.k 7) :: .int .i8 (p.n 7) :: .int .i8 (p.k 8) :: .int .i8 (p.n 8) :: .int .i8 (p.k 9) :: .int .i8 (p.n 9) :: .int .i8 (p.k 10) :: .int .i8 (p.n 10) :: tl : List D)[0 + i.toNat * 2 + 0]? = some (.int .i8 (p.k i)) := by
 rcases fin11 h0 h1 with rfl | rfl | rfl | rfl | rfl | rfl | rfl | rfl | rfl | rfl | rfl <;> rfl
end
def PlS.okAt (p : PlS) (i : Int) : Bool := plOK (p.k i) (p.n i)
def PlS.mayU (p : PlS) : Nat → Nat → Bool
  | 0, _ => true
  | m + 1, i => p.okAt i && p.mayU m (i + 1)
def PlS.may (p : PlS) : Bool := p.mayU 11 0
theorem PlS.mayU_iff (p : PlS) : ∀ m i, p.mayU m i = true ↔ ∀ j : Nat, i ≤ j → j < i + m → p.okAt j = true
 | 0, i => by simp [PlS.mayU]; omega
 | m + 1, i => by
  rw [PlS.mayU, Bool.and_eq_true, PlS.mayU_iff p m (i + 1)]
  constructor
  ·rintro ⟨h1, h2⟩ j h3 h4
   rcases Nat.eq_or_lt_of_le h3 with e | e
   ·subst e; exact h1
   ·exact h2 j e (by omega)
  ·intro h
   exact ⟨h i (Nat.le_refl _) (by omega), fun j h1 h2 => h j (by omega) (by omega)⟩
theorem PlS.may_at {p : PlS} (h : p.may = true) {i : Int} (h0 : 0 ≤ i) (h1 : i ≤ 10) : p.okAt i = true := by
 have := (p.mayU_iff 11 0).1 h i.toNat (by omega) (by omega)
 rwa [Int.toNat_of_nonneg h0] at this
theorem plOK_form {k n : Int} (h : plOK k n = true) : (k = 0 ∧ n = 0) ∨ (k = 1 ∧ (n = 3 ∨ n = 9 ∨ n = 6 ∨ n = 7 ∨ n = 8 ∨ n = 10)) ∨ (k = 2 ∧ 0 ≤ n ∧ n < 11) := by
 unfold plOK homeP at h
 simp only [Bool.or_eq_true, decide_eq_true_eq] at h
 omega
def PlS.spU (p : PlS) : Nat → Int
  | 0 => 0
  | i + 1 => if p.k i = 2 then (if p.n i + 1 > p.spU i then p.n i + 1 else p.spU i) else p.spU i
def PlS.sp (p : PlS) : Int := p.spU 11
def PlS.hit (p : PlS) (i k : Int) : Bool := decide (p.k i ≠ 0 ∧ p.k i = p.k k ∧ p.n i = p.n k)
def PlS.hitU (p : PlS) (i : Int) : Nat → Nat → Bool
  | 0, _ => false
  | m + 1, k => p.hit i k || p.hitU i m (k + 1)
def PlS.sameU (p : PlS) : Nat → Nat → Bool
  | 0, _ => false
  | m + 1, i => p.hitU i i 0 || p.sameU m (i + 1)
def PlS.apart (p : PlS) : Bool := !p.sameU 11 0
abbrev putX (dst n : Int) : XS := ⟨1, 32, dst, 0, 0, 0, n, 0⟩
abbrev storeX (src slot : Int) : XS := ⟨27, 64, 0, src, 4, 8 * slot, 0, 0⟩
def intoX (to k n : Int) : XS := if k = 1 then ⟨0, 64, to, n, 0, 0, 0, 0⟩ else if k = 2 then ⟨26, 64, to, 0, 4, 8 * n, 0, 0⟩ else putX to 0
def giveX (phys k n : Int) : List XS := if k = 1 then [⟨0, 64, n, phys, 0, 0, 0, 0⟩] else if k = 2 then [storeX phys n] else []
def setX (v k n : Int) : List XS := if k = 2 then [putX 0 v, storeX 0 n] else if k = 1 then [putX n v] else []
def proX (p : PlS) : List XS := (if p.sp > 0 then [⟨12, 64, 4, 0, 0, 0, 8 * p.sp, 0⟩] else []) ++ (setX 2097152 (p.k 1) (p.n 1) ++ setX 3145792 (p.k 10) (p.n 10))
def exitX (p : PlS) : List XS := intoX 0 (p.k 0) (p.n 0) :: ((if p.sp > 0 then [⟨9, 64, 4, 0, 0, 0, 8 * p.sp, 0⟩] else []) ++ [⟨30, 0, 0, 0, 0, 0, 0, 0⟩])
def slotOk (x : XS) (n : Nat) : Bool := decide (x.base = 4 ∧ x.w = 64 ∧ x.disp % 8 = 0 ∧ 0 ≤ x.disp ∧ x.disp / 8 < (n : Int))
def slotPut (x : XS) (m : MachS) (s : List Int) : List Int := if x.op = 27 then s.set (x.disp / 8).toNat (rg m.rl x.src) else s
def doneM : List XS → MachS → List Int → MachS × List Int × Bool
  | [], m, s => (m, s, true)
  | x :: t, m, s => if x.op = 31 ∨ x.op = 30 then (m, s, true)
    else if x.op = 26 ∨ x.op = 27 then
      (if slotOk x s.length = true then
        (if execE m x (s.getD (x.disp / 8).toNat 0) = 0 then doneM t (execM m x (s.getD (x.disp / 8).toNat 0)) (slotPut x m s) else (m, slotPut x m s, false))
       else (m, s, false))
    else if execE m x 0 = 0 then doneM t (execM m x 0) s else (m, s, false)
end Go.Ev
namespace Go.Proofs.YtkpneibifdoecaaGreat
open Go Go.Ev
abbrev un (n : Nat) : List D := List.replicate n .undef
abbrev plC (p : PlS) : List D := [.int .i8 (p.k 0), .int .i8 (p.n 0), .int .i8 (p.k 1), .int .i8 (p.n 1), .int .i8 (p.k 2), .int .i8 (p.n 2), .int .i8 (p.k 3), .int .i8 (p.n 3), .int .i8 (p.k 4), .int .i8 (p.n 4), .int .i8 (p.k 5), .int .i8 (p.n 5), .int .i8 (p.k 6), .int .i8 (p.n 6), .int .i8 (p.k 7), .int .i8 (p.n 7), .int .i8 (p.k 8), .int .i8 (p.n 8), .int .i8 (p.k 9), .int .i8 (p.n 9), .int .i8 (p.k 10), .int .i8 (p.n 10)]
abbrev maC (m : MachS) : List D := [.int .u64 m.q0, .int .u64 m.q1, .int .u64 m.q2, .int .u64 m.q3, .int .u64 m.q4, .int .u64 m.q5, .int .u64 m.q6, .int .u64 m.q7, .int .u64 m.q8, .int .u64 m.q9, .int .u64 m.q10, .int .u64 m.q11, .int .u64 m.q12, .int .u64 m.q13, .int .u64 m.q14, .int .u64 m.q15, .bool m.fk, .bool m.fc, .bool m.fz, .bool m.fs, .bool m.fo, .int .u64 m.pc]
abbrev reC (r : MachS) : List D := [.int .u64 r.q0, .int .u64 r.q1, .int .u64 r.q2, .int .u64 r.q3, .int .u64 r.q4, .int .u64 r.q5, .int .u64 r.q6, .int .u64 r.q7, .int .u64 r.q8, .int .u64 r.q9, .int .u64 r.q10, .int .u64 r.q11, .int .u64 r.q12, .int .u64 r.q13, .int .u64 r.q14, .int .u64 r.q15]
abbrev m0C (r : MachS) : List D := [.int .u64 r.q0, .int .u64 r.q1, .int .u64 r.q2, .int .u64 r.q3, .int .u64 r.q4, .int .u64 r.q5, .int .u64 r.q6, .int .u64 r.q7, .int .u64 r.q8, .int .u64 r.q9, .int .u64 r.q10, .int .u64 r.q11, .int .u64 r.q12, .int .u64 r.q13, .int .u64 r.q14, .int .u64 r.q15, .bool false, .bool false, .bool false, .bool false, .bool false, .int .u64 0]
abbrev zeC : List D := [.int .u64 0, .int .u64 0, .int .u64 0, .int .u64 0, .int .u64 0, .int .u64 0, .int .u64 0, .int .u64 0, .int .u64 0, .int .u64 0, .int .u64 0, .int .u64 0, .int .u64 0, .int .u64 0, .int .u64 0, .int .u64 0, .bool false, .bool false, .bool false, .bool false, .bool false, .int .u64 0]
abbrev sl0C : List D := List.map D.demote (repD 11 [D.int .u64 0])
theorem amay_ok (k n : Int) : Ret Tryz.prog 56 ([.agg [.int .i8 k, .int .i8 n], .bool false]) (.bool (homeP k n)) := by
 by_cases h0 : k = 1
 ·subst h0
  let E1 : EL := [tT, tT, .inl, tF]
  by_cases h1 : n = 3
  ·subst h1
   exact (o56 (d := .bool true) (E1 ++ [.keep [(0, .box [.int .i8 1, .int .i8 3])], tT, tT, tT, .inl, .inl, .go 64, tT, tT, .get ([.int .i8 3, .int .i8 9, .int .i8 6, .int .i8 7, .int .i8 8, .int .i8 10]) 0 (.int .i8 3) rfl, tT, tT]) (by kernel_rfl)).to (by clear E1; first | (simp [wk, homeP, ]; done) | (apply wk_bool; unfold homeP; symm; first | (rw [decide_eq_true_eq]; simp only [beq_iff_eq, beq_eq_false_iff_ne, ne_eq] at *; omega) | (rw [decide_eq_false_iff_not]; simp only [beq_iff_eq, beq_eq_false_iff_ne, ne_eq] at *; omega)))
  by_cases h2 : n = 9
  ·subst h2
   exact (o56 (d := .bool true) (E1 ++ [.keep [(0, .box [.int .i8 1, .int .i8 9])], tT, tT, tT, .inl, .inl, .go 64, tT, tT, .get ([.int .i8 3, .int .i8 9, .int .i8 6, .int .i8 7, .int .i8 8, .int .i8 10]) 0 (.int .i8 3) rfl, tC (neOf h1), tT, tT, .get ([.int .i8 3, .int .i8 9, .int .i8 6, .int .i8 7, .int .i8 8, .int .i8 10]) 1 (.int .i8 9) rfl, tT, tT]) (by kernel_rfl)).to (by clear E1; first | (simp [wk, homeP, h1]; done) | (apply wk_bool; unfold homeP; symm; first | (rw [decide_eq_true_eq]; simp only [beq_iff_eq, beq_eq_false_iff_ne, ne_eq] at *; omega) | (rw [decide_eq_false_iff_not]; simp only [beq_iff_eq, beq_eq_false_iff_ne, ne_eq] at *; omega)))
  by_cases h3 : n = 6
  ·subst h3
   exact (o56 (d := .bool true) (E1 ++ [.keep [(0, .box [.int .i8 1, .int .i8 6])], tT, tT, tT, .inl, .inl, .go 64, tT, tT, .get ([.int .i8 3, .int .i8 9, .int .i8 6, .int .i8 7, .int .i8 8, .int .i8 10]) 0 (.int .i8 3) rfl, tC (neOf h1), tT, tT, .get ([.int .i8 3, .int .i8 9, .int .i8 6, .int .i8 7, .int .i8 8, .int .i8 10]) 1 (.int .i8 9) rfl, tC (neOf h2), tT, tT, .get ([.int .i8 3, .int .i8 9, .int .i8 6, .int .i8 7, .int .i8 8, .int .i8 10]) 2 (.int .i8 6) rfl, tT, tT]) (by kernel_rfl)).to (by clear E1; first | (simp [wk, homeP, h1, h2]; done) | (apply wk_bool; unfold homeP; symm; first | (rw [decide_eq_true_eq]; simp only [beq_iff_eq, beq_eq_false_iff_ne, ne_eq] at *; omega) | (rw [decide_eq_false_iff_not]; simp only [beq_iff_eq, beq_eq_false_iff_ne, ne_eq] at *; omega)))
  by_cases h4 : n = 7
  ·subst h4
   exact (o56 (d := .bool true) (E1 ++ [.keep [(0, .box [.int .i8 1, .int .i8 7])], tT, tT, tT, .inl, .inl, .go 64, tT, tT, .get ([.int .i8 3, .int .i8 9, .int .i8 6, .int .i8 7, .int .i8 8, .int .i8 10]) 0 (.int .i8 3) rfl, tC (neOf h1), tT, tT, .get ([.int .i8 3, .int .i8 9, .int .i8 6, .int .i8 7, .int .i8 8, .int .i8 10]) 1 (.int .i8 9) rfl, tC (neOf h2), tT, tT, .get ([.int .i8 3, .int .i8 9, .int .i8 6, .int .i8 7, .int .i8 8, .int .i8 10]) 2 (.int .i8 6) rfl, tC (neOf h3), tT, tT, .get ([.int .i8 3, .int .i8 9, .int .i8 6, .int .i8 7, .int .i8 8, .int .i8 10]) 3 (.int .i8 7) rfl, tT, tT]) (by kernel_rfl)).to (by clear E1; first | (simp [wk, homeP, h1, h2, h3]; done) | (apply wk_bool; unfold homeP; symm; first | (rw [decide_eq_true_eq]; simp only [beq_iff_eq, beq_eq_false_iff_ne, ne_eq] at *; omega) | (rw [decide_eq_false_iff_not]; simp only [beq_iff_eq, beq_eq_false_iff_ne, ne_eq] at *; omega)))
  by_cases h5 : n = 8
  ·subst h5
   exact (o56 (d := .bool true) (E1 ++ [.keep [(0, .box [.int .i8 1, .int .i8 8])], tT, tT, tT, .inl, .inl, .go 64, tT, tT, .get ([.int .i8 3, .int .i8 9, .int .i8 6, .int .i8 7, .int .i8 8, .int .i8 10]) 0 (.int .i8 3) rfl, tC (neOf h1), tT, tT, .get ([.int .i8 3, .int .i8 9, .int .i8 6, .int .i8 7, .int .i8 8, .int .i8 10]) 1 (.int .i8 9) rfl, tC (neOf h2), tT, tT, .get ([.int .i8 3, .int .i8 9, .int .i8 6, .int .i8 7, .int .i8 8, .int .i8 10]) 2 (.int .i8 6) rfl, tC (neOf h3), tT, tT, .get ([.int .i8 3, .int .i8 9, .int .i8 6, .int .i8 7, .int .i8 8, .int .i8 10]) 3 (.int .i8 7) rfl, tC (neOf h4), tT, tT, .get ([.int .i8 3, .int .i8 9, .int .i8 6, .int .i8 7, .int .i8 8, .int .i8 10]) 4 (.int .i8 8) rfl, tT, tT]) (by kernel_rfl)).to (by clear E1; first | (simp [wk, homeP, h1, h2, h3, h4]; done) | (apply wk_bool; unfold homeP; symm; first | (rw [decide_eq_true_eq]; simp only [beq_iff_eq, beq_eq_false_iff_ne, ne_eq] at *; omega) | (rw [decide_eq_false_iff_not]; simp only [beq_iff_eq, beq_eq_false_iff_ne, ne_eq] at *; omega)))
  by_cases h6 : n = 10
  ·subst h6
   exact (o56 (d := .bool true) (E1 ++ [.keep [(0, .box [.int .i8 1, .int .i8 10])], tT, tT, tT, .inl, .inl, .go 64, tT, tT, .get ([.int .i8 3, .int .i8 9, .int .i8 6, .int .i8 7, .int .i8 8, .int .i8 10]) 0 (.int .i8 3) rfl, tC (neOf h1), tT, tT, .get ([.int .i8 3, .int .i8 9, .int .i8 6, .int .i8 7, .int .i8 8, .int .i8 10]) 1 (.int .i8 9) rfl, tC (neOf h2), tT, tT, .get ([.int .i8 3, .int .i8 9, .int .i8 6, .int .i8 7, .int .i8 8, .int .i8 10]) 2 (.int .i8 6) rfl, tC (neOf h3), tT, tT, .get ([.int .i8 3, .int .i8 9, .int .i8 6, .int .i8 7, .int .i8 8, .int .i8 10]) 3 (.int .i8 7) rfl, tC (neOf h4), tT, tT, .get ([.int .i8 3, .int .i8 9, .int .i8 6, .int .i8 7, .int .i8 8, .int .i8 10]) 4 (.int .i8 8) rfl, tC (neOf h5), tT, tT, .get ([.int .i8 3, .int .i8 9, .int .i8 6, .int .i8 7, .int .i8 8, .int .i8 10]) 5 (.int .i8 10) rfl, tT, tT]) (by kernel_rfl)).to (by clear E1; first | (simp [wk, homeP, h1, h2, h3, h4, h5]; done) | (apply wk_bool; unfold homeP; symm; first | (rw [decide_eq_true_eq]; simp only [beq_iff_eq, beq_eq_false_iff_ne, ne_eq] at *; omega) | (rw [decide_eq_false_iff_not]; simp only [beq_iff_eq, beq_eq_false_iff_ne, ne_eq] at *; omega)))
  exact (o56 (d := .bool false) (E1 ++ [.keep [(0, .box [.int .i8 1, .int .i8 n])], tT, tT, tT, .inl, .inl, .go 64, tT, tT, .get ([.int .i8 3, .int .i8 9, .int .i8 6, .int .i8 7, .int .i8 8, .int .i8 10]) 0 (.int .i8 3) rfl, tC (neOf h1), tT, tT, .get ([.int .i8 3, .int .i8 9, .int .i8 6, .int .i8 7, .int .i8 8, .int .i8 10]) 1 (.int .i8 9) rfl, tC (neOf h2), tT, tT, .get ([.int .i8 3, .int .i8 9, .int .i8 6, .int .i8 7, .int .i8 8, .int .i8 10]) 2 (.int .i8 6) rfl, tC (neOf h3), tT, tT, .get ([.int .i8 3, .int .i8 9, .int .i8 6, .int .i8 7, .int .i8 8, .int .i8 10]) 3 (.int .i8 7) rfl, tC (neOf h4), tT, tT, .get ([.int .i8 3, .int .i8 9, .int .i8 6, .int .i8 7, .int .i8 8, .int .i8 10]) 4 (.int .i8 8) rfl, tC (neOf h5), tT, tT, .get ([.int .i8 3, .int .i8 9, .int .i8 6, .int .i8 7, .int .i8 8, .int .i8 10]) 5 (.int .i8 10) rfl, tC (neOf h6), tF, tT]) (by kernel_rfl)).to (by clear E1; first | (simp [wk, homeP, h1, h2, h3, h4, h5, h6]; done) | (apply wk_bool; unfold homeP; symm; first | (rw [decide_eq_true_eq]; simp only [beq_iff_eq, beq_eq_false_iff_ne, ne_eq] at *; omega) | (rw [decide_eq_false_iff_not]; simp only [beq_iff_eq, beq_eq_false_iff_ne, ne_eq] at *; omega)))
 exact (o56 (d := .bool false) (List.replicate 5 (tC (eT (neOf h0))) ++ [tC (neOf h0)]) (by kernel_rfl)).to (by first | (simp [wk, homeP, h0]; done) | (apply wk_bool; unfold homeP; symm; first | (rw [decide_eq_true_eq]; simp only [beq_iff_eq, beq_eq_false_iff_ne, ne_eq] at *; omega) | (rw [decide_eq_false_iff_not]; simp only [beq_iff_eq, beq_eq_false_iff_ne, ne_eq] at *; omega)))
theorem rhome_ok (n : Int) : Ret Tryz.prog 53 ([.bool false, .int .i8 n]) (.bool (homeP 1 n)) := by
 let E1 : EL := [.inl, tF, .go 64, tT, tT, .get ([.int .i8 3, .int .i8 9, .int .i8 6, .int .i8 7, .int .i8 8, .int .i8 10]) 0 (.int .i8 3) rfl]
 rcases bft (3 == n) with h0 | h0
 ·exact (o53 (d := .bool true) (E1 ++ [tC h0]) (by kernel_rfl)).to (by clear E1; apply wk_bool; unfold homeP; (try simp only [beq_iff_eq, beq_eq_false_iff_ne, ne_eq] at *); symm; first | exact decide_eq_true ⟨trivial, by omega⟩ | exact decide_eq_false (fun q => by have := q.2; omega))
 let E2 : EL := E1 ++ [tC h0, tT, tT, .get ([.int .i8 3, .int .i8 9, .int .i8 6, .int .i8 7, .int .i8 8, .int .i8 10]) 1 (.int .i8 9) rfl]
 rcases bft (9 == n) with h1 | h1
 ·exact (o53 (d := .bool true) (E2 ++ [tC h1]) (by kernel_rfl)).to (by clear E1 E2; apply wk_bool; unfold homeP; (try simp only [beq_iff_eq, beq_eq_false_iff_ne, ne_eq] at *); symm; first | exact decide_eq_true ⟨trivial, by omega⟩ | exact decide_eq_false (fun q => by have := q.2; omega))
 let E3 : EL := E2 ++ [tC h1, tT, tT, .get ([.int .i8 3, .int .i8 9, .int .i8 6, .int .i8 7, .int .i8 8, .int .i8 10]) 2 (.int .i8 6) rfl]
 rcases bft (6 == n) with h2 | h2
 ·exact (o53 (d := .bool true) (E3 ++ [tC h2]) (by kernel_rfl)).to (by clear E1 E2 E3; apply wk_bool; unfold homeP; (try simp only [beq_iff_eq, beq_eq_false_iff_ne, ne_eq] at *); symm; first | exact decide_eq_true ⟨trivial, by omega⟩ | exact decide_eq_false (fun q => by have := q.2; omega))
 let E4 : EL := E3 ++ [tC h2, tT, tT, .get ([.int .i8 3, .int .i8 9, .int .i8 6, .int .i8 7, .int .i8 8, .int .i8 10]) 3 (.int .i8 7) rfl]
 rcases bft (7 == n) with h3 | h3
 ·exact (o53 (d := .bool true) (E4 ++ [tC h3]) (by kernel_rfl)).to (by clear E1 E2 E3 E4; apply wk_bool; unfold homeP; (try simp only [beq_iff_eq, beq_eq_false_iff_ne, ne_eq] at *); symm; first | exact decide_eq_true ⟨trivial, by omega⟩ | exact decide_eq_false (fun q => by have := q.2; omega))
 let E5 : EL := E4 ++ [tC h3, tT, tT, .get ([.int .i8 3, .int .i8 9, .int .i8 6, .int .i8 7, .int .i8 8, .int .i8 10]) 4 (.int .i8 8) rfl]
 rcases bft (8 == n) with h4 | h4
 ·exact (o53 (d := .bool true) (E5 ++ [tC h4]) (by kernel_rfl)).to (by clear E1 E2 E3 E4 E5; apply wk_bool; unfold homeP; (try simp only [beq_iff_eq, beq_eq_false_iff_ne, ne_eq] at *); symm; first | exact decide_eq_true ⟨trivial, by omega⟩ | exact decide_eq_false (fun q => by have := q.2; omega))
 let E6 : EL := E5 ++ [tC h4, tT, tT, .get ([.int .i8 3, .int .i8 9, .int .i8 6, .int .i8 7, .int .i8 8, .int .i8 10]) 5 (.int .i8 10) rfl]
 rcases bft (10 == n) with h5 | h5
 ·exact (o53 (d := .bool true) (E6 ++ [tC h5]) (by kernel_rfl)).to (by clear E1 E2 E3 E4 E5 E6; apply wk_bool; unfold homeP; (try simp only [beq_iff_eq, beq_eq_false_iff_ne, ne_eq] at *); symm; first | exact decide_eq_true ⟨trivial, by omega⟩ | exact decide_eq_false (fun q => by have := q.2; omega))
 exact (o53 (d := .bool false) (E6 ++ [tC h5, tF]) (by kernel_rfl)).to (by clear E1 E2 E3 E4 E5 E6; apply wk_bool; unfold homeP; (try simp only [beq_iff_eq, beq_eq_false_iff_ne, ne_eq] at *); symm; first | exact decide_eq_true ⟨trivial, by omega⟩ | exact decide_eq_false (fun q => by have := q.2; omega))
theorem pm_done (p : PlS)  : RoundRun Tryz.prog (loopB Tryz.f28 0) ⟨[2], [], []⟩ 1 (uu :: uu :: uu :: uu :: uu :: .agg (plC p) :: .int .i64 11 :: un 27) [.dead] (.exit 0) (un 34) ([.dead]) := by
 exact (RoundRun.of_eval (sp := ⟨[2], [], []⟩) (n0 := 1) (ex := Ex.exit (0 : Nat)) (t' := (un 34)) (s' := [.dead]) mixed [tF] (by kernel_rfl)).cast (by rfl) (by rfl)
theorem pm_zero (p : PlS) (i : Nat) (i1 : (i : Int) ≤ 10) (ha : (p.k (i : Int) == 0) = true) (hb : (p.n (i : Int) == 0) = true)  : RoundRun Tryz.prog (loopB Tryz.f28 0) ⟨[5, 6], [], []⟩ 1 (uu :: uu :: uu :: uu :: uu :: .agg (plC p) :: .int .i64 (↑i : Int) :: un 27) [.dead] .norm (uu :: uu :: uu :: uu :: uu :: .agg (plC p) :: .int .i64 (IntKind.i64.wrap ((↑i : Int) + 1)) :: un 27) ([.dead]) := by
 exact (RoundRun.of_eval (sp := ⟨[5, 6], [], []⟩) (n0 := 1) (ex := Ex.norm) (t' := (uu :: uu :: uu :: uu :: uu :: .agg (plC p) :: .int .i64 (IntKind.i64.wrap ((↑i : Int) + 1)) :: un 27)) (s' := [.dead]) mixed ([tC (decide_eq_true (Int.lt_add_one_of_le i1)), .tst (decide (0 ≤ (↑i : Int) ∧ (↑i : Int) < (↑(11 : Nat) : Int))) true (by ((try simp only [sl2] at *); (try unfold big at *); omega)), .getA _ _ _ _ (@getp' p ((↑i : Int)) ([]) (by ((try simp only [sl2] at *); (try unfold big at *); omega)) i1), .flat _ _ flat_Place] ++ List.replicate 3 (tC (eT (nt (andT (eqI 0 true (eq_of_beq ha)) (andT (eqI 0 true (eq_of_beq hb)) (rfl : true = true)))))) ++ [tC (nt (andT (eqI 0 true (eq_of_beq ha)) (andT (eqI 0 true (eq_of_beq hb)) (rfl : true = true))))] ++ List.replicate 10 tF) (by kernel_rfl)).cast (by rfl) (by rfl)
theorem pm_home (p : PlS) (i : Nat) (i1 : (i : Int) ≤ 10) (ha : (p.k (i : Int) == 1) = true) (hb : homeP (p.k (i : Int)) (p.n (i : Int)) = true)  : RoundRun Tryz.prog (loopB Tryz.f28 0) ⟨[5, 6], [], []⟩ 1 (uu :: uu :: uu :: uu :: uu :: .agg (plC p) :: .int .i64 (↑i : Int) :: un 27) [.dead] .norm (uu :: uu :: uu :: uu :: uu :: .agg (plC p) :: .int .i64 (IntKind.i64.wrap ((↑i : Int) + 1)) :: un 27) ([.dead]) := by
 have c0 := @amay_ok (PlS.k p (↑i : Int)) (PlS.n p (↑i : Int))
 exact (RoundRun.of_eval (sp := ⟨[5, 6], [], []⟩) (n0 := 1) (ex := Ex.norm) (t' := (uu :: uu :: uu :: uu :: uu :: .agg (plC p) :: .int .i64 (IntKind.i64.wrap ((↑i : Int) + 1)) :: un 27)) (s' := [.dead]) mixed ([tC (decide_eq_true (Int.lt_add_one_of_le i1)), .tst (decide (0 ≤ (↑i : Int) ∧ (↑i : Int) < (↑(11 : Nat) : Int))) true (by ((try simp only [sl2] at *); (try unfold big at *); omega)), .getA _ _ _ _ (@getp' p ((↑i : Int)) ([]) (by ((try simp only [sl2] at *); (try unfold big at *); omega)) i1), .flat _ _ flat_Place, tC (eT (nt (andF (y := eqCells [.int .i8 (PlS.n p (↑i : Int))] [.int .i8 0]) (eqI 0 false (eq_of_beq ha))))), tC (eT (nt (andF (y := eqCells [.int .i8 (PlS.n p (↑i : Int))] [.int .i8 0]) (eqI 0 false (eq_of_beq ha))))), .ret _ _ _ c0, tC (eT (nt (andF (y := eqCells [.int .i8 (PlS.n p (↑i : Int))] [.int .i8 0]) (eqI 0 false (eq_of_beq ha))))), tC (nt (andF (y := eqCells [.int .i8 (PlS.n p (↑i : Int))] [.int .i8 0]) (eqI 0 false (eq_of_beq ha))))] ++ List.replicate 8 (tC (eT (nt hb))) ++ [tC (nt hb), tF]) (by kernel_rfl)).cast (by rfl) (by rfl)
theorem pm_slot (p : PlS) (i : Nat) (i1 : (i : Int) ≤ 10) (ha : (p.k (i : Int) == 2) = true) (hb : homeP (p.k (i : Int)) (p.n (i : Int)) = false) (hc : 0 ≤ p.n (i : Int)) (hd : p.n (i : Int) < 11)  : RoundRun Tryz.prog (loopB Tryz.f28 0) ⟨[5, 6], [], []⟩ 1 (uu :: uu :: uu :: uu :: uu :: .agg (plC p) :: .int .i64 (↑i : Int) :: un 27) [.dead] .norm (uu :: uu :: uu :: uu :: uu :: .agg (plC p) :: .int .i64 (IntKind.i64.wrap ((↑i : Int) + 1)) :: un 27) ([.dead]) := by
 have c0 := @amay_ok (PlS.k p (↑i : Int)) (PlS.n p (↑i : Int))
 exact (RoundRun.of_eval (sp := ⟨[5, 6], [], []⟩) (n0 := 1) (ex := Ex.norm) (t' := (uu :: uu :: uu :: uu :: uu :: .agg (plC p) :: .int .i64 (IntKind.i64.wrap ((↑i : Int) + 1)) :: un 27)) (s' := [.dead]) mixed ([tC (decide_eq_true (Int.lt_add_one_of_le i1)), .tst (decide (0 ≤ (↑i : Int) ∧ (↑i : Int) < (↑(11 : Nat) : Int))) true (by ((try simp only [sl2] at *); (try unfold big at *); omega)), .getA _ _ _ _ (@getp' p ((↑i : Int)) ([]) (by ((try simp only [sl2] at *); (try unfold big at *); omega)) i1), .flat _ _ flat_Place, tC (eT (nt (andF (y := eqCells [.int .i8 (PlS.n p (↑i : Int))] [.int .i8 0]) (eqI 0 false (eq_of_beq ha))))), tC (eT (nt (andF (y := eqCells [.int .i8 (PlS.n p (↑i : Int))] [.int .i8 0]) (eqI 0 false (eq_of_beq ha))))), .ret _ _ _ c0, tC (eT (nt (andF (y := eqCells [.int .i8 (PlS.n p (↑i : Int))] [.int .i8 0]) (eqI 0 false (eq_of_beq ha))))), tC (nt (andF (y := eqCells [.int .i8 (PlS.n p (↑i : Int))] [.int .i8 0]) (eqI 0 false (eq_of_beq ha))))] ++ List.replicate 4 (tC (eT (nt hb))) ++ List.replicate 3 (tC (eT (eqI 2 true (eq_of_beq ha)))) ++ [tC (eT (nt hb)), tC (eqI 2 true (eq_of_beq ha)), tC (eT (nt hb))] ++ List.replicate 3 (tC (eT (leL 0 (decide_eq_false (Int.not_lt.2 hc))))) ++ [tC (eT (nt hb)), tC (leL 0 (decide_eq_false (Int.not_lt.2 hc))), tC (eT (nt hb)), tC (nt hb), tC (nt (decide_eq_true hd))]) (by kernel_rfl)).cast (by rfl) (by rfl)
theorem pm_b0 (p : PlS) (i : Nat) (i1 : (i : Int) ≤ 10) (ha : (p.k (i : Int) == 0) = true) (hb : (p.n (i : Int) == 0) = false) (hc : homeP (p.k (i : Int)) (p.n (i : Int)) = false)  : RoundRun Tryz.prog (loopB Tryz.f28 0) ⟨[2], [], []⟩ 1 (uu :: uu :: uu :: uu :: uu :: .agg (plC p) :: .int .i64 (↑i : Int) :: un 27) [.dead] (Ex.ret) (uu :: uu :: .bool false :: un 31) ([.dead]) := by
 have c0 := @amay_ok (PlS.k p (↑i : Int)) (PlS.n p (↑i : Int))
 exact (RoundRun.of_eval (sp := ⟨[2], [], []⟩) (n0 := 1) (ex := Ex.ret) (t' := (uu :: uu :: .bool false :: un 31)) (s' := [.dead]) mixed ([tC (decide_eq_true (Int.lt_add_one_of_le i1)), .tst (decide (0 ≤ (↑i : Int) ∧ (↑i : Int) < (↑(11 : Nat) : Int))) true (by ((try simp only [sl2] at *); (try unfold big at *); omega)), .getA _ _ _ _ (@getp' p ((↑i : Int)) ([]) (by ((try simp only [sl2] at *); (try unfold big at *); omega)) i1), .flat _ _ flat_Place, tC (eT (nt (andT (eqI 0 true (eq_of_beq ha)) (andF (y := true) hb)))), tC (eT (nt (andT (eqI 0 true (eq_of_beq ha)) (andF (y := true) hb)))), .ret _ _ _ c0, tC (eT (nt (andT (eqI 0 true (eq_of_beq ha)) (andF (y := true) hb)))), tC (nt (andT (eqI 0 true (eq_of_beq ha)) (andF (y := true) hb)))] ++ List.replicate 4 (tC (eT (nt hc))) ++ List.replicate 3 (tC (eT (eqI 2 false (eq_of_beq ha)))) ++ [tC (eT (nt hc)), tC (eqI 2 false (eq_of_beq ha)), tC (eT (nt hc)), tF, tF, tF, tC (eT (nt hc)), tF, tC (eT (nt hc)), tC (nt hc), tT]) (by kernel_rfl)).cast (by rfl) (by rfl)
theorem pm_b1 (p : PlS) (i : Nat) (i1 : (i : Int) ≤ 10) (ha : (p.k (i : Int) == 1) = true) (hb : homeP (p.k (i : Int)) (p.n (i : Int)) = false)  : RoundRun Tryz.prog (loopB Tryz.f28 0) ⟨[2], [], []⟩ 1 (uu :: uu :: uu :: uu :: uu :: .agg (plC p) :: .int .i64 (↑i : Int) :: un 27) [.dead] (Ex.ret) (uu :: uu :: .bool false :: un 31) ([.dead]) := by
 have c0 := @amay_ok (PlS.k p (↑i : Int)) (PlS.n p (↑i : Int))
 exact (RoundRun.of_eval (sp := ⟨[2], [], []⟩) (n0 := 1) (ex := Ex.ret) (t' := (uu :: uu :: .bool false :: un 31)) (s' := [.dead]) mixed ([tC (decide_eq_true (Int.lt_add_one_of_le i1)), .tst (decide (0 ≤ (↑i : Int) ∧ (↑i : Int) < (↑(11 : Nat) : Int))) true (by ((try simp only [sl2] at *); (try unfold big at *); omega)), .getA _ _ _ _ (@getp' p ((↑i : Int)) ([]) (by ((try simp only [sl2] at *); (try unfold big at *); omega)) i1), .flat _ _ flat_Place, tC (eT (nt (andF (y := eqCells [.int .i8 (PlS.n p (↑i : Int))] [.int .i8 0]) (eqI 0 false (eq_of_beq ha))))), tC (eT (nt (andF (y := eqCells [.int .i8 (PlS.n p (↑i : Int))] [.int .i8 0]) (eqI 0 false (eq_of_beq ha))))), .ret _ _ _ c0, tC (eT (nt (andF (y := eqCells [.int .i8 (PlS.n p (↑i : Int))] [.int .i8 0]) (eqI 0 false (eq_of_beq ha))))), tC (nt (andF (y := eqCells [.int .i8 (PlS.n p (↑i : Int))] [.int .i8 0]) (eqI 0 false (eq_of_beq ha))))] ++ List.replicate 4 (tC (eT (nt hb))) ++ List.replicate 3 (tC (eT (eqI 2 false (eq_of_beq ha)))) ++ [tC (eT (nt hb)), tC (eqI 2 false (eq_of_beq ha)), tC (eT (nt hb)), tF, tF, tF, tC (eT (nt hb)), tF, tC (eT (nt hb)), tC (nt hb), tT]) (by kernel_rfl)).cast (by rfl) (by rfl)
theorem pm_b2 (p : PlS) (i : Nat) (i1 : (i : Int) ≤ 10) (ha : (p.k (i : Int) == 2) = true) (hb : homeP (p.k (i : Int)) (p.n (i : Int)) = false) (hc : p.n (i : Int) < 0)  : RoundRun Tryz.prog (loopB Tryz.f28 0) ⟨[2], [], []⟩ 1 (uu :: uu :: uu :: uu :: uu :: .agg (plC p) :: .int .i64 (↑i : Int) :: un 27) [.dead] (Ex.ret) (uu :: uu :: .bool false :: un 31) ([.dead]) := by
 have c0 := @amay_ok (PlS.k p (↑i : Int)) (PlS.n p (↑i : Int))
 exact (RoundRun.of_eval (sp := ⟨[2], [], []⟩) (n0 := 1) (ex := Ex.ret) (t' := (uu :: uu :: .bool false :: un 31)) (s' := [.dead]) mixed ([tC (decide_eq_true (Int.lt_add_one_of_le i1)), .tst (decide (0 ≤ (↑i : Int) ∧ (↑i : Int) < (↑(11 : Nat) : Int))) true (by ((try simp only [sl2] at *); (try unfold big at *); omega)), .getA _ _ _ _ (@getp' p ((↑i : Int)) ([]) (by ((try simp only [sl2] at *); (try unfold big at *); omega)) i1), .flat _ _ flat_Place, tC (eT (nt (andF (y := eqCells [.int .i8 (PlS.n p (↑i : Int))] [.int .i8 0]) (eqI 0 false (eq_of_beq ha))))), tC (eT (nt (andF (y := eqCells [.int .i8 (PlS.n p (↑i : Int))] [.int .i8 0]) (eqI 0 false (eq_of_beq ha))))), .ret _ _ _ c0, tC (eT (nt (andF (y := eqCells [.int .i8 (PlS.n p (↑i : Int))] [.int .i8 0]) (eqI 0 false (eq_of_beq ha))))), tC (nt (andF (y := eqCells [.int .i8 (PlS.n p (↑i : Int))] [.int .i8 0]) (eqI 0 false (eq_of_beq ha))))] ++ List.replicate 4 (tC (eT (nt hb))) ++ List.replicate 3 (tC (eT (eqI 2 true (eq_of_beq ha)))) ++ [tC (eT (nt hb)), tC (eqI 2 true (eq_of_beq ha)), tC (eT (nt hb))] ++ List.replicate 3 (tC (eT (leL 0 (decide_eq_true hc)))) ++ [tC (eT (nt hb)), tC (leL 0 (decide_eq_true hc)), tC (eT (nt hb)), tC (nt hb), tT]) (by kernel_rfl)).cast (by rfl) (by rfl)
theorem pm_b3 (p : PlS) (i : Nat) (i1 : (i : Int) ≤ 10) (ha : (p.k (i : Int) == 2) = true) (hb : homeP (p.k (i : Int)) (p.n (i : Int)) = false) (hc : 11 ≤ p.n (i : Int))  : RoundRun Tryz.prog (loopB Tryz.f28 0) ⟨[2], [], []⟩ 1 (uu :: uu :: uu :: uu :: uu :: .agg (plC p) :: .int .i64 (↑i : Int) :: un 27) [.dead] (Ex.ret) (uu :: uu :: .bool false :: un 31) ([.dead]) := by
 have c0 := @amay_ok (PlS.k p (↑i : Int)) (PlS.n p (↑i : Int))
 exact (RoundRun.of_eval (sp := ⟨[2], [], []⟩) (n0 := 1) (ex := Ex.ret) (t' := (uu :: uu :: .bool false :: un 31)) (s' := [.dead]) mixed ([tC (decide_eq_true (Int.lt_add_one_of_le i1)), .tst (decide (0 ≤ (↑i : Int) ∧ (↑i : Int) < (↑(11 : Nat) : Int))) true (by ((try simp only [sl2] at *); (try unfold big at *); omega)), .getA _ _ _ _ (@getp' p ((↑i : Int)) ([]) (by ((try simp only [sl2] at *); (try unfold big at *); omega)) i1), .flat _ _ flat_Place, tC (eT (nt (andF (y := eqCells [.int .i8 (PlS.n p (↑i : Int))] [.int .i8 0]) (eqI 0 false (eq_of_beq ha))))), tC (eT (nt (andF (y := eqCells [.int .i8 (PlS.n p (↑i : Int))] [.int .i8 0]) (eqI 0 false (eq_of_beq ha))))), .ret _ _ _ c0, tC (eT (nt (andF (y := eqCells [.int .i8 (PlS.n p (↑i : Int))] [.int .i8 0]) (eqI 0 false (eq_of_beq ha))))), tC (nt (andF (y := eqCells [.int .i8 (PlS.n p (↑i : Int))] [.int .i8 0]) (eqI 0 false (eq_of_beq ha))))] ++ List.replicate 4 (tC (eT (nt hb))) ++ List.replicate 3 (tC (eT (eqI 2 true (eq_of_beq ha)))) ++ [tC (eT (nt hb)), tC (eqI 2 true (eq_of_beq ha)), tC (eT (nt hb))] ++ List.replicate 3 (tC (eT (leL 0 (ltD 0 (decide_eq_false (Int.not_lt.2 hc)))))) ++ [tC (eT (nt hb)), tC (leL 0 (ltD 0 (decide_eq_false (Int.not_lt.2 hc)))), tC (eT (nt hb)), tC (nt hb), tC (nt (decide_eq_false (Int.not_lt.2 hc)))]) (by kernel_rfl)).cast (by rfl) (by rfl)
theorem pm_b4 (p : PlS) (i : Nat) (i1 : (i : Int) ≤ 10) (ha : (p.k (i : Int) == 0) = false) (hb : (p.k (i : Int) == 2) = false) (hc : homeP (p.k (i : Int)) (p.n (i : Int)) = false)  : RoundRun Tryz.prog (loopB Tryz.f28 0) ⟨[2], [], []⟩ 1 (uu :: uu :: uu :: uu :: uu :: .agg (plC p) :: .int .i64 (↑i : Int) :: un 27) [.dead] (Ex.ret) (uu :: uu :: .bool false :: un 31) ([.dead]) := by
 have c0 := @amay_ok (PlS.k p (↑i : Int)) (PlS.n p (↑i : Int))
 exact (RoundRun.of_eval (sp := ⟨[2], [], []⟩) (n0 := 1) (ex := Ex.ret) (t' := (uu :: uu :: .bool false :: un 31)) (s' := [.dead]) mixed ([tC (decide_eq_true (Int.lt_add_one_of_le i1)), .tst (decide (0 ≤ (↑i : Int) ∧ (↑i : Int) < (↑(11 : Nat) : Int))) true (by ((try simp only [sl2] at *); (try unfold big at *); omega)), .getA _ _ _ _ (@getp' p ((↑i : Int)) ([]) (by ((try simp only [sl2] at *); (try unfold big at *); omega)) i1), .flat _ _ flat_Place, tC (eT (nt (andF (y := eqCells [.int .i8 (PlS.n p (↑i : Int))] [.int .i8 0]) ha))), tC (eT (nt (andF (y := eqCells [.int .i8 (PlS.n p (↑i : Int))] [.int .i8 0]) ha))), .ret _ _ _ c0, tC (eT (nt (andF (y := eqCells [.int .i8 (PlS.n p (↑i : Int))] [.int .i8 0]) ha))), tC (nt (andF (y := eqCells [.int .i8 (PlS.n p (↑i : Int))] [.int .i8 0]) ha))] ++ List.replicate 4 (tC (eT (nt hc))) ++ [tC (eT hb), tC (eT hb), tC (eT hb), tC (eT (nt hc)), tC hb, tC (eT (nt hc)), tF, tF, tF, tC (eT (nt hc)), tF, tC (eT (nt hc)), tC (nt hc), tT]) (by kernel_rfl)).cast (by rfl) (by rfl)
theorem rm_done (p : PlS)  : RoundRun Tryz.prog (loopB Tryz.f23 0) ⟨[2], [0], []⟩ 1 (uu :: .ptr false 0 0 :: uu :: .int .i64 11 :: un 38) [.box (plC p)] (.exit 0) (un 42) ([.box (plC p)]) := by
 exact (RoundRun.of_eval (sp := ⟨[2], [0], []⟩) (n0 := 1) (ex := Ex.exit (0 : Nat)) (t' := (un 42)) (s' := [.box (plC p)]) mixed [tF] (by kernel_rfl)).cast (by rfl) (by rfl)
theorem rm_zero (p : PlS) (i : Nat) (i1 : (i : Int) ≤ 10) (ha : (p.k (i : Int) == 0) = true) (hb : (p.n (i : Int) == 0) = true)  : RoundRun Tryz.prog (loopB Tryz.f23 0) ⟨[1, 3], [0], []⟩ 1 (uu :: .ptr false 0 0 :: uu :: .int .i64 (↑i : Int) :: un 38) [.box (plC p)] .norm (uu :: .ptr false 0 0 :: uu :: .int .i64 (IntKind.i64.wrap ((↑i : Int) + 1)) :: un 38) ([.box (plC p)]) := by
 exact (RoundRun.of_eval (sp := ⟨[1, 3], [0], []⟩) (n0 := 1) (ex := Ex.norm) (t' := (uu :: .ptr false 0 0 :: uu :: .int .i64 (IntKind.i64.wrap ((↑i : Int) + 1)) :: un 38)) (s' := [.box (plC p)]) mixed ([tC (decide_eq_true (Int.lt_add_one_of_le i1)), .tst (decide (0 ≤ (↑i : Int) ∧ (↑i : Int) < (↑(11 : Nat) : Int))) true (by ((try simp only [sl2] at *); (try unfold big at *); omega)), .getA _ _ _ _ (@getp p ((↑i : Int)) ([]) (by ((try simp only [sl2] at *); (try unfold big at *); omega)) i1), .flat _ _ flat_Place] ++ List.replicate 6 (tC (eT (nt (andT (eqI 0 true (eq_of_beq ha)) (andT (eqI 0 true (eq_of_beq hb)) (rfl : true = true)))))) ++ [tC (nt (andT (eqI 0 true (eq_of_beq ha)) (andT (eqI 0 true (eq_of_beq hb)) (rfl : true = true))))] ++ List.replicate 10 tF) (by kernel_rfl)).cast (by rfl) (by rfl)
theorem rm_home (p : PlS) (i : Nat) (i1 : (i : Int) ≤ 10) (ha : (p.k (i : Int) == 1) = true) (hb : homeP 1 (p.n (i : Int)) = true)  : RoundRun Tryz.prog (loopB Tryz.f23 0) ⟨[1, 3], [0], []⟩ 1 (uu :: .ptr false 0 0 :: uu :: .int .i64 (↑i : Int) :: un 38) [.box (plC p)] .norm (uu :: .ptr false 0 0 :: uu :: .int .i64 (IntKind.i64.wrap ((↑i : Int) + 1)) :: un 38) ([.box (plC p)]) := by
 have c0 := @rhome_ok (PlS.n p (↑i : Int))
 exact (RoundRun.of_eval (sp := ⟨[1, 3], [0], []⟩) (n0 := 1) (ex := Ex.norm) (t' := (uu :: .ptr false 0 0 :: uu :: .int .i64 (IntKind.i64.wrap ((↑i : Int) + 1)) :: un 38)) (s' := [.box (plC p)]) mixed ([tC (decide_eq_true (Int.lt_add_one_of_le i1)), .tst (decide (0 ≤ (↑i : Int) ∧ (↑i : Int) < (↑(11 : Nat) : Int))) true (by ((try simp only [sl2] at *); (try unfold big at *); omega)), .getA _ _ _ _ (@getp p ((↑i : Int)) ([]) (by ((try simp only [sl2] at *); (try unfold big at *); omega)) i1), .flat _ _ flat_Place] ++ List.replicate 4 (tC (eT (nt (andF (y := eqCells [.int .i8 (PlS.n p (↑i : Int))] [.int .i8 0]) (eqI 0 false (eq_of_beq ha)))))) ++ List.replicate 3 (tC (eT (eqI 1 true (eq_of_beq ha)))) ++ [.ret _ _ _ c0, tC (eT (nt (andF (y := eqCells [.int .i8 (PlS.n p (↑i : Int))] [.int .i8 0]) (eqI 0 false (eq_of_beq ha))))), tC (eqI 1 true (eq_of_beq ha)), tC (eT (nt (andF (y := eqCells [.int .i8 (PlS.n p (↑i : Int))] [.int .i8 0]) (eqI 0 false (eq_of_beq ha))))), tC (nt (andF (y := eqCells [.int .i8 (PlS.n p (↑i : Int))] [.int .i8 0]) (eqI 0 false (eq_of_beq ha))))] ++ List.replicate 8 (tC (eT (nt hb))) ++ [tC (nt hb), tF]) (by kernel_rfl)).cast (by rfl) (by rfl)
theorem rm_slot (p : PlS) (i : Nat) (i1 : (i : Int) ≤ 10) (ha : (p.k (i : Int) == 2) = true) (hc : 0 ≤ p.n (i : Int)) (hd : p.n (i : Int) < 11)  : RoundRun Tryz.prog (loopB Tryz.f23 0) ⟨[1, 3], [0], []⟩ 1 (uu :: .ptr false 0 0 :: uu :: .int .i64 (↑i : Int) :: un 38) [.box (plC p)] .norm (uu :: .ptr false 0 0 :: uu :: .int .i64 (IntKind.i64.wrap ((↑i : Int) + 1)) :: un 38) ([.box (plC p)]) := by
 exact (RoundRun.of_eval (sp := ⟨[1, 3], [0], []⟩) (n0 := 1) (ex := Ex.norm) (t' := (uu :: .ptr false 0 0 :: uu :: .int .i64 (IntKind.i64.wrap ((↑i : Int) + 1)) :: un 38)) (s' := [.box (plC p)]) mixed ([tC (decide_eq_true (Int.lt_add_one_of_le i1)), .tst (decide (0 ≤ (↑i : Int) ∧ (↑i : Int) < (↑(11 : Nat) : Int))) true (by ((try simp only [sl2] at *); (try unfold big at *); omega)), .getA _ _ _ _ (@getp p ((↑i : Int)) ([]) (by ((try simp only [sl2] at *); (try unfold big at *); omega)) i1), .flat _ _ flat_Place] ++ List.replicate 4 (tC (eT (nt (andF (y := eqCells [.int .i8 (PlS.n p (↑i : Int))] [.int .i8 0]) (eqI 0 false (eq_of_beq ha)))))) ++ List.replicate 3 (tC (eT (eqI 1 false (eq_of_beq ha)))) ++ [tC (eT (nt (andF (y := eqCells [.int .i8 (PlS.n p (↑i : Int))] [.int .i8 0]) (eqI 0 false (eq_of_beq ha))))), tC (eqI 1 false (eq_of_beq ha)), tC (eT (nt (andF (y := eqCells [.int .i8 (PlS.n p (↑i : Int))] [.int .i8 0]) (eqI 0 false (eq_of_beq ha))))), tC (nt (andF (y := eqCells [.int .i8 (PlS.n p (↑i : Int))] [.int .i8 0]) (eqI 0 false (eq_of_beq ha)))), tT, tT, tT, tT] ++ List.replicate 3 (tC (eT (eqI 2 true (eq_of_beq ha)))) ++ [tT, tC (eqI 2 true (eq_of_beq ha)), tT] ++ List.replicate 3 (tC (eT (leL 0 (decide_eq_false (Int.not_lt.2 hc))))) ++ [tT, tC (leL 0 (decide_eq_false (Int.not_lt.2 hc))), tT, tT, tC (nt (decide_eq_true hd))]) (by kernel_rfl)).cast (by rfl) (by rfl)
theorem rm_b0 (p : PlS) (i : Nat) (i1 : (i : Int) ≤ 10) (ha : (p.k (i : Int) == 0) = true) (hb : (p.n (i : Int) == 0) = false)  : RoundRun Tryz.prog (loopB Tryz.f23 0) ⟨[2], [0], []⟩ 1 (uu :: .ptr false 0 0 :: uu :: .int .i64 (↑i : Int) :: un 38) [.box (plC p)] (Ex.ret) (uu :: uu :: .bool false :: un 39) ([.box (plC p)]) := by
 exact (RoundRun.of_eval (sp := ⟨[2], [0], []⟩) (n0 := 1) (ex := Ex.ret) (t' := (uu :: uu :: .bool false :: un 39)) (s' := [.box (plC p)]) mixed ([tC (decide_eq_true (Int.lt_add_one_of_le i1)), .tst (decide (0 ≤ (↑i : Int) ∧ (↑i : Int) < (↑(11 : Nat) : Int))) true (by ((try simp only [sl2] at *); (try unfold big at *); omega)), .getA _ _ _ _ (@getp p ((↑i : Int)) ([]) (by ((try simp only [sl2] at *); (try unfold big at *); omega)) i1), .flat _ _ flat_Place] ++ List.replicate 4 (tC (eT (nt (andT (eqI 0 true (eq_of_beq ha)) (andF (y := true) hb))))) ++ List.replicate 3 (tC (eT (eqI 1 false (eq_of_beq ha)))) ++ [tC (eT (nt (andT (eqI 0 true (eq_of_beq ha)) (andF (y := true) hb)))), tC (eqI 1 false (eq_of_beq ha)), tC (eT (nt (andT (eqI 0 true (eq_of_beq ha)) (andF (y := true) hb)))), tC (nt (andT (eqI 0 true (eq_of_beq ha)) (andF (y := true) hb))), tT, tT, tT, tT] ++ List.replicate 3 (tC (eT (eqI 2 false (eq_of_beq ha)))) ++ [tT, tC (eqI 2 false (eq_of_beq ha)), tT, tF, tF, tF, tT, tF, tT, tT, tT]) (by kernel_rfl)).cast (by rfl) (by rfl)
theorem rm_b1 (p : PlS) (i : Nat) (i1 : (i : Int) ≤ 10) (ha : (p.k (i : Int) == 1) = true) (hb : homeP 1 (p.n (i : Int)) = false)  : RoundRun Tryz.prog (loopB Tryz.f23 0) ⟨[2], [0], []⟩ 1 (uu :: .ptr false 0 0 :: uu :: .int .i64 (↑i : Int) :: un 38) [.box (plC p)] (Ex.ret) (uu :: uu :: .bool false :: un 39) ([.box (plC p)]) := by
 have c0 := @rhome_ok (PlS.n p (↑i : Int))
 exact (RoundRun.of_eval (sp := ⟨[2], [0], []⟩) (n0 := 1) (ex := Ex.ret) (t' := (uu :: uu :: .bool false :: un 39)) (s' := [.box (plC p)]) mixed ([tC (decide_eq_true (Int.lt_add_one_of_le i1)), .tst (decide (0 ≤ (↑i : Int) ∧ (↑i : Int) < (↑(11 : Nat) : Int))) true (by ((try simp only [sl2] at *); (try unfold big at *); omega)), .getA _ _ _ _ (@getp p ((↑i : Int)) ([]) (by ((try simp only [sl2] at *); (try unfold big at *); omega)) i1), .flat _ _ flat_Place] ++ List.replicate 4 (tC (eT (nt (andF (y := eqCells [.int .i8 (PlS.n p (↑i : Int))] [.int .i8 0]) (eqI 0 false (eq_of_beq ha)))))) ++ List.replicate 3 (tC (eT (eqI 1 true (eq_of_beq ha)))) ++ [.ret _ _ _ c0, tC (eT (nt (andF (y := eqCells [.int .i8 (PlS.n p (↑i : Int))] [.int .i8 0]) (eqI 0 false (eq_of_beq ha))))), tC (eqI 1 true (eq_of_beq ha)), tC (eT (nt (andF (y := eqCells [.int .i8 (PlS.n p (↑i : Int))] [.int .i8 0]) (eqI 0 false (eq_of_beq ha))))), tC (nt (andF (y := eqCells [.int .i8 (PlS.n p (↑i : Int))] [.int .i8 0]) (eqI 0 false (eq_of_beq ha))))] ++ List.replicate 4 (tC (eT (nt hb))) ++ List.replicate 3 (tC (eT (eqI 2 false (eq_of_beq ha)))) ++ [tC (eT (nt hb)), tC (eqI 2 false (eq_of_beq ha)), tC (eT (nt hb)), tF, tF, tF, tC (eT (nt hb)), tF, tC (eT (nt hb)), tC (nt hb), tT]) (by kernel_rfl)).cast (by rfl) (by rfl)
theorem rm_b2 (p : PlS) (i : Nat) (i1 : (i : Int) ≤ 10) (ha : (p.k (i : Int) == 2) = true) (hc : p.n (i : Int) < 0)  : RoundRun Tryz.prog (loopB Tryz.f23 0) ⟨[2], [0], []⟩ 1 (uu :: .ptr false 0 0 :: uu :: .int .i64 (↑i : Int) :: un 38) [.box (plC p)] (Ex.ret) (uu :: uu :: .bool false :: un 39) ([.box (plC p)]) := by
 exact (RoundRun.of_eval (sp := ⟨[2], [0], []⟩) (n0 := 1) (ex := Ex.ret) (t' := (uu :: uu :: .bool false :: un 39)) (s' := [.box (plC p)]) mixed ([tC (decide_eq_true (Int.lt_add_one_of_le i1)), .tst (decide (0 ≤ (↑i : Int) ∧ (↑i : Int) < (↑(11 : Nat) : Int))) true (by ((try simp only [sl2] at *); (try unfold big at *); omega)), .getA _ _ _ _ (@getp p ((↑i : Int)) ([]) (by ((try simp only [sl2] at *); (try unfold big at *); omega)) i1), .flat _ _ flat_Place] ++ List.replicate 4 (tC (eT (nt (andF (y := eqCells [.int .i8 (PlS.n p (↑i : Int))] [.int .i8 0]) (eqI 0 false (eq_of_beq ha)))))) ++ List.replicate 3 (tC (eT (eqI 1 false (eq_of_beq ha)))) ++ [tC (eT (nt (andF (y := eqCells [.int .i8 (PlS.n p (↑i : Int))] [.int .i8 0]) (eqI 0 false (eq_of_beq ha))))), tC (eqI 1 false (eq_of_beq ha)), tC (eT (nt (andF (y := eqCells [.int .i8 (PlS.n p (↑i : Int))] [.int .i8 0]) (eqI 0 false (eq_of_beq ha))))), tC (nt (andF (y := eqCells [.int .i8 (PlS.n p (↑i : Int))] [.int .i8 0]) (eqI 0 false (eq_of_beq ha)))), tT, tT, tT, tT] ++ List.replicate 3 (tC (eT (eqI 2 true (eq_of_beq ha)))) ++ [tT, tC (eqI 2 true (eq_of_beq ha)), tT] ++ List.replicate 3 (tC (eT (leL 0 (decide_eq_true hc)))) ++ [tT, tC (leL 0 (decide_eq_true hc)), tT, tT, tT]) (by kernel_rfl)).cast (by rfl) (by rfl)
theorem rm_b3 (p : PlS) (i : Nat) (i1 : (i : Int) ≤ 10) (ha : (p.k (i : Int) == 2) = true) (hc : 11 ≤ p.n (i : Int))  : RoundRun Tryz.prog (loopB Tryz.f23 0) ⟨[2], [0], []⟩ 1 (uu :: .ptr false 0 0 :: uu :: .int .i64 (↑i : Int) :: un 38) [.box (plC p)] (Ex.ret) (uu :: uu :: .bool false :: un 39) ([.box (plC p)]) := by
 exact (RoundRun.of_eval (sp := ⟨[2], [0], []⟩) (n0 := 1) (ex := Ex.ret) (t' := (uu :: uu :: .bool false :: un 39)) (s' := [.box (plC p)]) mixed ([tC (decide_eq_true (Int.lt_add_one_of_le i1)), .tst (decide (0 ≤ (↑i : Int) ∧ (↑i : Int) < (↑(11 : Nat) : Int))) true (by ((try simp only [sl2] at *); (try unfold big at *); omega)), .getA _ _ _ _ (@getp p ((↑i : Int)) ([]) (by ((try simp only [sl2] at *); (try unfold big at *); omega)) i1), .flat _ _ flat_Place] ++ List.replicate 4 (tC (eT (nt (andF (y := eqCells [.int .i8 (PlS.n p (↑i : Int))] [.int .i8 0]) (eqI 0 false (eq_of_beq ha)))))) ++ List.replicate 3 (tC (eT (eqI 1 false (eq_of_beq ha)))) ++ [tC (eT (nt (andF (y := eqCells [.int .i8 (PlS.n p (↑i : Int))] [.int .i8 0]) (eqI 0 false (eq_of_beq ha))))), tC (eqI 1 false (eq_of_beq ha)), tC (eT (nt (andF (y := eqCells [.int .i8 (PlS.n p (↑i : Int))] [.int .i8 0]) (eqI 0 false (eq_of_beq ha))))), tC (nt (andF (y := eqCells [.int .i8 (PlS.n p (↑i : Int))] [.int .i8 0]) (eqI 0 false (eq_of_beq ha)))), tT, tT, tT, tT] ++ List.replicate 3 (tC (eT (eqI 2 true (eq_of_beq ha)))) ++ [tT, tC (eqI 2 true (eq_of_beq ha)), tT] ++ List.replicate 3 (tC (eT (leL 0 (ltD 0 (decide_eq_false (Int.not_lt.2 hc)))))) ++ [tT, tC (leL 0 (ltD 0 (decide_eq_false (Int.not_lt.2 hc)))), tT, tT, tC (nt (decide_eq_false (Int.not_lt.2 hc)))]) (by kernel_rfl)).cast (by rfl) (by rfl)
theorem rm_b4 (p : PlS) (i : Nat) (i1 : (i : Int) ≤ 10) (ha : (p.k (i : Int) == 0) = false) (hb : (p.k (i : Int) == 2) = false) (hc : (p.k (i : Int) == 1) = false)  : RoundRun Tryz.prog (loopB Tryz.f23 0) ⟨[2], [0], []⟩ 1 (uu :: .ptr false 0 0 :: uu :: .int .i64 (↑i : Int) :: un 38) [.box (plC p)] (Ex.ret) (uu :: uu :: .bool false :: un 39) ([.box (plC p)]) := by
 exact (RoundRun.of_eval (sp := ⟨[2], [0], []⟩) (n0 := 1) (ex := Ex.ret) (t' := (uu :: uu :: .bool false :: un 39)) (s' := [.box (plC p)]) mixed ([tC (decide_eq_true (Int.lt_add_one_of_le i1)), .tst (decide (0 ≤ (↑i : Int) ∧ (↑i : Int) < (↑(11 : Nat) : Int))) true (by ((try simp only [sl2] at *); (try unfold big at *); omega)), .getA _ _ _ _ (@getp p ((↑i : Int)) ([]) (by ((try simp only [sl2] at *); (try unfold big at *); omega)) i1), .flat _ _ flat_Place] ++ List.replicate 4 (tC (eT (nt (andF (y := eqCells [.int .i8 (PlS.n p (↑i : Int))] [.int .i8 0]) ha)))) ++ [tC (eT hc), tC (eT hc), tC (eT hc), tC (eT (nt (andF (y := eqCells [.int .i8 (PlS.n p (↑i : Int))] [.int .i8 0]) ha))), tC hc, tC (eT (nt (andF (y := eqCells [.int .i8 (PlS.n p (↑i : Int))] [.int .i8 0]) ha))), tC (nt (andF (y := eqCells [.int .i8 (PlS.n p (↑i : Int))] [.int .i8 0]) ha)), tT, tT, tT, tT, tC (eT hb), tC (eT hb), tC (eT hb), tT, tC hb, tT, tF, tF, tF, tT, tF, tT, tT, tT]) (by kernel_rfl)).cast (by rfl) (by rfl)
theorem ap_done (p : PlS) (i k : Nat) (h : (i : Int) ≤ (k : Int))  : RoundRun Tryz.prog (loopB Tryz.f25 1) ⟨[1, 5], [0], []⟩ 1 (uu :: .ptr false 0 0 :: uu :: .int .i64 (↑i : Int) :: .int .i64 (↑k : Int) :: .int .i64 (↑i : Int) :: un 22) [.box (plC p)] (.exit 2) (uu :: .ptr false 0 0 :: uu :: uu :: uu :: .int .i64 (↑i : Int) :: un 22) ([.box (plC p)]) := by
 exact (RoundRun.of_eval (sp := ⟨[1, 5], [0], []⟩) (n0 := 1) (ex := Ex.exit (2 : Nat)) (t' := (uu :: .ptr false 0 0 :: uu :: uu :: uu :: .int .i64 (↑i : Int) :: un 22)) (s' := [.box (plC p)]) mixed [tC (by ((try simp only [sl2] at *); (try unfold big at *); omega) : (decide ((↑k : Int) < (↑i : Int))) = false)] (by kernel_rfl)).cast (by rfl) (by rfl)
theorem ap_hit (p : PlS) (i k : Nat) (i1 : (i : Int) ≤ 10) (k1 : (k : Int) < (i : Int)) (ha : (p.k (i : Int) == 0) = false) (hb : (p.k (i : Int) == p.k (k : Int)) = true) (hc : (p.n (i : Int) == p.n (k : Int)) = true)  : RoundRun Tryz.prog (loopB Tryz.f25 1) ⟨[2], [0], []⟩ 1 (uu :: .ptr false 0 0 :: uu :: .int .i64 (↑i : Int) :: .int .i64 (↑k : Int) :: .int .i64 (↑i : Int) :: un 22) [.box (plC p)] (Ex.ret) (uu :: uu :: .bool false :: un 25) ([.box (plC p)]) := by
 exact (RoundRun.of_eval (sp := ⟨[2], [0], []⟩) (n0 := 1) (ex := Ex.ret) (t' := (uu :: uu :: .bool false :: un 25)) (s' := [.box (plC p)]) mixed [tC (by ((try simp only [sl2] at *); (try unfold big at *); omega) : (decide ((↑k : Int) < (↑i : Int))) = true), .tst (decide (0 ≤ (↑i : Int) ∧ (↑i : Int) < (↑(11 : Nat) : Int))) true (by ((try simp only [sl2] at *); (try unfold big at *); omega)), .get _ _ _ (@getpk p ((↑i : Int)) ([]) (by ((try simp only [sl2] at *); (try unfold big at *); omega)) i1), tC (eT (nt ha)), tC (eT (nt ha)), .tst (decide (0 ≤ (↑i : Int) ∧ (↑i : Int) < (↑(11 : Nat) : Int))) true (by ((try simp only [sl2] at *); (try unfold big at *); omega)), tC (eT (nt ha)), .getA _ _ _ _ (@getp p ((↑i : Int)) ([]) (by ((try simp only [sl2] at *); (try unfold big at *); omega)) i1), tC (eT (nt ha)), tC (eT (nt ha)), .tst (decide (0 ≤ (↑k : Int) ∧ (↑k : Int) < (↑(11 : Nat) : Int))) true (by ((try simp only [sl2] at *); (try unfold big at *); omega)), tC (eT (nt ha)), .getA _ _ _ _ (@getp p ((↑k : Int)) ([]) (by ((try simp only [sl2] at *); (try unfold big at *); omega)) (by ((try simp only [sl2] at *); (try unfold big at *); omega))), tC (eT (nt ha)), .flat _ _ flat_Place, tC (nt ha), tC (andT hb (andT hc (rfl : true = true)))] (by kernel_rfl)).cast (by rfl) (by rfl)
theorem ap_z (p : PlS) (i k : Nat) (i1 : (i : Int) ≤ 10) (k1 : (k : Int) < (i : Int)) (ha : (p.k (i : Int) == 0) = true)  : RoundRun Tryz.prog (loopB Tryz.f25 1) ⟨[1, 3, 4, 5], [0], []⟩ 1 (uu :: .ptr false 0 0 :: uu :: .int .i64 (↑i : Int) :: .int .i64 (↑k : Int) :: .int .i64 (↑i : Int) :: un 22) [.box (plC p)] .norm (uu :: .ptr false 0 0 :: uu :: .int .i64 (↑i : Int) :: .int .i64 (IntKind.i64.wrap ((↑k : Int) + 1)) :: .int .i64 (↑i : Int) :: un 22) ([.box (plC p)]) := by
 exact (RoundRun.of_eval (sp := ⟨[1, 3, 4, 5], [0], []⟩) (n0 := 1) (ex := Ex.norm) (t' := (uu :: .ptr false 0 0 :: uu :: .int .i64 (↑i : Int) :: .int .i64 (IntKind.i64.wrap ((↑k : Int) + 1)) :: .int .i64 (↑i : Int) :: un 22)) (s' := [.box (plC p)]) mixed ([tC (by ((try simp only [sl2] at *); (try unfold big at *); omega) : (decide ((↑k : Int) < (↑i : Int))) = true), .tst (decide (0 ≤ (↑i : Int) ∧ (↑i : Int) < (↑(11 : Nat) : Int))) true (by ((try simp only [sl2] at *); (try unfold big at *); omega)), .get _ _ _ (@getpk p ((↑i : Int)) ([]) (by ((try simp only [sl2] at *); (try unfold big at *); omega)) i1)] ++ List.replicate 7 (tC (eT (nt (eqI 0 true (eq_of_beq ha))))) ++ [tC (nt (eqI 0 true (eq_of_beq ha))), tF]) (by kernel_rfl)).cast (by rfl) (by rfl)
theorem ap_k (p : PlS) (i k : Nat) (i1 : (i : Int) ≤ 10) (k1 : (k : Int) < (i : Int)) (ha : (p.k (i : Int) == 0) = false) (hb : (p.k (i : Int) == p.k (k : Int)) = false)  : RoundRun Tryz.prog (loopB Tryz.f25 1) ⟨[1, 3, 4, 5], [0], []⟩ 1 (uu :: .ptr false 0 0 :: uu :: .int .i64 (↑i : Int) :: .int .i64 (↑k : Int) :: .int .i64 (↑i : Int) :: un 22) [.box (plC p)] .norm (uu :: .ptr false 0 0 :: uu :: .int .i64 (↑i : Int) :: .int .i64 (IntKind.i64.wrap ((↑k : Int) + 1)) :: .int .i64 (↑i : Int) :: un 22) ([.box (plC p)]) := by
 exact (RoundRun.of_eval (sp := ⟨[1, 3, 4, 5], [0], []⟩) (n0 := 1) (ex := Ex.norm) (t' := (uu :: .ptr false 0 0 :: uu :: .int .i64 (↑i : Int) :: .int .i64 (IntKind.i64.wrap ((↑k : Int) + 1)) :: .int .i64 (↑i : Int) :: un 22)) (s' := [.box (plC p)]) mixed [tC (by ((try simp only [sl2] at *); (try unfold big at *); omega) : (decide ((↑k : Int) < (↑i : Int))) = true), .tst (decide (0 ≤ (↑i : Int) ∧ (↑i : Int) < (↑(11 : Nat) : Int))) true (by ((try simp only [sl2] at *); (try unfold big at *); omega)), .get _ _ _ (@getpk p ((↑i : Int)) ([]) (by ((try simp only [sl2] at *); (try unfold big at *); omega)) i1), tC (eT (nt ha)), tC (eT (nt ha)), .tst (decide (0 ≤ (↑i : Int) ∧ (↑i : Int) < (↑(11 : Nat) : Int))) true (by ((try simp only [sl2] at *); (try unfold big at *); omega)), tC (eT (nt ha)), .getA _ _ _ _ (@getp p ((↑i : Int)) ([]) (by ((try simp only [sl2] at *); (try unfold big at *); omega)) i1), tC (eT (nt ha)), tC (eT (nt ha)), .tst (decide (0 ≤ (↑k : Int) ∧ (↑k : Int) < (↑(11 : Nat) : Int))) true (by ((try simp only [sl2] at *); (try unfold big at *); omega)), tC (eT (nt ha)), .getA _ _ _ _ (@getp p ((↑k : Int)) ([]) (by ((try simp only [sl2] at *); (try unfold big at *); omega)) (by ((try simp only [sl2] at *); (try unfold big at *); omega))), tC (eT (nt ha)), .flat _ _ flat_Place, tC (nt ha), tC (andF (y := eqCells [.int .i8 (PlS.n p (↑i : Int))] [.int .i8 (PlS.n p (↑k : Int))]) hb)] (by kernel_rfl)).cast (by rfl) (by rfl)
theorem ap_n (p : PlS) (i k : Nat) (i1 : (i : Int) ≤ 10) (k1 : (k : Int) < (i : Int)) (ha : (p.k (i : Int) == 0) = false) (hb : (p.k (i : Int) == p.k (k : Int)) = true) (hc : (p.n (i : Int) == p.n (k : Int)) = false)  : RoundRun Tryz.prog (loopB Tryz.f25 1) ⟨[1, 3, 4, 5], [0], []⟩ 1 (uu :: .ptr false 0 0 :: uu :: .int .i64 (↑i : Int) :: .int .i64 (↑k : Int) :: .int .i64 (↑i : Int) :: un 22) [.box (plC p)] .norm (uu :: .ptr false 0 0 :: uu :: .int .i64 (↑i : Int) :: .int .i64 (IntKind.i64.wrap ((↑k : Int) + 1)) :: .int .i64 (↑i : Int) :: un 22) ([.box (plC p)]) := by
 exact (RoundRun.of_eval (sp := ⟨[1, 3, 4, 5], [0], []⟩) (n0 := 1) (ex := Ex.norm) (t' := (uu :: .ptr false 0 0 :: uu :: .int .i64 (↑i : Int) :: .int .i64 (IntKind.i64.wrap ((↑k : Int) + 1)) :: .int .i64 (↑i : Int) :: un 22)) (s' := [.box (plC p)]) mixed [tC (by ((try simp only [sl2] at *); (try unfold big at *); omega) : (decide ((↑k : Int) < (↑i : Int))) = true), .tst (decide (0 ≤ (↑i : Int) ∧ (↑i : Int) < (↑(11 : Nat) : Int))) true (by ((try simp only [sl2] at *); (try unfold big at *); omega)), .get _ _ _ (@getpk p ((↑i : Int)) ([]) (by ((try simp only [sl2] at *); (try unfold big at *); omega)) i1), tC (eT (nt ha)), tC (eT (nt ha)), .tst (decide (0 ≤ (↑i : Int) ∧ (↑i : Int) < (↑(11 : Nat) : Int))) true (by ((try simp only [sl2] at *); (try unfold big at *); omega)), tC (eT (nt ha)), .getA _ _ _ _ (@getp p ((↑i : Int)) ([]) (by ((try simp only [sl2] at *); (try unfold big at *); omega)) i1), tC (eT (nt ha)), tC (eT (nt ha)), .tst (decide (0 ≤ (↑k : Int) ∧ (↑k : Int) < (↑(11 : Nat) : Int))) true (by ((try simp only [sl2] at *); (try unfold big at *); omega)), tC (eT (nt ha)), .getA _ _ _ _ (@getp p ((↑k : Int)) ([]) (by ((try simp only [sl2] at *); (try unfold big at *); omega)) (by ((try simp only [sl2] at *); (try unfold big at *); omega))), tC (eT (nt ha)), .flat _ _ flat_Place, tC (nt ha), tC (andT hb (andF (y := true) hc))] (by kernel_rfl)).cast (by rfl) (by rfl)
end Go.Proofs.YtkpneibifdoecaaGreat
namespace Go.Ev
open Go
def topM (v w : Int) : Bool := IntKind.u64.wrap ((BitVec.ofInt 64 (v.fdiv (2 ^ (min (IntKind.i8.wrap (w - 1)).toNat 64))) &&& BitVec.ofInt 64 1).toNat : Int) == 1
def EqBut (o : Int) (r r' : RgS) : Prop := ∀ k, 0 ≤ k → k ≤ 10 → k ≠ o → r.get k = r'.get k
def atM (m : MachS) (s : List Int) (k n : Int) : Int := if k = 1 then rg m.rl n else if k = 2 then s.getD n.toNat 0 else 0
theorem rg_put {m : MachS} {i v : Int} : ∀ j : Int, 0 ≤ j → j ≤ 15 → rg (m.put i v).rl j = if i = j then v else rg m.rl j := by
 refine cases16 ?_ ?_ ?_ ?_ ?_ ?_ ?_ ?_ ?_ ?_ ?_ ?_ ?_ ?_ ?_ ?_ <;> rfl
theorem may_all {op w dst src base disp imm cc : Int} (hd : 0 ≤ dst ∧ dst ≤ 15) (hs : 0 ≤ src ∧ src ≤ 15) (hb : 0 ≤ base ∧ base ≤ 15) (hp : -2147483648 ≤ disp ∧ disp ≤ 2147483647) (hi : -2147483648 ≤ imm ∧ imm ≤ 2147483647) (h : mayS (shapeM op) w dst src base disp imm cc = true) : mayX op w dst src base disp imm cc = true := by
 unfold mayX regM
 rw [decide_eq_true hd, decide_eq_true hs, decide_eq_true hb, decide_eq_true hp, decide_eq_true hi, h]
 rfl
section
variable {m : MachS} {s : List Int} {t : List XS}
structure Keeps (m : MachS) (s : List Int) (m' : MachS) (s' : List Int) (k n : Int) : Prop where
  len : s'.length = s.length
  sp : rg m'.rl 4 = rg m.rl 4
  at_ : ∀ k' n', plOK k' n' = true → ¬ (k' = k ∧ n' = n) → atM m' s' k' n' = atM m s k' n'
theorem Keeps.trans {m1 m2 : MachS} {s1 s2 : List Int} {k n : Int} (h1 : Keeps m s m1 s1 3 0) (h2 : Keeps m1 s1 m2 s2 k n) : Keeps m s m2 s2 k n := by
 refine ⟨h2.len.trans h1.len, h2.sp.trans h1.sp, fun k' n' hp hne => (h2.at_ k' n' hp hne).trans (h1.at_ k' n' hp ?_)⟩
 rintro ⟨e, _⟩
 rcases plOK_form hp with q | q | q <;> omega
end
end Go.Ev
