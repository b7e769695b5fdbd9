/- Contracts and plain laws that a statement's proof leans on (texts merged: MdFr, FE0A, FE1, FE1A, FE2, MdFt, FT1, FT0, FT2, FT2W). -/
import Derived.Test.YtkpneibifdoecaaGreatQ05
set_option linter.unusedVariables false
set_option linter.unusedSimpArgs false
set_option maxRecDepth 100000
set_option maxHeartbeats 8000000
namespace Go.Ev
open Go
def atM (m : MachS) (s : List Int) (k n : Int) : Int := if k = 1 then rg m.rl n else if k = 2 then s.getD n.toNat 0 else 0
theorem rg_put {m : MachS} {i v : Int} : ∀ j : Int, 0 ≤ j → j ≤ 15 → rg (m.put i v).rl j = if i = j then v else rg m.rl j := by
 refine cases16 ?_ ?_ ?_ ?_ ?_ ?_ ?_ ?_ ?_ ?_ ?_ ?_ ?_ ?_ ?_ ?_ <;> rfl
theorem may_all {op w dst src base disp imm cc : Int} (hd : 0 ≤ dst ∧ dst ≤ 15) (hs : 0 ≤ src ∧ src ≤ 15) (hb : 0 ≤ base ∧ base ≤ 15) (hp : -2147483648 ≤ disp ∧ disp ≤ 2147483647) (hi : -2147483648 ≤ imm ∧ imm ≤ 2147483647) (h : mayS (shapeM op) w dst src base disp imm cc = true) : mayX op w dst src base disp imm cc = true := by
 unfold mayX regM
 rw [decide_eq_true hd, decide_eq_true hs, decide_eq_true hb, decide_eq_true hp, decide_eq_true hi, h]
 rfl
section
variable {m : MachS} {s : List Int} {t : List XS}
structure Keeps (m : MachS) (s : List Int) (m' : MachS) (s' : List Int) (k n : Int) : Prop where
  len : s'.length = s.length
  sp : rg m'.rl 4 = rg m.rl 4
  at_ : ∀ k' n', plOK k' n' = true → ¬ (k' = k ∧ n' = n) → atM m' s' k' n' = atM m s k' n'
theorem home_rg {k n : Int} (h : plOK k n = true) (hk : k = 1) : (n = 3 ∨ n = 9 ∨ n = 6 ∨ n = 7 ∨ n = 8 ∨ n = 10) := by
 rcases plOK_form h with q | q | q <;> omega
theorem slot_rg {k n : Int} (h : plOK k n = true) (hk : k = 2) : 0 ≤ n ∧ n < 11 := by
 rcases plOK_form h with q | q | q <;> omega
theorem keeps_put {p i v : Int} (hi : i = 0 ∨ i = 1 ∨ i = 2 ∨ i = 11) : Keeps m s ((m.at p).put i v) s 3 0 := by
 refine ⟨rfl, ?_, fun k' n' hp hne => ?_⟩
 ·rw [rg_put 4 (by decide) (by decide), if_neg (by omega)]; rfl
 ·unfold atM
  by_cases h1 : k' = 1
  ·have := home_rg hp h1
   rw [if_pos h1, if_pos h1, rg_put n' (by omega) (by omega), if_neg (by omega)]; rfl
  ·rw [if_neg h1, if_neg h1]
theorem keeps_home {p n v : Int} (hn : plOK 1 n = true) : Keeps m s ((m.at p).put n v) s 1 n ∧ atM ((m.at p).put n v) s 1 n = v := by
 have hh := home_rg hn rfl
 refine ⟨⟨rfl, ?_, fun k' n' hp hne => ?_⟩, ?_⟩
 ·rw [rg_put 4 (by decide) (by decide), if_neg (by omega)]; rfl
 ·unfold atM
  by_cases h1 : k' = 1
  ·have := home_rg hp h1
   rw [if_pos h1, if_pos h1, rg_put n' (by omega) (by omega), if_neg (by omega)]; rfl
  ·rw [if_neg h1, if_neg h1]
 ·unfold atM
  rw [if_pos rfl, rg_put n (by omega) (by omega), if_pos rfl]
theorem keeps_slot {p n v : Int} (hl : s.length = 11) (hn : 0 ≤ n ∧ n < 11) : Keeps m s (m.at p) (s.set n.toNat v) 2 n ∧ atM (m.at p) (s.set n.toNat v) 2 n = v := by
 refine ⟨⟨by simp, rfl, fun k' n' hp hne => ?_⟩, ?_⟩
 ·unfold atM
  by_cases h1 : k' = 1
  ·rw [if_pos h1, if_pos h1]; rfl
  ·rw [if_neg h1, if_neg h1]
   by_cases h2 : k' = 2
   ·have := slot_rg hp h2
    rw [if_pos h2, if_pos h2, List.getD_eq_getElem?_getD, List.getD_eq_getElem?_getD, List.getElem?_set_ne (by omega)]
   ·rw [if_neg h2, if_neg h2]
 ·unfold atM
  rw [if_neg (by decide), if_pos rfl, List.getD_eq_getElem?_getD, List.getElem?_set_self (by omega)]
  rfl
theorem Keeps.trans {m1 m2 : MachS} {s1 s2 : List Int} {k n : Int} (h1 : Keeps m s m1 s1 3 0) (h2 : Keeps m1 s1 m2 s2 k n) : Keeps m s m2 s2 k n := by
 refine ⟨h2.len.trans h1.len, h2.sp.trans h1.sp, fun k' n' hp hne => (h2.at_ k' n' hp hne).trans (h1.at_ k' n' hp ?_)⟩
 rintro ⟨e, _⟩
 rcases plOK_form hp with q | q | q <;> omega
end
end Go.Ev
namespace Go.Proofs.YtkpneibifdoecaaGreat
open Go Go.Ev
theorem of_id {n0 : Nat} {c : Code} {t : List D} {s : List Ob} {ex : Ex} {t' : List D} {s' : List Ob} (h : LoopRun Tryz.prog n0 c t s ex t' s') : LoopRun Tryz.prog n0 c t s ex t' s' := h
theorem succ_i (i : Nat) (h : (i : Int) ≤ 10) : IntKind.i64.wrap ((i : Int) + 1) = ((i + 1 : Nat) : Int) := by rw [w_i64]; omega
theorem ok_cases (k n : Int) : (plOK k n = true ∧ ((k = 0 ∧ n = 0) ∨ (k = 1 ∧ homeP 1 n = true) ∨ (k = 2 ∧ 0 ≤ n ∧ n < 11))) ∨ (plOK k n = false ∧ ((k = 0 ∧ n ≠ 0) ∨ (k = 1 ∧ homeP 1 n = false) ∨ (k = 2 ∧ n < 0) ∨ (k = 2 ∧ 11 ≤ n) ∨ (k ≠ 0 ∧ k ≠ 1 ∧ k ≠ 2))) := by
 by_cases h0 : k = 0
 ·subst h0
  by_cases hn : n = 0
  ·subst hn; exact .inl ⟨rfl, .inl ⟨rfl, rfl⟩⟩
  ·exact .inr ⟨by unfold plOK homeP; simp [hn], .inl ⟨rfl, hn⟩⟩
 by_cases h1 : k = 1
 ·subst h1
  cases hh : homeP 1 n
  ·exact .inr ⟨by unfold plOK; rw [hh]; simp, .inr (.inl ⟨rfl, rfl⟩)⟩
  ·exact .inl ⟨by unfold plOK; rw [hh]; simp, .inr (.inl ⟨rfl, rfl⟩)⟩
 by_cases h2 : k = 2
 ·subst h2
  by_cases hn : n < 0
  ·exact .inr ⟨by unfold plOK homeP; simp; omega, .inr (.inr (.inl ⟨rfl, hn⟩))⟩
  ·by_cases hm : 11 ≤ n
   ·exact .inr ⟨by unfold plOK homeP; simp; omega, .inr (.inr (.inr (.inl ⟨rfl, hm⟩)))⟩
   ·exact .inl ⟨by unfold plOK homeP; simp; omega, .inr (.inr ⟨rfl, by omega, by omega⟩)⟩
 ·exact .inr ⟨by unfold plOK homeP; simp [h0, h1, h2], .inr (.inr (.inr (.inr ⟨h0, h1, h2⟩)))⟩
theorem home_no {k n : Int} (h : k ≠ 1) : homeP k n = false := by unfold homeP; simp [h]
abbrev pmT (p : PlS) (i : Int) : List D := [.undef, .undef, .undef, .undef, .undef, .agg (plC p), .int .i64 i, .undef, .undef, .undef, .undef, .undef, .undef, .undef, .undef, .undef, .undef, .undef, .undef, .undef, .undef, .undef, .undef, .undef, .undef, .undef, .undef, .undef, .undef, .undef, .undef, .undef, .undef, .undef]
abbrev pmU : List D := [.undef, .undef, .undef, .undef, .undef, .undef, .undef, .undef, .undef, .undef, .undef, .undef, .undef, .undef, .undef, .undef, .undef, .undef, .undef, .undef, .undef, .undef, .undef, .undef, .undef, .undef, .undef, .undef, .undef, .undef, .undef, .undef, .undef, .undef]
abbrev pmR : List D := [.undef, .undef, .bool false, .undef, .undef, .undef, .undef, .undef, .undef, .undef, .undef, .undef, .undef, .undef, .undef, .undef, .undef, .undef, .undef, .undef, .undef, .undef, .undef, .undef, .undef, .undef, .undef, .undef, .undef, .undef, .undef, .undef, .undef, .undef]
theorem pm_rounds (p : PlS) : ∀ (m i : Nat), i + m = 11 →
  Rounds Tryz.prog (loopB Tryz.f28 0) 1 (pmT p i) [.dead] (if p.mayU m i = true then .exit 0 else .ret) (if p.mayU m i = true then pmU else pmR) [.dead]
 | 0, i, hi => by
  obtain rfl : i = 11 := by omega
  exact Rounds.last (pm_done p) (fun h => by cases h)
 | m + 1, i, hi => by
  have ih := pm_rounds p m (i + 1) (by omega)
  have i1 : (i : Int) ≤ 10 := by omega
  have hw := succ_i i i1
  rw [PlS.mayU]
  unfold PlS.okAt
  rcases ok_cases (p.k i) (p.n i) with ⟨e, h⟩ | ⟨e, h⟩
  ·rw [e, Bool.true_and]
   have this : RoundRun Tryz.prog (loopB Tryz.f28 0) ⟨[5, 6], [], []⟩ 1 (pmT p i) [.dead] .norm (pmT p (IntKind.i64.wrap ((i : Int) + 1))) [.dead] := by
    rcases h with ⟨h1, h2⟩ | ⟨h1, h2⟩ | ⟨h1, h2, h3⟩
    ·exact pm_zero p i i1 (by simp [h1]) (by simp [h2])
    ·exact pm_home p i i1 (by simp [h1]) (by rw [h1]; exact h2)
    ·exact pm_slot p i i1 (by simp [h1]) (home_no (by omega)) h2 h3
   rw [hw] at this
   exact Rounds.more this ih
  ·rw [e, Bool.false_and]
   refine Rounds.last (sp := ⟨[2], [], []⟩) ?_ (fun h => by cases h)
   rcases h with ⟨h1, h2⟩ | ⟨h1, h2⟩ | ⟨h1, h2⟩ | ⟨h1, h2⟩ | ⟨h1, h2, h3⟩
   ·exact pm_b0 p i i1 (by simp [h1]) (by simpa using h2) (home_no (by omega))
   ·exact pm_b1 p i i1 (by simp [h1]) (by rw [h1]; exact h2)
   ·exact pm_b2 p i i1 (by simp [h1]) (home_no (by omega)) h2
   ·exact pm_b3 p i i1 (by simp [h1]) (home_no (by omega)) h2
   ·exact pm_b4 p i i1 (by simpa using h1) (by simpa using h3) (home_no h2)
theorem pm_loop (p : PlS) : LoopRun Tryz.prog 1 (.loop (loopB Tryz.f28 0)) (pmT p 0) [.dead] (if p.may = true then .exit 0 else .ret) (if p.may = true then pmU else pmR) [.dead] :=
 LoopRun.of_rounds (Nat.le_refl _) (pm_rounds p 11 0 rfl)
theorem pm_yes (p : PlS) (h : p.may = true) : LoopRun Tryz.prog 1 (.loop (loopB Tryz.f28 0)) (pmT p 0) [.dead] (.exit 0) pmU [.dead] := by
 have := pm_loop p
 rw [h] at this
 exact this
theorem pm_no (p : PlS) (h : p.may = false) : LoopRun Tryz.prog 1 (.loop (loopB Tryz.f28 0)) (pmT p 0) [.dead] .ret pmR [.dead] := by
 have := pm_loop p
 rw [h] at this
 exact this
abbrev rmT (i : Int) : List D := [.undef, .ptr false 0 0, .undef, .int .i64 i, .undef, .undef, .undef, .undef, .undef, .undef, .undef, .undef, .undef, .undef, .undef, .undef, .undef, .undef, .undef, .undef, .undef, .undef, .undef, .undef, .undef, .undef, .undef, .undef, .undef, .undef, .undef, .undef, .undef, .undef, .undef, .undef, .undef, .undef, .undef, .undef, .undef, .undef]
abbrev rmU : List D := [.undef, .undef, .undef, .undef, .undef, .undef, .undef, .undef, .undef, .undef, .undef, .undef, .undef, .undef, .undef, .undef, .undef, .undef, .undef, .undef, .undef, .undef, .undef, .undef, .undef, .undef, .undef, .undef, .undef, .undef, .undef, .undef, .undef, .undef, .undef, .undef, .undef, .undef, .undef, .undef, .undef, .undef]
abbrev rmR : List D := [.undef, .undef, .bool false, .undef, .undef, .undef, .undef, .undef, .undef, .undef, .undef, .undef, .undef, .undef, .undef, .undef, .undef, .undef, .undef, .undef, .undef, .undef, .undef, .undef, .undef, .undef, .undef, .undef, .undef, .undef, .undef, .undef, .undef, .undef, .undef, .undef, .undef, .undef, .undef, .undef, .undef, .undef]
theorem rm_rounds (p : PlS) : ∀ (m i : Nat), i + m = 11 →
  Rounds Tryz.prog (loopB Tryz.f23 0) 1 (rmT i) [.box (plC p)] (if p.mayU m i = true then .exit 0 else .ret) (if p.mayU m i = true then rmU else rmR) [.box (plC p)]
 | 0, i, hi => by
  obtain rfl : i = 11 := by omega
  exact Rounds.last (rm_done p) (fun h => by cases h)
 | m + 1, i, hi => by
  have ih := rm_rounds p m (i + 1) (by omega)
  have i1 : (i : Int) ≤ 10 := by omega
  have hw := succ_i i i1
  rw [PlS.mayU]
  unfold PlS.okAt
  rcases ok_cases (p.k i) (p.n i) with ⟨e, h⟩ | ⟨e, h⟩
  ·rw [e, Bool.true_and]
   have this : RoundRun Tryz.prog (loopB Tryz.f23 0) ⟨[1, 3], [0], []⟩ 1 (rmT i) [.box (plC p)] .norm (rmT (IntKind.i64.wrap ((i : Int) + 1))) [.box (plC p)] := by
    rcases h with ⟨h1, h2⟩ | ⟨h1, h2⟩ | ⟨h1, h2, h3⟩
    ·exact rm_zero p i i1 (by simp [h1]) (by simp [h2])
    ·exact rm_home p i i1 (by simp [h1]) h2
    ·exact rm_slot p i i1 (by simp [h1]) h2 h3
   rw [hw] at this
   exact Rounds.more this ih
  ·rw [e, Bool.false_and]
   refine Rounds.last (sp := ⟨[2], [0], []⟩) ?_ (fun h => by cases h)
   rcases h with ⟨h1, h2⟩ | ⟨h1, h2⟩ | ⟨h1, h2⟩ | ⟨h1, h2⟩ | ⟨h1, h2, h3⟩
   ·exact rm_b0 p i i1 (by simp [h1]) (by simpa using h2)
   ·exact rm_b1 p i i1 (by simp [h1]) h2
   ·exact rm_b2 p i i1 (by simp [h1]) h2
   ·exact rm_b3 p i i1 (by simp [h1]) h2
   ·exact rm_b4 p i i1 (by simpa using h1) (by simpa using h3) (by simpa using h2)
theorem rm_loop (p : PlS) : LoopRun Tryz.prog 1 (.loop (loopB Tryz.f23 0)) (rmT 0) [.box (plC p)] (if p.may = true then .exit 0 else .ret) (if p.may = true then rmU else rmR) [.box (plC p)] :=
 LoopRun.of_rounds (Nat.le_refl _) (rm_rounds p 11 0 rfl)
theorem rm_yes (p : PlS) (h : p.may = true) : LoopRun Tryz.prog 1 (.loop (loopB Tryz.f23 0)) (rmT 0) [.box (plC p)] (.exit 0) rmU [.box (plC p)] := by
 have := rm_loop p
 rw [h] at this
 exact this
theorem rm_no (p : PlS) (h : p.may = false) : LoopRun Tryz.prog 1 (.loop (loopB Tryz.f23 0)) (rmT 0) [.box (plC p)] .ret rmR [.box (plC p)] := by
 have := rm_loop p
 rw [h] at this
 exact this
abbrev spT (p : PlS) (m i : Int) : List D := [.undef, .undef, .undef, .int .i64 m, .undef, .undef, .agg (plC p), .int .i64 i, .undef, .undef, .undef, .undef, .undef, .undef, .undef, .undef, .undef, .undef, .undef, .undef, .undef]
abbrev spR (m : Int) : List D := [.undef, .undef, .undef, .int .i64 m, .undef, .undef, .undef, .undef, .undef, .undef, .undef, .undef, .undef, .undef, .undef, .undef, .undef, .undef, .undef, .undef, .undef]
abbrev aiT (i k : Int) : List D := [.undef, .ptr false 0 0, .undef, .int .i64 i, .int .i64 k, .int .i64 i, .undef, .undef, .undef, .undef, .undef, .undef, .undef, .undef, .undef, .undef, .undef, .undef, .undef, .undef, .undef, .undef, .undef, .undef, .undef, .undef, .undef, .undef]
abbrev aiU (i : Int) : List D := [.undef, .ptr false 0 0, .undef, .undef, .undef, .int .i64 i, .undef, .undef, .undef, .undef, .undef, .undef, .undef, .undef, .undef, .undef, .undef, .undef, .undef, .undef, .undef, .undef, .undef, .undef, .undef, .undef, .undef, .undef]
abbrev aiR : List D := [.undef, .undef, .bool false, .undef, .undef, .undef, .undef, .undef, .undef, .undef, .undef, .undef, .undef, .undef, .undef, .undef, .undef, .undef, .undef, .undef, .undef, .undef, .undef, .undef, .undef, .undef, .undef, .undef]
theorem ai_rounds (p : PlS) (i : Nat) (i1 : (i : Int) ≤ 10) : ∀ (m k : Nat), k + m = i →
  Rounds Tryz.prog (loopB Tryz.f25 1) 1 (aiT i k) [.box (plC p)] (if p.hitU i m k = true then .ret else .exit 2) (if p.hitU i m k = true then aiR else aiU i) [.box (plC p)]
 | 0, k, hk => Rounds.last (ap_done p i k (by omega)) (fun h => by cases h)
 | m + 1, k, hk => by
  have ih := ai_rounds p i i1 m (k + 1) (by omega)
  have k1 : (k : Int) < (i : Int) := by omega
  have hw := succ_i k (by omega)
  rw [PlS.hitU]
  by_cases h0 : p.k i = 0
  ·have e : p.hit i k = false := by unfold PlS.hit; simp [h0]
   have := ap_z p i k i1 k1 (by simp [h0])
   rw [hw] at this
   rw [e, Bool.false_or]
   exact Rounds.more this ih
  by_cases h1 : p.k i = p.k k
  ·by_cases h2 : p.n i = p.n k
   ·have e : p.hit i k = true := by unfold PlS.hit; exact decide_eq_true ⟨h0, h1, h2⟩
    rw [e, Bool.true_or]
    exact Rounds.last (ap_hit p i k i1 k1 (by simpa using h0) (by simpa using h1) (by simpa using h2)) (fun h => by cases h)
   ·have e : p.hit i k = false := by unfold PlS.hit; exact decide_eq_false fun q => h2 q.2.2
    have := ap_n p i k i1 k1 (by simpa using h0) (by simpa using h1) (by simpa using h2)
    rw [hw] at this
    rw [e, Bool.false_or]
    exact Rounds.more this ih
  ·have e : p.hit i k = false := by unfold PlS.hit; exact decide_eq_false fun q => h1 q.2.1
   have := ap_k p i k i1 k1 (by simpa using h0) (by simpa using h1)
   rw [hw] at this
   rw [e, Bool.false_or]
   exact Rounds.more this ih
theorem ai_loop (p : PlS) (i : Nat) (i1 : (i : Int) ≤ 10) : LoopRun Tryz.prog 1 (.loop (loopB Tryz.f25 1)) (aiT i 0) [.box (plC p)] (if p.hitU i i 0 = true then .ret else .exit 2) (if p.hitU i i 0 = true then aiR else aiU i) [.box (plC p)] :=
 LoopRun.of_rounds (Nat.le_refl _) (ai_rounds p i i1 i 0 (by omega))
theorem ao_done (p : PlS)  : RoundRun Tryz.prog (loopB Tryz.f25 0) ⟨[], [], []⟩ 1 (uu :: .ptr false 0 0 :: uu :: uu :: uu :: .int .i64 11 :: un 22) [.box (plC p)] (.exit 0) (un 28) ([.dead]) := by
 exact (RoundRun.of_eval (sp := ⟨[], [], []⟩) (n0 := 1) (ex := Ex.exit (0 : Nat)) (t' := (un 28)) (s' := [.dead]) mixed [tF] (by kernel_rfl)).cast (by rfl) (by rfl)
theorem ao_next (p : PlS) (i : Nat) (i1 : (i : Int) ≤ 10) (hI : LoopRun Tryz.prog 1 (.loop (loopB Tryz.f25 1)) (uu :: .ptr false 0 0 :: uu :: .int .i64 (i : Int) :: .int .i64 0 :: .int .i64 (i : Int) :: un 22) [.box (plC p)] (.exit 2) (uu :: .ptr false 0 0 :: uu :: uu :: uu :: .int .i64 (i : Int) :: un 22) [.box (plC p)])  : RoundRun Tryz.prog (loopB Tryz.f25 0) ⟨[1, 5], [0], []⟩ 1 (uu :: .ptr false 0 0 :: uu :: uu :: uu :: .int .i64 (↑i : Int) :: un 22) [.box (plC p)] .norm (uu :: .ptr false 0 0 :: uu :: uu :: uu :: .int .i64 (IntKind.i64.wrap ((↑i : Int) + 1)) :: un 22) ([.box (plC p)]) := by
 have c0 := @of_id (nat_lit 1) _ ((uu :: .ptr false 0 0 :: uu :: .int .i64 (↑i : Int) :: .int .i64 0 :: .int .i64 (↑i : Int) :: un 22)) ([.box (plC p)]) _ _ _ hI
 exact (RoundRun.of_eval (sp := ⟨[1, 5], [0], []⟩) (n0 := 1) (ex := Ex.norm) (t' := (uu :: .ptr false 0 0 :: uu :: uu :: uu :: .int .i64 (IntKind.i64.wrap ((↑i : Int) + 1)) :: un 22)) (s' := [.box (plC p)]) mixed [tC (decide_eq_true (Int.lt_add_one_of_le i1)), .head ⟨[1, 3, 4, 5], [0], []⟩ _ _ _ _ _ _ _ c0] (by kernel_rfl)).cast (by rfl) (by rfl)
theorem ao_hit (p : PlS) (i : Nat) (i1 : (i : Int) ≤ 10) (hI : LoopRun Tryz.prog 1 (.loop (loopB Tryz.f25 1)) (uu :: .ptr false 0 0 :: uu :: .int .i64 (i : Int) :: .int .i64 0 :: .int .i64 (i : Int) :: un 22) [.box (plC p)] .ret (uu :: uu :: .bool false :: un 25) [.box (plC p)])  : RoundRun Tryz.prog (loopB Tryz.f25 0) ⟨[2], [], []⟩ 1 (uu :: .ptr false 0 0 :: uu :: uu :: uu :: .int .i64 (↑i : Int) :: un 22) [.box (plC p)] (Ex.ret) (uu :: uu :: .bool false :: un 25) ([.dead]) := by
 have c0 := @of_id (nat_lit 1) _ ((uu :: .ptr false 0 0 :: uu :: .int .i64 (↑i : Int) :: .int .i64 0 :: .int .i64 (↑i : Int) :: un 22)) ([.box (plC p)]) _ _ _ hI
 exact (RoundRun.of_eval (sp := ⟨[2], [], []⟩) (n0 := 1) (ex := Ex.ret) (t' := (uu :: uu :: .bool false :: un 25)) (s' := [.dead]) mixed [tC (decide_eq_true (Int.lt_add_one_of_le i1)), .head ⟨[1, 3, 4, 5], [0], []⟩ _ _ _ _ _ _ _ c0] (by kernel_rfl)).cast (by rfl) (by rfl)
abbrev aoT (i : Int) : List D := [.undef, .ptr false 0 0, .undef, .undef, .undef, .int .i64 i, .undef, .undef, .undef, .undef, .undef, .undef, .undef, .undef, .undef, .undef, .undef, .undef, .undef, .undef, .undef, .undef, .undef, .undef, .undef, .undef, .undef, .undef]
abbrev aoU : List D := [.undef, .undef, .undef, .undef, .undef, .undef, .undef, .undef, .undef, .undef, .undef, .undef, .undef, .undef, .undef, .undef, .undef, .undef, .undef, .undef, .undef, .undef, .undef, .undef, .undef, .undef, .undef, .undef]
theorem ao_rounds (p : PlS) : ∀ (m i : Nat), i + m = 11 →
  Rounds Tryz.prog (loopB Tryz.f25 0) 1 (aoT i) [.box (plC p)] (if p.sameU m i = true then .ret else .exit 0) (if p.sameU m i = true then aiR else aoU) [.dead]
 | 0, i, hi => by
  obtain rfl : i = 11 := by omega
  exact Rounds.last (ao_done p) (fun h => by cases h)
 | m + 1, i, hi => by
  have ih := ao_rounds p m (i + 1) (by omega)
  have i1 : (i : Int) ≤ 10 := by omega
  have hw := succ_i i i1
  have hI := ai_loop p i i1
  rw [PlS.sameU]
  cases e : p.hitU i i 0 with
  | true =>
   rw [e] at hI
   rw [Bool.true_or]
   exact Rounds.last (ao_hit p i i1 hI) (fun h => by cases h)
  | false =>
   rw [e] at hI
   have := ao_next p i i1 hI
   rw [hw] at this
   rw [Bool.false_or]
   exact Rounds.more this ih
theorem ao_yes (p : PlS) (h : p.apart = true) : LoopRun Tryz.prog 1 (.loop (loopB Tryz.f25 0)) (aoT 0) [.box (plC p)] (.exit 0) aoU [.dead] := by
 have := ao_rounds p 11 0 rfl
 have e : p.sameU 11 0 = false := by unfold PlS.apart at h; simpa using h
 rw [e] at this
 exact LoopRun.of_rounds (Nat.le_refl _) this
theorem ao_no (p : PlS) (h : p.apart = false) : LoopRun Tryz.prog 1 (.loop (loopB Tryz.f25 0)) (aoT 0) [.box (plC p)] .ret aiR [.dead] := by
 have := ao_rounds p 11 0 rfl
 have e : p.sameU 11 0 = true := by unfold PlS.apart at h; simpa using h
 rw [e] at this
 exact LoopRun.of_rounds (Nat.le_refl _) this
theorem aMay_ok (p : PlS)  : Ret Tryz.prog 28 ([.agg (plC p)]) (.bool p.may) := by
 rcases bft (PlS.may p) with k0 | k0
 ·have c1 := @pm_yes p k0
  exact (o28 (d := .bool true) [.head ⟨[5, 6], [], []⟩ _ _ _ _ _ _ _ c1] (by kernel_rfl)).to (by simp [wk, k0])
 have c2 := @pm_no p k0
 exact (o28 (d := .bool false) [.head ⟨[5, 6], [], []⟩ _ _ _ _ _ _ _ c2] (by kernel_rfl)).to (by simp [wk, k0])
theorem rMay_ok (p : PlS)  : Ret Tryz.prog 23 ([.agg (plC p)]) (.bool p.may) := by
 rcases bft (PlS.may p) with k0 | k0
 ·have c1 := @rm_yes p k0
  exact (o23 (d := .bool true) [.head ⟨[1, 3], [0], []⟩ _ _ _ _ _ _ _ c1] (by kernel_rfl)).to (by simp [wk, k0])
 have c2 := @rm_no p k0
 exact (o23 (d := .bool false) [.head ⟨[1, 3], [0], []⟩ _ _ _ _ _ _ _ c2] (by kernel_rfl)).to (by simp [wk, k0])
theorem ap_ok (p : PlS)  : Ret Tryz.prog 25 ([.agg (plC p)]) (.bool p.apart) := by
 rcases bft (PlS.apart p) with k0 | k0
 ·have c1 := @ao_yes p k0
  exact (o25 (d := .bool true) [.head ⟨[1, 5], [0], []⟩ _ _ _ _ _ _ _ c1] (by kernel_rfl)).to (by simp [wk, k0])
 have c2 := @ao_no p k0
 exact (o25 (d := .bool false) [.head ⟨[1, 5], [0], []⟩ _ _ _ _ _ _ _ c2] (by kernel_rfl)).to (by simp [wk, k0])
end Go.Proofs.YtkpneibifdoecaaGreat
namespace Go.Ev
open Go
section
variable {m : MachS} {s : List Int}
theorem ex_put {dst n v : Int} (hd : 0 ≤ dst ∧ dst ≤ 15) (hn : 0 ≤ n ∧ n ≤ 2147483647) : ∃ p, execS m (putX dst n) v = ((m.at p).put dst n, 0) := by
 have hm : mayX 1 32 dst 0 0 0 n 0 = true := may_all hd (by decide) (by decide) (by decide) ⟨by omega, hn.2⟩ (by rfl)
 refine ⟨u64 (m.pc + u64 (XS.len (putX dst n))), ?_⟩
 rw [execS_may (x := putX dst n) hm]
 have : cutM (u64 n) 32 = n := by
  show u64 n % 4294967296 = n
  unfold u64; rw [w_u64]; omega
 show ((m.at _).put dst (cutM (u64 n) 32), (0 : Int)) = _
 rw [this]
theorem ex_mov {dst src v : Int} (hd : 0 ≤ dst ∧ dst ≤ 15) (hs : 0 ≤ src ∧ src ≤ 15) : ∃ p, execS m ⟨0, 64, dst, src, 0, 0, 0, 0⟩ v = ((m.at p).put dst (rg m.rl src), 0) := by
 have hm : mayX 0 64 dst src 0 0 0 0 = true := may_all hd hs (by decide) (by decide) (by decide) (by rfl)
 refine ⟨u64 (m.pc + u64 (XS.len ⟨0, 64, dst, src, 0, 0, 0, 0⟩)), ?_⟩
 rw [execS_may (x := ⟨0, 64, dst, src, 0, 0, 0, 0⟩) hm]
 rfl
theorem ex_load {dst n v : Int} (hd : 0 ≤ dst ∧ dst ≤ 15) (hn : 0 ≤ n ∧ n < 11) : ∃ p, execS m ⟨26, 64, dst, 0, 4, 8 * n, 0, 0⟩ v = ((m.at p).put dst v, 0) := by
 have hm : mayX 26 64 dst 0 4 (8 * n) 0 0 = true := may_all hd (by decide) (by decide) ⟨by omega, by omega⟩ (by decide) (by rfl)
 refine ⟨u64 (m.pc + u64 (XS.len ⟨26, 64, dst, 0, 4, 8 * n, 0, 0⟩)), ?_⟩
 rw [execS_may (by exact hm)]
 rfl
theorem may_store {src n : Int} (hs : 0 ≤ src ∧ src ≤ 15) (hn : 0 ≤ n ∧ n < 11) : mayX 27 64 0 src 4 (8 * n) 0 0 = true := may_all (by decide) hs (by decide) ⟨by omega, by omega⟩ (by decide) (by rfl)
theorem ex_store {src n v : Int} (hs : 0 ≤ src ∧ src ≤ 15) (hn : 0 ≤ n ∧ n < 11) : ∃ p, execS m (storeX src n) v = (m.at p, 0) := by
 refine ⟨u64 (m.pc + u64 (XS.len (storeX src n))), ?_⟩
 rw [execS_may (by exact may_store hs hn)]
 rfl
theorem given_at {p : PlS} {m2 : MachS} {s2 : List Int} {reg v : Int} (hm : p.may = true) (hap : p.apart = true) (g0 : 0 ≤ reg) (g1 : reg ≤ 10) (hk : Keeps m s m2 s2 (p.k reg) (p.n reg)) (hv : p.k reg ≠ 0 → atM m2 s2 (p.k reg) (p.n reg) = v) {i : Int} (i0 : 0 ≤ i) (i1 : i ≤ 10) :
  atM m2 s2 (p.k i) (p.n i) = if i = reg ∧ p.k i ≠ 0 then v else atM m s (p.k i) (p.n i) := by
 by_cases h0 : p.k i = 0
 ·rw [if_neg (fun h => h.2 h0)]
  unfold atM
  rw [if_neg (by omega), if_neg (by omega), if_neg (by omega), if_neg (by omega)]
 ·by_cases hi : i = reg
  ·subst hi
   rw [if_pos ⟨rfl, h0⟩]
   exact hv h0
  ·rw [if_neg (fun h => hi h.1)]
   exact hk.at_ _ _ (PlS.may_at hm i0 i1) (PlS.apart_ne hap i0 i1 g0 g1 hi h0)
end
end Go.Ev
namespace Go.Proofs.YtkpneibifdoecaaGreat
open Go Go.Ev
theorem rscr_ok (n : Int) : Ret Tryz.prog 24 ([.int .i8 n]) (.bool (scrM n)) := by
 by_cases h0 : n = 0
 ·subst h0
  exact (Ret.of_eval (d := .bool true) mixed Tryz.func24 (by kernel_rfl) [tF, tF, tT, tF, tF, tT, tF, tF, tT] (by kernel_rfl)).to (by first | (simp [wk, scrM]; done) | skip; apply wk_bool; unfold scrM; symm; first | (rw [decide_eq_true_eq]; simp only [beq_iff_eq, beq_eq_false_iff_ne, ne_eq] at *; omega) | (rw [decide_eq_false_iff_not]; simp only [beq_iff_eq, beq_eq_false_iff_ne, ne_eq] at *; omega) | (rw [Bool.eq_iff_iff]; simp only [beq_iff_eq, decide_eq_true_eq]; omega))
 ·skip
  by_cases h1 : n = 1
  ·subst h1
   exact (Ret.of_eval (d := .bool true) mixed Tryz.func24 (by kernel_rfl) [tC (eF (neOf h0)), tC (eF (neOf h0)), tC (neOf h0), tF, tF, tT, tF, tF, tT] (by kernel_rfl)).to (by first | (simp [wk, scrM]; done) | skip; apply wk_bool; unfold scrM; symm; first | (rw [decide_eq_true_eq]; simp only [beq_iff_eq, beq_eq_false_iff_ne, ne_eq] at *; omega) | (rw [decide_eq_false_iff_not]; simp only [beq_iff_eq, beq_eq_false_iff_ne, ne_eq] at *; omega) | (rw [Bool.eq_iff_iff]; simp only [beq_iff_eq, decide_eq_true_eq]; omega))
  ·skip
   by_cases h2 : n = 2
   ·subst h2
    exact (Ret.of_eval (d := .bool true) mixed Tryz.func24 (by kernel_rfl) [tC (eF (neOf h0)), tC (eF (neOf h0)), tC (neOf h0), tC (eF (neOf h1)), tC (eF (neOf h1)), tC (neOf h1), tF, tF, tT] (by kernel_rfl)).to (by first | (simp [wk, scrM]; done) | skip; apply wk_bool; unfold scrM; symm; first | (rw [decide_eq_true_eq]; simp only [beq_iff_eq, beq_eq_false_iff_ne, ne_eq] at *; omega) | (rw [decide_eq_false_iff_not]; simp only [beq_iff_eq, beq_eq_false_iff_ne, ne_eq] at *; omega) | (rw [Bool.eq_iff_iff]; simp only [beq_iff_eq, decide_eq_true_eq]; omega))
   ·skip
    exact (Ret.of_eval (d := .bool (n == (11 : Int))) mixed Tryz.func24 (by kernel_rfl) [tC (eF (neOf h0)), tC (eF (neOf h0)), tC (neOf h0), tC (eF (neOf h1)), tC (eF (neOf h1)), tC (neOf h1), tC (eF (neOf h2)), tC (eF (neOf h2)), tC (neOf h2)] (by kernel_rfl)).to (by first | (simp [wk, scrM]; done) | skip; apply wk_bool; unfold scrM; symm; first | (rw [decide_eq_true_eq]; simp only [beq_iff_eq, beq_eq_false_iff_ne, ne_eq] at *; omega) | (rw [decide_eq_false_iff_not]; simp only [beq_iff_eq, beq_eq_false_iff_ne, ne_eq] at *; omega) | (rw [Bool.eq_iff_iff]; simp only [beq_iff_eq, decide_eq_true_eq]; omega))
theorem take_0_ok (p : PlS) (reg phys : Int) (g0 : 0 ≤ reg) (g1 : reg ≤ 10) (h0 : 0 ≤ phys) (hI : Ret Tryz.prog 61 [irD 1 0 0 0 0 0 0 0 0 0 phys 0 0] (.bool true)) (hM : Ret Tryz.prog 28 [.agg [.int .i8 (p.k 0), .int .i8 (p.n 0), .int .i8 (p.k 1), .int .i8 (p.n 1), .int .i8 (p.k 2), .int .i8 (p.n 2), .int .i8 (p.k 3), .int .i8 (p.n 3), .int .i8 (p.k 4), .int .i8 (p.n 4), .int .i8 (p.k 5), .int .i8 (p.n 5), .int .i8 (p.k 6), .int .i8 (p.n 6), .int .i8 (p.k 7), .int .i8 (p.n 7), .int .i8 (p.k 8), .int .i8 (p.n 8), .int .i8 (p.k 9), .int .i8 (p.n 9), .int .i8 (p.k 10), .int .i8 (p.n 10)]] (.bool true)) (h2 : (p.k reg == 2) = false) (h1 : (p.k reg == 1) = false)  : Ret Tryz.prog 12 ([.int .i64 reg, .int .i8 phys, .agg [.int .i8 (p.k 0), .int .i8 (p.n 0), .int .i8 (p.k 1), .int .i8 (p.n 1), .int .i8 (p.k 2), .int .i8 (p.n 2), .int .i8 (p.k 3), .int .i8 (p.n 3), .int .i8 (p.k 4), .int .i8 (p.n 4), .int .i8 (p.k 5), .int .i8 (p.n 5), .int .i8 (p.k 6), .int .i8 (p.n 6), .int .i8 (p.k 7), .int .i8 (p.n 7), .int .i8 (p.k 8), .int .i8 (p.n 8), .int .i8 (p.k 9), .int .i8 (p.n 9), .int .i8 (p.k 10), .int .i8 (p.n 10)]]) (.tup [.lst .no 8 [xD 1 32 phys 0 0 0 0 0], .int .i64 0]) := by
 exact (Ret.of_eval (d := .tup [.lst .tight 8 [(xD 1 32 phys 0 0 0 0 0)], .int .i64 0]) mixed Tryz.func12 (by kernel_rfl) ([.inl, tC (eT (leL 0 (decide_eq_false (Int.not_lt.2 g0)))), tC (eT (leL 0 (decide_eq_false (Int.not_lt.2 g0)))), tC (leL 0 (decide_eq_false (Int.not_lt.2 g0))), tC (eT (decide_eq_true (Int.lt_add_one_of_le g1))), tC (eT (decide_eq_true (Int.lt_add_one_of_le g1))), tC (decide_eq_true (Int.lt_add_one_of_le g1)), tC (eT (leL 0 (decide_eq_false (Int.not_lt.2 h0)))), tC (eT (leL 0 (decide_eq_false (Int.not_lt.2 h0)))), tC (eT (leL 0 (decide_eq_false (Int.not_lt.2 h0)))), .ret _ _ _ hI, tC (leL 0 (decide_eq_false (Int.not_lt.2 h0))), tT, tT, tT, tT] ++ [.ret _ _ _ hM, tT, tF, .tst (decide ((0 : Int) ≤ reg ∧ reg < (↑(11 : Nat) : Int))) true (by ((try simp only [List.length_set, List.length_map, w_i8, w_u8, w_i64, w_u64, decide_eq_true_eq, decide_eq_false_iff_not, beq_iff_eq, bne_iff_ne, beq_eq_false_iff_ne, bne_eq_false_iff_eq, Bool.not_eq_true', Bool.not_eq_false', Bool.and_eq_true, Bool.or_eq_true] at *); (try unfold big at *); omega)), .getA _ _ _ _ (@getp (p) (reg) ([]) g0 g1), .inl, tC h1, tC h2, .inl]) (by kernel_rfl)).to (by first | rfl | (simp [wk, wkL, wkO]; done) | exact ⟨⟨rfl, .inl rfl, rfl, .inl rfl⟩, rfl, trivial⟩ | exact ⟨⟨rfl, .inl rfl, trivial, .inr rfl⟩, rfl, trivial⟩)
theorem take_1_ok (p : PlS) (reg phys : Int) (g0 : 0 ≤ reg) (g1 : reg ≤ 10) (h0 : 0 ≤ phys) (hI : Ret Tryz.prog 61 [irD 1 0 0 0 0 0 0 0 0 0 phys 0 0] (.bool true)) (hM : Ret Tryz.prog 28 [.agg [.int .i8 (p.k 0), .int .i8 (p.n 0), .int .i8 (p.k 1), .int .i8 (p.n 1), .int .i8 (p.k 2), .int .i8 (p.n 2), .int .i8 (p.k 3), .int .i8 (p.n 3), .int .i8 (p.k 4), .int .i8 (p.n 4), .int .i8 (p.k 5), .int .i8 (p.n 5), .int .i8 (p.k 6), .int .i8 (p.n 6), .int .i8 (p.k 7), .int .i8 (p.n 7), .int .i8 (p.k 8), .int .i8 (p.n 8), .int .i8 (p.k 9), .int .i8 (p.n 9), .int .i8 (p.k 10), .int .i8 (p.n 10)]] (.bool true)) (h2 : (p.k reg == 2) = false) (h1 : (p.k reg == 1) = true)  : Ret Tryz.prog 12 ([.int .i64 reg, .int .i8 phys, .agg [.int .i8 (p.k 0), .int .i8 (p.n 0), .int .i8 (p.k 1), .int .i8 (p.n 1), .int .i8 (p.k 2), .int .i8 (p.n 2), .int .i8 (p.k 3), .int .i8 (p.n 3), .int .i8 (p.k 4), .int .i8 (p.n 4), .int .i8 (p.k 5), .int .i8 (p.n 5), .int .i8 (p.k 6), .int .i8 (p.n 6), .int .i8 (p.k 7), .int .i8 (p.n 7), .int .i8 (p.k 8), .int .i8 (p.n 8), .int .i8 (p.k 9), .int .i8 (p.n 9), .int .i8 (p.k 10), .int .i8 (p.n 10)]]) (.tup [.lst .no 8 [xD 0 64 phys (p.n reg) 0 0 0 0], .int .i64 0]) := by
 exact (Ret.of_eval (d := .tup [.lst .tight 8 [(xD 0 64 phys (PlS.n p reg) 0 0 0 0)], .int .i64 0]) mixed Tryz.func12 (by kernel_rfl) ([.inl, tC (eT (leL 0 (decide_eq_false (Int.not_lt.2 g0)))), tC (eT (leL 0 (decide_eq_false (Int.not_lt.2 g0)))), tC (leL 0 (decide_eq_false (Int.not_lt.2 g0))), tC (eT (decide_eq_true (Int.lt_add_one_of_le g1))), tC (eT (decide_eq_true (Int.lt_add_one_of_le g1))), tC (decide_eq_true (Int.lt_add_one_of_le g1)), tC (eT (leL 0 (decide_eq_false (Int.not_lt.2 h0)))), tC (eT (leL 0 (decide_eq_false (Int.not_lt.2 h0)))), tC (eT (leL 0 (decide_eq_false (Int.not_lt.2 h0)))), .ret _ _ _ hI, tC (leL 0 (decide_eq_false (Int.not_lt.2 h0))), tT, tT, tT, tT] ++ [.ret _ _ _ hM, tT, tF, .tst (decide ((0 : Int) ≤ reg ∧ reg < (↑(11 : Nat) : Int))) true (by ((try simp only [List.length_set, List.length_map, w_i8, w_u8, w_i64, w_u64, decide_eq_true_eq, decide_eq_false_iff_not, beq_iff_eq, bne_iff_ne, beq_eq_false_iff_ne, bne_eq_false_iff_eq, Bool.not_eq_true', Bool.not_eq_false', Bool.and_eq_true, Bool.or_eq_true] at *); (try unfold big at *); omega)), .getA _ _ _ _ (@getp (p) (reg) ([]) g0 g1), .inl, tC (eqI 1 true (eq_of_beq h1))]) (by kernel_rfl)).to (by first | rfl | (simp [wk, wkL, wkO]; done) | exact ⟨⟨rfl, .inl rfl, rfl, .inl rfl⟩, rfl, trivial⟩ | exact ⟨⟨rfl, .inl rfl, trivial, .inr rfl⟩, rfl, trivial⟩)
theorem take_2_ok (p : PlS) (reg phys : Int) (g0 : 0 ≤ reg) (g1 : reg ≤ 10) (h0 : 0 ≤ phys) (hI : Ret Tryz.prog 61 [irD 1 0 0 0 0 0 0 0 0 0 phys 0 0] (.bool true)) (hM : Ret Tryz.prog 28 [.agg [.int .i8 (p.k 0), .int .i8 (p.n 0), .int .i8 (p.k 1), .int .i8 (p.n 1), .int .i8 (p.k 2), .int .i8 (p.n 2), .int .i8 (p.k 3), .int .i8 (p.n 3), .int .i8 (p.k 4), .int .i8 (p.n 4), .int .i8 (p.k 5), .int .i8 (p.n 5), .int .i8 (p.k 6), .int .i8 (p.n 6), .int .i8 (p.k 7), .int .i8 (p.n 7), .int .i8 (p.k 8), .int .i8 (p.n 8), .int .i8 (p.k 9), .int .i8 (p.n 9), .int .i8 (p.k 10), .int .i8 (p.n 10)]] (.bool true)) (h2 : (p.k reg == 2) = true) (h1 : (p.k reg == 1) = false)  : Ret Tryz.prog 12 ([.int .i64 reg, .int .i8 phys, .agg [.int .i8 (p.k 0), .int .i8 (p.n 0), .int .i8 (p.k 1), .int .i8 (p.n 1), .int .i8 (p.k 2), .int .i8 (p.n 2), .int .i8 (p.k 3), .int .i8 (p.n 3), .int .i8 (p.k 4), .int .i8 (p.n 4), .int .i8 (p.k 5), .int .i8 (p.n 5), .int .i8 (p.k 6), .int .i8 (p.n 6), .int .i8 (p.k 7), .int .i8 (p.n 7), .int .i8 (p.k 8), .int .i8 (p.n 8), .int .i8 (p.k 9), .int .i8 (p.n 9), .int .i8 (p.k 10), .int .i8 (p.n 10)]]) (.tup [.lst .no 8 [xD 26 64 phys 0 4 (IntKind.i64.wrap (8 * IntKind.i64.wrap (p.n reg))) 0 0], .int .i64 0]) := by
 exact (Ret.of_eval (d := .tup [.lst .tight 8 [(xD 26 64 phys 0 4 (IntKind.i64.wrap ((8 : Int) * IntKind.i64.wrap (PlS.n p reg))) 0 0)], .int .i64 0]) mixed Tryz.func12 (by kernel_rfl) ([.inl, tC (eT (leL 0 (decide_eq_false (Int.not_lt.2 g0)))), tC (eT (leL 0 (decide_eq_false (Int.not_lt.2 g0)))), tC (leL 0 (decide_eq_false (Int.not_lt.2 g0))), tC (eT (decide_eq_true (Int.lt_add_one_of_le g1))), tC (eT (decide_eq_true (Int.lt_add_one_of_le g1))), tC (decide_eq_true (Int.lt_add_one_of_le g1)), tC (eT (leL 0 (decide_eq_false (Int.not_lt.2 h0)))), tC (eT (leL 0 (decide_eq_false (Int.not_lt.2 h0)))), tC (eT (leL 0 (decide_eq_false (Int.not_lt.2 h0)))), .ret _ _ _ hI, tC (leL 0 (decide_eq_false (Int.not_lt.2 h0))), tT, tT, tT, tT] ++ [.ret _ _ _ hM, tT, tF, .tst (decide ((0 : Int) ≤ reg ∧ reg < (↑(11 : Nat) : Int))) true (by ((try simp only [List.length_set, List.length_map, w_i8, w_u8, w_i64, w_u64, decide_eq_true_eq, decide_eq_false_iff_not, beq_iff_eq, bne_iff_ne, beq_eq_false_iff_ne, bne_eq_false_iff_eq, Bool.not_eq_true', Bool.not_eq_false', Bool.and_eq_true, Bool.or_eq_true] at *); (try unfold big at *); omega)), .getA _ _ _ _ (@getp (p) (reg) ([]) g0 g1), .inl, tC (eqI 1 false (eq_of_beq h2)), tC (eqI 2 true (eq_of_beq h2))]) (by kernel_rfl)).to (by first | rfl | (simp [wk, wkL, wkO]; done) | exact ⟨⟨rfl, .inl rfl, rfl, .inl rfl⟩, rfl, trivial⟩ | exact ⟨⟨rfl, .inl rfl, trivial, .inr rfl⟩, rfl, trivial⟩)
theorem take_n1_ok (p : PlS) (reg phys : Int) (h : reg < 0)  : Ret Tryz.prog 12 ([.int .i64 reg, .int .i8 phys, .agg [.int .i8 (p.k 0), .int .i8 (p.n 0), .int .i8 (p.k 1), .int .i8 (p.n 1), .int .i8 (p.k 2), .int .i8 (p.n 2), .int .i8 (p.k 3), .int .i8 (p.n 3), .int .i8 (p.k 4), .int .i8 (p.n 4), .int .i8 (p.k 5), .int .i8 (p.n 5), .int .i8 (p.k 6), .int .i8 (p.n 6), .int .i8 (p.k 7), .int .i8 (p.n 7), .int .i8 (p.k 8), .int .i8 (p.n 8), .int .i8 (p.k 9), .int .i8 (p.n 9), .int .i8 (p.k 10), .int .i8 (p.n 10)]]) (.tup [.lst .tight 0 [], .int .i64 2]) := by
 exact (Ret.of_eval (d := .tup [.lst .tight 0 [], .int .i64 2]) mixed Tryz.func12 (by kernel_rfl) ([.inl, tC (eT (leL 0 (decide_eq_true h))), tC (eT (leL 0 (decide_eq_true h))), tC (leL 0 (decide_eq_true h)), tF, tF, tF, tF, tF, tF, tF, tF, tF, tF, tF, tF] ++ [tT]) (by kernel_rfl)).to (by first | rfl | (simp [wk, wkL, wkO]; done) | exact ⟨⟨rfl, .inl rfl, rfl, .inl rfl⟩, rfl, trivial⟩ | exact ⟨⟨rfl, .inl rfl, trivial, .inr rfl⟩, rfl, trivial⟩)
theorem take_n2_ok (p : PlS) (reg phys : Int) (h : 10 < reg)  : Ret Tryz.prog 12 ([.int .i64 reg, .int .i8 phys, .agg [.int .i8 (p.k 0), .int .i8 (p.n 0), .int .i8 (p.k 1), .int .i8 (p.n 1), .int .i8 (p.k 2), .int .i8 (p.n 2), .int .i8 (p.k 3), .int .i8 (p.n 3), .int .i8 (p.k 4), .int .i8 (p.n 4), .int .i8 (p.k 5), .int .i8 (p.n 5), .int .i8 (p.k 6), .int .i8 (p.n 6), .int .i8 (p.k 7), .int .i8 (p.n 7), .int .i8 (p.k 8), .int .i8 (p.n 8), .int .i8 (p.k 9), .int .i8 (p.n 9), .int .i8 (p.k 10), .int .i8 (p.n 10)]]) (.tup [.lst .tight 0 [], .int .i64 2]) := by
 exact (Ret.of_eval (d := .tup [.lst .tight 0 [], .int .i64 2]) mixed Tryz.func12 (by kernel_rfl) ([.inl, tC (eT (leL 0 (ltD 0 (decide_eq_false (by omega : ¬ reg < 11))))), tC (eT (leL 0 (ltD 0 (decide_eq_false (by omega : ¬ reg < 11))))), tC (leL 0 (ltD 0 (decide_eq_false (by omega : ¬ reg < 11)))), tC (eT (decide_eq_false (by omega : ¬ reg < 11))), tC (eT (decide_eq_false (by omega : ¬ reg < 11))), tC (decide_eq_false (by omega : ¬ reg < 11)), tF, tF, tF, tF, tF, tF, tF, tF, tF] ++ [tT]) (by kernel_rfl)).to (by first | rfl | (simp [wk, wkL, wkO]; done) | exact ⟨⟨rfl, .inl rfl, rfl, .inl rfl⟩, rfl, trivial⟩ | exact ⟨⟨rfl, .inl rfl, trivial, .inr rfl⟩, rfl, trivial⟩)
theorem take_n3_ok (p : PlS) (reg phys : Int) (g0 : 0 ≤ reg) (g1 : reg ≤ 10) (h : phys < 0)  : Ret Tryz.prog 12 ([.int .i64 reg, .int .i8 phys, .agg [.int .i8 (p.k 0), .int .i8 (p.n 0), .int .i8 (p.k 1), .int .i8 (p.n 1), .int .i8 (p.k 2), .int .i8 (p.n 2), .int .i8 (p.k 3), .int .i8 (p.n 3), .int .i8 (p.k 4), .int .i8 (p.n 4), .int .i8 (p.k 5), .int .i8 (p.n 5), .int .i8 (p.k 6), .int .i8 (p.n 6), .int .i8 (p.k 7), .int .i8 (p.n 7), .int .i8 (p.k 8), .int .i8 (p.n 8), .int .i8 (p.k 9), .int .i8 (p.n 9), .int .i8 (p.k 10), .int .i8 (p.n 10)]]) (.tup [.lst .tight 0 [], .int .i64 2]) := by
 exact (Ret.of_eval (d := .tup [.lst .tight 0 [], .int .i64 2]) mixed Tryz.func12 (by kernel_rfl) ([.inl, tC (eT (leL 0 (decide_eq_false (Int.not_lt.2 g0)))), tC (eT (leL 0 (decide_eq_false (Int.not_lt.2 g0)))), tC (leL 0 (decide_eq_false (Int.not_lt.2 g0))), tC (eT (decide_eq_true (Int.lt_add_one_of_le g1))), tC (eT (decide_eq_true (Int.lt_add_one_of_le g1))), tC (decide_eq_true (Int.lt_add_one_of_le g1)), tC (eT (leL 0 (decide_eq_true h))), tC (eT (leL 0 (decide_eq_true h))), tC (eT (leL 0 (decide_eq_true h))), tC (leL 0 (decide_eq_true h)), tF, tF, tF, tF, tF] ++ [tT]) (by kernel_rfl)).to (by first | rfl | (simp [wk, wkL, wkO]; done) | exact ⟨⟨rfl, .inl rfl, rfl, .inl rfl⟩, rfl, trivial⟩ | exact ⟨⟨rfl, .inl rfl, trivial, .inr rfl⟩, rfl, trivial⟩)
theorem take_n4_ok (p : PlS) (reg phys : Int) (g0 : 0 ≤ reg) (g1 : reg ≤ 10) (h0 : 0 ≤ phys) (hI : Ret Tryz.prog 61 [irD 1 0 0 0 0 0 0 0 0 0 phys 0 0] (.bool false))  : Ret Tryz.prog 12 ([.int .i64 reg, .int .i8 phys, .agg [.int .i8 (p.k 0), .int .i8 (p.n 0), .int .i8 (p.k 1), .int .i8 (p.n 1), .int .i8 (p.k 2), .int .i8 (p.n 2), .int .i8 (p.k 3), .int .i8 (p.n 3), .int .i8 (p.k 4), .int .i8 (p.n 4), .int .i8 (p.k 5), .int .i8 (p.n 5), .int .i8 (p.k 6), .int .i8 (p.n 6), .int .i8 (p.k 7), .int .i8 (p.n 7), .int .i8 (p.k 8), .int .i8 (p.n 8), .int .i8 (p.k 9), .int .i8 (p.n 9), .int .i8 (p.k 10), .int .i8 (p.n 10)]]) (.tup [.lst .tight 0 [], .int .i64 2]) := by
 exact (Ret.of_eval (d := .tup [.lst .tight 0 [], .int .i64 2]) mixed Tryz.func12 (by kernel_rfl) ([.inl, tC (eT (leL 0 (decide_eq_false (Int.not_lt.2 g0)))), tC (eT (leL 0 (decide_eq_false (Int.not_lt.2 g0)))), tC (leL 0 (decide_eq_false (Int.not_lt.2 g0))), tC (eT (decide_eq_true (Int.lt_add_one_of_le g1))), tC (eT (decide_eq_true (Int.lt_add_one_of_le g1))), tC (decide_eq_true (Int.lt_add_one_of_le g1)), tC (eT (leL 0 (decide_eq_false (Int.not_lt.2 h0)))), tC (eT (leL 0 (decide_eq_false (Int.not_lt.2 h0)))), tC (eT (leL 0 (decide_eq_false (Int.not_lt.2 h0)))), .ret _ _ _ hI, tC (leL 0 (decide_eq_false (Int.not_lt.2 h0))), tF, tF, tF, tF] ++ [tF, tT]) (by kernel_rfl)).to (by first | rfl | (simp [wk, wkL, wkO]; done) | exact ⟨⟨rfl, .inl rfl, rfl, .inl rfl⟩, rfl, trivial⟩ | exact ⟨⟨rfl, .inl rfl, trivial, .inr rfl⟩, rfl, trivial⟩)
theorem take_n5_ok (p : PlS) (reg phys : Int) (g0 : 0 ≤ reg) (g1 : reg ≤ 10) (h0 : 0 ≤ phys) (hI : Ret Tryz.prog 61 [irD 1 0 0 0 0 0 0 0 0 0 phys 0 0] (.bool true)) (hM : Ret Tryz.prog 28 [.agg [.int .i8 (p.k 0), .int .i8 (p.n 0), .int .i8 (p.k 1), .int .i8 (p.n 1), .int .i8 (p.k 2), .int .i8 (p.n 2), .int .i8 (p.k 3), .int .i8 (p.n 3), .int .i8 (p.k 4), .int .i8 (p.n 4), .int .i8 (p.k 5), .int .i8 (p.n 5), .int .i8 (p.k 6), .int .i8 (p.n 6), .int .i8 (p.k 7), .int .i8 (p.n 7), .int .i8 (p.k 8), .int .i8 (p.n 8), .int .i8 (p.k 9), .int .i8 (p.n 9), .int .i8 (p.k 10), .int .i8 (p.n 10)]] (.bool false))  : Ret Tryz.prog 12 ([.int .i64 reg, .int .i8 phys, .agg [.int .i8 (p.k 0), .int .i8 (p.n 0), .int .i8 (p.k 1), .int .i8 (p.n 1), .int .i8 (p.k 2), .int .i8 (p.n 2), .int .i8 (p.k 3), .int .i8 (p.n 3), .int .i8 (p.k 4), .int .i8 (p.n 4), .int .i8 (p.k 5), .int .i8 (p.n 5), .int .i8 (p.k 6), .int .i8 (p.n 6), .int .i8 (p.k 7), .int .i8 (p.n 7), .int .i8 (p.k 8), .int .i8 (p.n 8), .int .i8 (p.k 9), .int .i8 (p.n 9), .int .i8 (p.k 10), .int .i8 (p.n 10)]]) (.tup [.lst .tight 0 [], .int .i64 2]) := by
 exact (Ret.of_eval (d := .tup [.lst .tight 0 [], .int .i64 2]) mixed Tryz.func12 (by kernel_rfl) ([.inl, tC (eT (leL 0 (decide_eq_false (Int.not_lt.2 g0)))), tC (eT (leL 0 (decide_eq_false (Int.not_lt.2 g0)))), tC (leL 0 (decide_eq_false (Int.not_lt.2 g0))), tC (eT (decide_eq_true (Int.lt_add_one_of_le g1))), tC (eT (decide_eq_true (Int.lt_add_one_of_le g1))), tC (decide_eq_true (Int.lt_add_one_of_le g1)), tC (eT (leL 0 (decide_eq_false (Int.not_lt.2 h0)))), tC (eT (leL 0 (decide_eq_false (Int.not_lt.2 h0)))), tC (eT (leL 0 (decide_eq_false (Int.not_lt.2 h0)))), .ret _ _ _ hI, tC (leL 0 (decide_eq_false (Int.not_lt.2 h0))), tT, tT, tT, tT] ++ [.ret _ _ _ hM, tT, tT]) (by kernel_rfl)).to (by first | rfl | (simp [wk, wkL, wkO]; done) | exact ⟨⟨rfl, .inl rfl, rfl, .inl rfl⟩, rfl, trivial⟩ | exact ⟨⟨rfl, .inl rfl, trivial, .inr rfl⟩, rfl, trivial⟩)
theorem give_0_ok (p : PlS) (reg phys : Int) (g0 : 0 ≤ reg) (g1 : reg ≤ 10) (h0 : 0 ≤ phys) (hI : Ret Tryz.prog 61 [irD 1 0 0 0 0 0 0 0 0 0 phys 0 0] (.bool true)) (hM : Ret Tryz.prog 28 [.agg [.int .i8 (p.k 0), .int .i8 (p.n 0), .int .i8 (p.k 1), .int .i8 (p.n 1), .int .i8 (p.k 2), .int .i8 (p.n 2), .int .i8 (p.k 3), .int .i8 (p.n 3), .int .i8 (p.k 4), .int .i8 (p.n 4), .int .i8 (p.k 5), .int .i8 (p.n 5), .int .i8 (p.k 6), .int .i8 (p.n 6), .int .i8 (p.k 7), .int .i8 (p.n 7), .int .i8 (p.k 8), .int .i8 (p.n 8), .int .i8 (p.k 9), .int .i8 (p.n 9), .int .i8 (p.k 10), .int .i8 (p.n 10)]] (.bool true)) (h2 : (p.k reg == 2) = false) (h1 : (p.k reg == 1) = false)  : Ret Tryz.prog 15 ([.int .i64 reg, .int .i8 phys, .agg [.int .i8 (p.k 0), .int .i8 (p.n 0), .int .i8 (p.k 1), .int .i8 (p.n 1), .int .i8 (p.k 2), .int .i8 (p.n 2), .int .i8 (p.k 3), .int .i8 (p.n 3), .int .i8 (p.k 4), .int .i8 (p.n 4), .int .i8 (p.k 5), .int .i8 (p.n 5), .int .i8 (p.k 6), .int .i8 (p.n 6), .int .i8 (p.k 7), .int .i8 (p.n 7), .int .i8 (p.k 8), .int .i8 (p.n 8), .int .i8 (p.k 9), .int .i8 (p.n 9), .int .i8 (p.k 10), .int .i8 (p.n 10)]]) (.tup [.lst .tight 0 [], .int .i64 0]) := by
 exact (Ret.of_eval (d := .tup [.lst .tight 0 [], .int .i64 0]) mixed Tryz.func15 (by kernel_rfl) ([.inl, tC (eT (leL 0 (decide_eq_false (Int.not_lt.2 g0)))), tC (eT (leL 0 (decide_eq_false (Int.not_lt.2 g0)))), tC (leL 0 (decide_eq_false (Int.not_lt.2 g0))), tC (eT (decide_eq_true (Int.lt_add_one_of_le g1))), tC (eT (decide_eq_true (Int.lt_add_one_of_le g1))), tC (decide_eq_true (Int.lt_add_one_of_le g1)), tC (eT (leL 0 (decide_eq_false (Int.not_lt.2 h0)))), tC (eT (leL 0 (decide_eq_false (Int.not_lt.2 h0)))), tC (eT (leL 0 (decide_eq_false (Int.not_lt.2 h0)))), .ret _ _ _ hI, tC (leL 0 (decide_eq_false (Int.not_lt.2 h0))), tT, tT, tT, tT] ++ [.ret _ _ _ hM, tT, tF, .tst (decide ((0 : Int) ≤ reg ∧ reg < (↑(11 : Nat) : Int))) true (by ((try simp only [List.length_set, List.length_map, w_i8, w_u8, w_i64, w_u64, decide_eq_true_eq, decide_eq_false_iff_not, beq_iff_eq, bne_iff_ne, beq_eq_false_iff_ne, bne_eq_false_iff_eq, Bool.not_eq_true', Bool.not_eq_false', Bool.and_eq_true, Bool.or_eq_true] at *); (try unfold big at *); omega)), .getA _ _ _ _ (@getp (p) (reg) ([]) g0 g1), tC h1, tC h2]) (by kernel_rfl)).to (by first | rfl | (simp [wk, wkL, wkO]; done) | exact ⟨⟨rfl, .inl rfl, rfl, .inl rfl⟩, rfl, trivial⟩ | exact ⟨⟨rfl, .inl rfl, trivial, .inr rfl⟩, rfl, trivial⟩)
theorem give_1_ok (p : PlS) (reg phys : Int) (g0 : 0 ≤ reg) (g1 : reg ≤ 10) (h0 : 0 ≤ phys) (hI : Ret Tryz.prog 61 [irD 1 0 0 0 0 0 0 0 0 0 phys 0 0] (.bool true)) (hM : Ret Tryz.prog 28 [.agg [.int .i8 (p.k 0), .int .i8 (p.n 0), .int .i8 (p.k 1), .int .i8 (p.n 1), .int .i8 (p.k 2), .int .i8 (p.n 2), .int .i8 (p.k 3), .int .i8 (p.n 3), .int .i8 (p.k 4), .int .i8 (p.n 4), .int .i8 (p.k 5), .int .i8 (p.n 5), .int .i8 (p.k 6), .int .i8 (p.n 6), .int .i8 (p.k 7), .int .i8 (p.n 7), .int .i8 (p.k 8), .int .i8 (p.n 8), .int .i8 (p.k 9), .int .i8 (p.n 9), .int .i8 (p.k 10), .int .i8 (p.n 10)]] (.bool true)) (h2 : (p.k reg == 2) = false) (h1 : (p.k reg == 1) = true)  : Ret Tryz.prog 15 ([.int .i64 reg, .int .i8 phys, .agg [.int .i8 (p.k 0), .int .i8 (p.n 0), .int .i8 (p.k 1), .int .i8 (p.n 1), .int .i8 (p.k 2), .int .i8 (p.n 2), .int .i8 (p.k 3), .int .i8 (p.n 3), .int .i8 (p.k 4), .int .i8 (p.n 4), .int .i8 (p.k 5), .int .i8 (p.n 5), .int .i8 (p.k 6), .int .i8 (p.n 6), .int .i8 (p.k 7), .int .i8 (p.n 7), .int .i8 (p.k 8), .int .i8 (p.n 8), .int .i8 (p.k 9), .int .i8 (p.n 9), .int .i8 (p.k 10), .int .i8 (p.n 10)]]) (.tup [.lst .no 8 [xD 0 64 (p.n reg) phys 0 0 0 0], .int .i64 0]) := by
 exact (Ret.of_eval (d := .tup [.lst (.fresh 8) 8 [(xD 0 64 (PlS.n p reg) phys 0 0 0 0)], .int .i64 0]) mixed Tryz.func15 (by kernel_rfl) ([.inl, tC (eT (leL 0 (decide_eq_false (Int.not_lt.2 g0)))), tC (eT (leL 0 (decide_eq_false (Int.not_lt.2 g0)))), tC (leL 0 (decide_eq_false (Int.not_lt.2 g0))), tC (eT (decide_eq_true (Int.lt_add_one_of_le g1))), tC (eT (decide_eq_true (Int.lt_add_one_of_le g1))), tC (decide_eq_true (Int.lt_add_one_of_le g1)), tC (eT (leL 0 (decide_eq_false (Int.not_lt.2 h0)))), tC (eT (leL 0 (decide_eq_false (Int.not_lt.2 h0)))), tC (eT (leL 0 (decide_eq_false (Int.not_lt.2 h0)))), .ret _ _ _ hI, tC (leL 0 (decide_eq_false (Int.not_lt.2 h0))), tT, tT, tT, tT] ++ [.ret _ _ _ hM, tT, tF, .tst (decide ((0 : Int) ≤ reg ∧ reg < (↑(11 : Nat) : Int))) true (by ((try simp only [List.length_set, List.length_map, w_i8, w_u8, w_i64, w_u64, decide_eq_true_eq, decide_eq_false_iff_not, beq_iff_eq, bne_iff_ne, beq_eq_false_iff_ne, bne_eq_false_iff_eq, Bool.not_eq_true', Bool.not_eq_false', Bool.and_eq_true, Bool.or_eq_true] at *); (try unfold big at *); omega)), .getA _ _ _ _ (@getp (p) (reg) ([]) g0 g1), tC (eqI 1 true (eq_of_beq h1)), .inl, .len ((1 : Nat)) ((2147483648 : Nat)) (by first | decide | omega | (simp; omega))]) (by kernel_rfl)).to (by first | rfl | (simp [wk, wkL, wkO]; done) | exact ⟨⟨rfl, .inl rfl, rfl, .inl rfl⟩, rfl, trivial⟩ | exact ⟨⟨rfl, .inl rfl, trivial, .inr rfl⟩, rfl, trivial⟩)
theorem give_2_ok (p : PlS) (reg phys : Int) (g0 : 0 ≤ reg) (g1 : reg ≤ 10) (h0 : 0 ≤ phys) (hI : Ret Tryz.prog 61 [irD 1 0 0 0 0 0 0 0 0 0 phys 0 0] (.bool true)) (hM : Ret Tryz.prog 28 [.agg [.int .i8 (p.k 0), .int .i8 (p.n 0), .int .i8 (p.k 1), .int .i8 (p.n 1), .int .i8 (p.k 2), .int .i8 (p.n 2), .int .i8 (p.k 3), .int .i8 (p.n 3), .int .i8 (p.k 4), .int .i8 (p.n 4), .int .i8 (p.k 5), .int .i8 (p.n 5), .int .i8 (p.k 6), .int .i8 (p.n 6), .int .i8 (p.k 7), .int .i8 (p.n 7), .int .i8 (p.k 8), .int .i8 (p.n 8), .int .i8 (p.k 9), .int .i8 (p.n 9), .int .i8 (p.k 10), .int .i8 (p.n 10)]] (.bool true)) (h2 : (p.k reg == 2) = true) (h1 : (p.k reg == 1) = false)  : Ret Tryz.prog 15 ([.int .i64 reg, .int .i8 phys, .agg [.int .i8 (p.k 0), .int .i8 (p.n 0), .int .i8 (p.k 1), .int .i8 (p.n 1), .int .i8 (p.k 2), .int .i8 (p.n 2), .int .i8 (p.k 3), .int .i8 (p.n 3), .int .i8 (p.k 4), .int .i8 (p.n 4), .int .i8 (p.k 5), .int .i8 (p.n 5), .int .i8 (p.k 6), .int .i8 (p.n 6), .int .i8 (p.k 7), .int .i8 (p.n 7), .int .i8 (p.k 8), .int .i8 (p.n 8), .int .i8 (p.k 9), .int .i8 (p.n 9), .int .i8 (p.k 10), .int .i8 (p.n 10)]]) (.tup [.lst .no 8 [xD 27 64 0 phys 4 (IntKind.i64.wrap (8 * IntKind.i64.wrap (p.n reg))) 0 0], .int .i64 0]) := by
 exact (Ret.of_eval (d := .tup [.lst (.fresh 8) 8 [(xD 27 64 0 phys 4 (IntKind.i64.wrap ((8 : Int) * IntKind.i64.wrap (PlS.n p reg))) 0 0)], .int .i64 0]) mixed Tryz.func15 (by kernel_rfl) ([.inl, tC (eT (leL 0 (decide_eq_false (Int.not_lt.2 g0)))), tC (eT (leL 0 (decide_eq_false (Int.not_lt.2 g0)))), tC (leL 0 (decide_eq_false (Int.not_lt.2 g0))), tC (eT (decide_eq_true (Int.lt_add_one_of_le g1))), tC (eT (decide_eq_true (Int.lt_add_one_of_le g1))), tC (decide_eq_true (Int.lt_add_one_of_le g1)), tC (eT (leL 0 (decide_eq_false (Int.not_lt.2 h0)))), tC (eT (leL 0 (decide_eq_false (Int.not_lt.2 h0)))), tC (eT (leL 0 (decide_eq_false (Int.not_lt.2 h0)))), .ret _ _ _ hI, tC (leL 0 (decide_eq_false (Int.not_lt.2 h0))), tT, tT, tT, tT] ++ [.ret _ _ _ hM, tT, tF, .tst (decide ((0 : Int) ≤ reg ∧ reg < (↑(11 : Nat) : Int))) true (by ((try simp only [List.length_set, List.length_map, w_i8, w_u8, w_i64, w_u64, decide_eq_true_eq, decide_eq_false_iff_not, beq_iff_eq, bne_iff_ne, beq_eq_false_iff_ne, bne_eq_false_iff_eq, Bool.not_eq_true', Bool.not_eq_false', Bool.and_eq_true, Bool.or_eq_true] at *); (try unfold big at *); omega)), .getA _ _ _ _ (@getp (p) (reg) ([]) g0 g1), tC (eqI 1 false (eq_of_beq h2)), tC (eqI 2 true (eq_of_beq h2)), .inl, .inl, .len ((1 : Nat)) ((2147483648 : Nat)) (by first | decide | omega | (simp; omega))]) (by kernel_rfl)).to (by first | rfl | (simp [wk, wkL, wkO]; done) | exact ⟨⟨rfl, .inl rfl, rfl, .inl rfl⟩, rfl, trivial⟩ | exact ⟨⟨rfl, .inl rfl, trivial, .inr rfl⟩, rfl, trivial⟩)
theorem give_n1_ok (p : PlS) (reg phys : Int) (h : reg < 0)  : Ret Tryz.prog 15 ([.int .i64 reg, .int .i8 phys, .agg [.int .i8 (p.k 0), .int .i8 (p.n 0), .int .i8 (p.k 1), .int .i8 (p.n 1), .int .i8 (p.k 2), .int .i8 (p.n 2), .int .i8 (p.k 3), .int .i8 (p.n 3), .int .i8 (p.k 4), .int .i8 (p.n 4), .int .i8 (p.k 5), .int .i8 (p.n 5), .int .i8 (p.k 6), .int .i8 (p.n 6), .int .i8 (p.k 7), .int .i8 (p.n 7), .int .i8 (p.k 8), .int .i8 (p.n 8), .int .i8 (p.k 9), .int .i8 (p.n 9), .int .i8 (p.k 10), .int .i8 (p.n 10)]]) (.tup [.lst .tight 0 [], .int .i64 2]) := by
 exact (Ret.of_eval (d := .tup [.lst .tight 0 [], .int .i64 2]) mixed Tryz.func15 (by kernel_rfl) ([.inl, tC (eT (leL 0 (decide_eq_true h))), tC (eT (leL 0 (decide_eq_true h))), tC (leL 0 (decide_eq_true h)), tF, tF, tF, tF, tF, tF, tF, tF, tF, tF, tF, tF] ++ [tT]) (by kernel_rfl)).to (by first | rfl | (simp [wk, wkL, wkO]; done) | exact ⟨⟨rfl, .inl rfl, rfl, .inl rfl⟩, rfl, trivial⟩ | exact ⟨⟨rfl, .inl rfl, trivial, .inr rfl⟩, rfl, trivial⟩)
theorem give_n2_ok (p : PlS) (reg phys : Int) (h : 10 < reg)  : Ret Tryz.prog 15 ([.int .i64 reg, .int .i8 phys, .agg [.int .i8 (p.k 0), .int .i8 (p.n 0), .int .i8 (p.k 1), .int .i8 (p.n 1), .int .i8 (p.k 2), .int .i8 (p.n 2), .int .i8 (p.k 3), .int .i8 (p.n 3), .int .i8 (p.k 4), .int .i8 (p.n 4), .int .i8 (p.k 5), .int .i8 (p.n 5), .int .i8 (p.k 6), .int .i8 (p.n 6), .int .i8 (p.k 7), .int .i8 (p.n 7), .int .i8 (p.k 8), .int .i8 (p.n 8), .int .i8 (p.k 9), .int .i8 (p.n 9), .int .i8 (p.k 10), .int .i8 (p.n 10)]]) (.tup [.lst .tight 0 [], .int .i64 2]) := by
 exact (Ret.of_eval (d := .tup [.lst .tight 0 [], .int .i64 2]) mixed Tryz.func15 (by kernel_rfl) ([.inl, tC (eT (leL 0 (ltD 0 (decide_eq_false (by omega : ¬ reg < 11))))), tC (eT (leL 0 (ltD 0 (decide_eq_false (by omega : ¬ reg < 11))))), tC (leL 0 (ltD 0 (decide_eq_false (by omega : ¬ reg < 11)))), tC (eT (decide_eq_false (by omega : ¬ reg < 11))), tC (eT (decide_eq_false (by omega : ¬ reg < 11))), tC (decide_eq_false (by omega : ¬ reg < 11)), tF, tF, tF, tF, tF, tF, tF, tF, tF] ++ [tT]) (by kernel_rfl)).to (by first | rfl | (simp [wk, wkL, wkO]; done) | exact ⟨⟨rfl, .inl rfl, rfl, .inl rfl⟩, rfl, trivial⟩ | exact ⟨⟨rfl, .inl rfl, trivial, .inr rfl⟩, rfl, trivial⟩)
theorem give_n3_ok (p : PlS) (reg phys : Int) (g0 : 0 ≤ reg) (g1 : reg ≤ 10) (h : phys < 0)  : Ret Tryz.prog 15 ([.int .i64 reg, .int .i8 phys, .agg [.int .i8 (p.k 0), .int .i8 (p.n 0), .int .i8 (p.k 1), .int .i8 (p.n 1), .int .i8 (p.k 2), .int .i8 (p.n 2), .int .i8 (p.k 3), .int .i8 (p.n 3), .int .i8 (p.k 4), .int .i8 (p.n 4), .int .i8 (p.k 5), .int .i8 (p.n 5), .int .i8 (p.k 6), .int .i8 (p.n 6), .int .i8 (p.k 7), .int .i8 (p.n 7), .int .i8 (p.k 8), .int .i8 (p.n 8), .int .i8 (p.k 9), .int .i8 (p.n 9), .int .i8 (p.k 10), .int .i8 (p.n 10)]]) (.tup [.lst .tight 0 [], .int .i64 2]) := by
 exact (Ret.of_eval (d := .tup [.lst .tight 0 [], .int .i64 2]) mixed Tryz.func15 (by kernel_rfl) ([.inl, tC (eT (leL 0 (decide_eq_false (Int.not_lt.2 g0)))), tC (eT (leL 0 (decide_eq_false (Int.not_lt.2 g0)))), tC (leL 0 (decide_eq_false (Int.not_lt.2 g0))), tC (eT (decide_eq_true (Int.lt_add_one_of_le g1))), tC (eT (decide_eq_true (Int.lt_add_one_of_le g1))), tC (decide_eq_true (Int.lt_add_one_of_le g1)), tC (eT (leL 0 (decide_eq_true h))), tC (eT (leL 0 (decide_eq_true h))), tC (eT (leL 0 (decide_eq_true h))), tC (leL 0 (decide_eq_true h)), tF, tF, tF, tF, tF] ++ [tT]) (by kernel_rfl)).to (by first | rfl | (simp [wk, wkL, wkO]; done) | exact ⟨⟨rfl, .inl rfl, rfl, .inl rfl⟩, rfl, trivial⟩ | exact ⟨⟨rfl, .inl rfl, trivial, .inr rfl⟩, rfl, trivial⟩)
theorem give_n4_ok (p : PlS) (reg phys : Int) (g0 : 0 ≤ reg) (g1 : reg ≤ 10) (h0 : 0 ≤ phys) (hI : Ret Tryz.prog 61 [irD 1 0 0 0 0 0 0 0 0 0 phys 0 0] (.bool false))  : Ret Tryz.prog 15 ([.int .i64 reg, .int .i8 phys, .agg [.int .i8 (p.k 0), .int .i8 (p.n 0), .int .i8 (p.k 1), .int .i8 (p.n 1), .int .i8 (p.k 2), .int .i8 (p.n 2), .int .i8 (p.k 3), .int .i8 (p.n 3), .int .i8 (p.k 4), .int .i8 (p.n 4), .int .i8 (p.k 5), .int .i8 (p.n 5), .int .i8 (p.k 6), .int .i8 (p.n 6), .int .i8 (p.k 7), .int .i8 (p.n 7), .int .i8 (p.k 8), .int .i8 (p.n 8), .int .i8 (p.k 9), .int .i8 (p.n 9), .int .i8 (p.k 10), .int .i8 (p.n 10)]]) (.tup [.lst .tight 0 [], .int .i64 2]) := by
 exact (Ret.of_eval (d := .tup [.lst .tight 0 [], .int .i64 2]) mixed Tryz.func15 (by kernel_rfl) ([.inl, tC (eT (leL 0 (decide_eq_false (Int.not_lt.2 g0)))), tC (eT (leL 0 (decide_eq_false (Int.not_lt.2 g0)))), tC (leL 0 (decide_eq_false (Int.not_lt.2 g0))), tC (eT (decide_eq_true (Int.lt_add_one_of_le g1))), tC (eT (decide_eq_true (Int.lt_add_one_of_le g1))), tC (decide_eq_true (Int.lt_add_one_of_le g1)), tC (eT (leL 0 (decide_eq_false (Int.not_lt.2 h0)))), tC (eT (leL 0 (decide_eq_false (Int.not_lt.2 h0)))), tC (eT (leL 0 (decide_eq_false (Int.not_lt.2 h0)))), .ret _ _ _ hI, tC (leL 0 (decide_eq_false (Int.not_lt.2 h0))), tF, tF, tF, tF] ++ [tF, tT]) (by kernel_rfl)).to (by first | rfl | (simp [wk, wkL, wkO]; done) | exact ⟨⟨rfl, .inl rfl, rfl, .inl rfl⟩, rfl, trivial⟩ | exact ⟨⟨rfl, .inl rfl, trivial, .inr rfl⟩, rfl, trivial⟩)
theorem give_n5_ok (p : PlS) (reg phys : Int) (g0 : 0 ≤ reg) (g1 : reg ≤ 10) (h0 : 0 ≤ phys) (hI : Ret Tryz.prog 61 [irD 1 0 0 0 0 0 0 0 0 0 phys 0 0] (.bool true)) (hM : Ret Tryz.prog 28 [.agg [.int .i8 (p.k 0), .int .i8 (p.n 0), .int .i8 (p.k 1), .int .i8 (p.n 1), .int .i8 (p.k 2), .int .i8 (p.n 2), .int .i8 (p.k 3), .int .i8 (p.n 3), .int .i8 (p.k 4), .int .i8 (p.n 4), .int .i8 (p.k 5), .int .i8 (p.n 5), .int .i8 (p.k 6), .int .i8 (p.n 6), .int .i8 (p.k 7), .int .i8 (p.n 7), .int .i8 (p.k 8), .int .i8 (p.n 8), .int .i8 (p.k 9), .int .i8 (p.n 9), .int .i8 (p.k 10), .int .i8 (p.n 10)]] (.bool false))  : Ret Tryz.prog 15 ([.int .i64 reg, .int .i8 phys, .agg [.int .i8 (p.k 0), .int .i8 (p.n 0), .int .i8 (p.k 1), .int .i8 (p.n 1), .int .i8 (p.k 2), .int .i8 (p.n 2), .int .i8 (p.k 3), .int .i8 (p.n 3), .int .i8 (p.k 4), .int .i8 (p.n 4), .int .i8 (p.k 5), .int .i8 (p.n 5), .int .i8 (p.k 6), .int .i8 (p.n 6), .int .i8 (p.k 7), .int .i8 (p.n 7), .int .i8 (p.k 8), .int .i8 (p.n 8), .int .i8 (p.k 9), .int .i8 (p.n 9), .int .i8 (p.k 10), .int .i8 (p.n 10)]]) (.tup [.lst .tight 0 [], .int .i64 2]) := by
 exact (Ret.of_eval (d := .tup [.lst .tight 0 [], .int .i64 2]) mixed Tryz.func15 (by kernel_rfl) ([.inl, tC (eT (leL 0 (decide_eq_false (Int.not_lt.2 g0)))), tC (eT (leL 0 (decide_eq_false (Int.not_lt.2 g0)))), tC (leL 0 (decide_eq_false (Int.not_lt.2 g0))), tC (eT (decide_eq_true (Int.lt_add_one_of_le g1))), tC (eT (decide_eq_true (Int.lt_add_one_of_le g1))), tC (decide_eq_true (Int.lt_add_one_of_le g1)), tC (eT (leL 0 (decide_eq_false (Int.not_lt.2 h0)))), tC (eT (leL 0 (decide_eq_false (Int.not_lt.2 h0)))), tC (eT (leL 0 (decide_eq_false (Int.not_lt.2 h0)))), .ret _ _ _ hI, tC (leL 0 (decide_eq_false (Int.not_lt.2 h0))), tT, tT, tT, tT] ++ [.ret _ _ _ hM, tT, tT]) (by kernel_rfl)).to (by first | rfl | (simp [wk, wkL, wkO]; done) | exact ⟨⟨rfl, .inl rfl, rfl, .inl rfl⟩, rfl, trivial⟩ | exact ⟨⟨rfl, .inl rfl, trivial, .inr rfl⟩, rfl, trivial⟩)
theorem those_ok  : Ret Tryz.prog 122 ([]) (.int .i64 2055) := by
 exact (Ret.of_eval (d := .int .i64 2055) mixed Tryz.func122 (by kernel_rfl) ([.inl, .go 64, tT, tT, .get ([.int .i8 0, .int .i8 1, .int .i8 2, .int .i8 11]) 0 (.int .i8 0) rfl, tT, tT, tT, .get ([.int .i8 0, .int .i8 1, .int .i8 2, .int .i8 11]) 1 (.int .i8 1) rfl, tT, tT, tT, .get ([.int .i8 0, .int .i8 1, .int .i8 2, .int .i8 11]) 2 (.int .i8 2) rfl, tT, tT, tT] ++ [.get ([.int .i8 0, .int .i8 1, .int .i8 2, .int .i8 11]) 3 (.int .i8 11) rfl, tT, tF]) (by kernel_rfl)).to (by rfl)
theorem phys_ok (n : Int) (hn : n ≤ 127) : Ret Tryz.prog 118 ([.int .i8 n]) (.bool (scrM n)) := by
 rcases Bool.eq_false_or_eq_true (decide (n < (0 : Int))) with h0 | h0
 ·skip
  exact (Ret.of_eval (d := .bool false) mixed Tryz.func118 (by kernel_rfl) [tC (eT (leL 0 h0)), tC (eT (leL 0 h0)), tC (eT (leL 0 h0)), tC (eT (leL 0 h0)), tC (eT (leL 0 h0)), tC (leL 0 h0)] (by kernel_rfl)).to (by first | exact wk_bool (scr_bit_eq h0 hn) | exact wk_bool (scr_neg h0))
 ·skip
  have c1 := @those_ok
  exact (Ret.of_eval (d := .bool (IntKind.i64.wrap (↑(BitVec.toNat (BitVec.ofInt (64 : Nat) (Int.fdiv (2055 : Int) ((2 : Int) ^ min (Int.toNat n) (64 : Nat))) &&& BitVec.ofInt (64 : Nat) (1 : Int))) : Int) == (1 : Int))) mixed Tryz.func118 (by kernel_rfl) [tC (eT (leL 0 h0)), .ret _ _ _ c1, tC (eT (leL 0 h0)), tC (eT (leL 0 h0)), tC (v := true) (leL 0 h0), tC (eT (leL 0 h0)), tC (eT (leL 0 h0)), tC (leL 0 h0)] (by kernel_rfl)).to (by first | exact wk_bool (scr_bit_eq h0 hn) | exact wk_bool (scr_neg h0))
theorem itake_ok (phys : Int) (h0 : 0 ≤ phys) (hn : phys ≤ 127) : Ret Tryz.prog 61 ([irD 1 0 0 0 0 0 0 0 0 0 phys 0 0]) (.bool (scrM phys)) := by
 rcases Bool.eq_false_or_eq_true (scrM phys) with k0 | k0
 ·skip
  have c1 := @phys_ok (phys) hn
  exact (Ret.of_eval (d := .bool true) mixed Tryz.func61 (by kernel_rfl) ([.inl, .inl, tT, tT, tT, tT, tT, tT, tT, tT, tT, .get ([D.fn (Fn.func 120) [] [], D.fn (Fn.func 117) [] [], D.fn (Fn.func 117) [] [], D.fn (Fn.func 123) [] [], D.fn (Fn.func 124) [] [.ptr false 2 0], D.fn (Fn.func 119) [] [], D.fn (Fn.func 126) [] []]) 1 (D.fn (Fn.func 117) [] []) rfl, tT, .inl, .inl, tT] ++ [tT, tT, tT, tT, tT, tT, tT, tT, .ret _ _ _ c1, tT, tT, tC (eT k0), tC (eT k0), tC (eT k0), tC (eT k0), tC (eT k0)] ++ [.flat _ _ flat_Ir, tC k0]) (by kernel_rfl)).to (by first | rfl | (simp [wk, k0]; done))
 ·skip
  have c2 := @phys_ok (phys) hn
  exact (Ret.of_eval (d := .bool false) mixed Tryz.func61 (by kernel_rfl) ([.inl, .inl, tT, tT, tT, tT, tT, tT, tT, tT, tT, .get ([D.fn (Fn.func 120) [] [], D.fn (Fn.func 117) [] [], D.fn (Fn.func 117) [] [], D.fn (Fn.func 123) [] [], D.fn (Fn.func 124) [] [.ptr false 2 0], D.fn (Fn.func 119) [] [], D.fn (Fn.func 126) [] []]) 1 (D.fn (Fn.func 117) [] []) rfl, tT, .inl, .inl, tT] ++ [tT, tT, tT, tT, tT, tT, tT, tT, .ret _ _ _ c2, tT, tT, tC (eT k0), tC (eT k0), tC (eT k0), tC (eT k0), tC (eT k0)] ++ [tC k0]) (by kernel_rfl)).to (by first | rfl | (simp [wk, k0]; done))
abbrev slC (s : Int → Int) : List D := [.int .u64 (s 0), .int .u64 (s 1), .int .u64 (s 2), .int .u64 (s 3), .int .u64 (s 4), .int .u64 (s 5), .int .u64 (s 6), .int .u64 (s 7), .int .u64 (s 8), .int .u64 (s 9), .int .u64 (s 10)]
theorem fin11' {P : Int → Prop} (h0 : P 0) (h1 : P 1) (h2 : P 2) (h3 : P 3) (h4 : P 4) (h5 : P 5) (h6 : P 6) (h7 : P 7) (h8 : P 8) (h9 : P 9) (h10 : P 10) {i : Int} (a : 0 ≤ i) (b : i < 11) : P i := by
 rcases fin11 (i := i) a (by omega) with rfl | rfl | rfl | rfl | rfl | rfl | rfl | rfl | rfl | rfl | rfl <;> assumption
theorem get_sl {s : Int → Int} {i : Int} (a : 0 ≤ i) (b : i < 11) : (slC s)[0 + i.toNat * 1]? = some (.int .u64 (s i)) := by
 revert a b
 intro a b
 exact fin11' (P := fun i => (slC s)[0 + i.toNat * 1]? = some (.int .u64 (s i))) rfl rfl rfl rfl rfl rfl rfl rfl rfl rfl rfl a b
theorem get_sl' {s : Int → Int} {i : Int} (a : 0 ≤ i) (b : i < 11) : (slC s)[i.toNat * 1]? = some (.int .u64 (s i)) := by
 exact fin11' (P := fun i => (slC s)[i.toNat * 1]? = some (.int .u64 (s i))) rfl rfl rfl rfl rfl rfl rfl rfl rfl rfl rfl a b
theorem wakes23_ok  : Ret Tryz.prog 8 ([]) (.bool true) := by
 exact (Ret.of_eval (d := .bool true) mixed Tryz.func8 (by kernel_rfl) ([.inl, .inl, tT, tT, tT, tT, tT, tT, tT, tT, tT, .inl, .inl, .inl, tT, tT] ++ [tT, tT, tT, tT, tT, tT, tT, .get ([D.fn (Fn.func 120) [] [], D.fn (Fn.func 117) [] [], D.fn (Fn.func 117) [] [], D.fn (Fn.func 123) [] [], D.fn (Fn.func 124) [] [.ptr false 4 0], D.fn (Fn.func 119) [] [], D.fn (Fn.func 126) [] []]) 1 (D.fn (Fn.func 117) [] []) rfl, tT, .inl, .inl, tT, tT, tT, tT, tT] ++ [tT, tT, tT, tT, .inl, tT, .inl, .inl, .go 64, tT, tT, .get ([.int .i8 0, .int .i8 1, .int .i8 2, .int .i8 11]) 0 (.int .i8 0) rfl, tT, tT, tT, .get ([.int .i8 0, .int .i8 1, .int .i8 2, .int .i8 11]) 1 (.int .i8 1) rfl] ++ [tT, tT, tT, .get ([.int .i8 0, .int .i8 1, .int .i8 2, .int .i8 11]) 2 (.int .i8 2) rfl, tT, tT, tT, .get ([.int .i8 0, .int .i8 1, .int .i8 2, .int .i8 11]) 3 (.int .i8 11) rfl, tT, tF, tT, tT, tT, tT, tT, tT] ++ [tT, tT, tT, tT, tT, tT, tT, .flat _ _ flat_Ir, tT, tT, tT, tT, tT, tT, .inl, .go 64] ++ [tT, tT, .getA ([.int .i8 0, .int .i8 0, .int .i8 0, .int .i8 0, .int .i8 2, .int .i8 0, .int .i8 2, .int .i8 1, .int .i8 0, .int .i8 0, .int .i8 0, .int .i8 0, .int .i8 0, .int .i8 0, .int .i8 0, .int .i8 0, .int .i8 0, .int .i8 0, .int .i8 0, .int .i8 0, .int .i8 0, .int .i8 0]) 0 2 ([.int .i8 0, .int .i8 0]) ⟨rfl, by first | decide | simp⟩, .flat _ _ flat_Place, tF, tF, tF, tF, tF, tF, tF, tF, tF, tF, tF, tF] ++ [tF, tF, tT, tT, .getA ([.int .i8 0, .int .i8 0, .int .i8 0, .int .i8 0, .int .i8 2, .int .i8 0, .int .i8 2, .int .i8 1, .int .i8 0, .int .i8 0, .int .i8 0, .int .i8 0, .int .i8 0, .int .i8 0, .int .i8 0, .int .i8 0, .int .i8 0, .int .i8 0, .int .i8 0, .int .i8 0, .int .i8 0, .int .i8 0]) 2 2 ([.int .i8 0, .int .i8 0]) ⟨rfl, by first | decide | simp⟩, .flat _ _ flat_Place, tF, tF, tF, tF, tF, tF, tF, tF, tF, tF] ++ [tF, tF, tF, tF, tT, tT, .getA ([.int .i8 0, .int .i8 0, .int .i8 0, .int .i8 0, .int .i8 2, .int .i8 0, .int .i8 2, .int .i8 1, .int .i8 0, .int .i8 0, .int .i8 0, .int .i8 0, .int .i8 0, .int .i8 0, .int .i8 0, .int .i8 0, .int .i8 0, .int .i8 0, .int .i8 0, .int .i8 0, .int .i8 0, .int .i8 0]) 4 2 ([.int .i8 2, .int .i8 0]) ⟨rfl, by first | decide | simp⟩, .flat _ _ flat_Place, tT, tT, .inl, tF, tF, tF, tF, tF] ++ [tF, tT, tT, tT, tT, tT, tT, tT, tT, tT, tT, tT, tT, tT, tT, tT] ++ [tT, tT, tT, tT, tF, tT, tT, .getA ([.int .i8 0, .int .i8 0, .int .i8 0, .int .i8 0, .int .i8 2, .int .i8 0, .int .i8 2, .int .i8 1, .int .i8 0, .int .i8 0, .int .i8 0, .int .i8 0, .int .i8 0, .int .i8 0, .int .i8 0, .int .i8 0, .int .i8 0, .int .i8 0, .int .i8 0, .int .i8 0, .int .i8 0, .int .i8 0]) 6 2 ([.int .i8 2, .int .i8 1]) ⟨rfl, by first | decide | simp⟩, .flat _ _ flat_Place, tT, tT, .inl, tF, tF, tF, tF] ++ [tF, tF, tT, tT, tT, tT, tT, tT, tT, tT, tT, tT, tT, tT, tT, tT] ++ [tT, tT, tT, tT, tT, tF, tT, tT, .getA ([.int .i8 0, .int .i8 0, .int .i8 0, .int .i8 0, .int .i8 2, .int .i8 0, .int .i8 2, .int .i8 1, .int .i8 0, .int .i8 0, .int .i8 0, .int .i8 0, .int .i8 0, .int .i8 0, .int .i8 0, .int .i8 0, .int .i8 0, .int .i8 0, .int .i8 0, .int .i8 0, .int .i8 0, .int .i8 0]) 8 2 ([.int .i8 0, .int .i8 0]) ⟨rfl, by first | decide | simp⟩, .flat _ _ flat_Place, tF, tF, tF, tF, tF, tF] ++ [tF, tF, tF, tF, tF, tF, tF, tF, tT, tT, .getA ([.int .i8 0, .int .i8 0, .int .i8 0, .int .i8 0, .int .i8 2, .int .i8 0, .int .i8 2, .int .i8 1, .int .i8 0, .int .i8 0, .int .i8 0, .int .i8 0, .int .i8 0, .int .i8 0, .int .i8 0, .int .i8 0, .int .i8 0, .int .i8 0, .int .i8 0, .int .i8 0, .int .i8 0, .int .i8 0]) 10 2 ([.int .i8 0, .int .i8 0]) ⟨rfl, by first | decide | simp⟩, .flat _ _ flat_Place, tF, tF, tF, tF] ++ [tF, tF, tF, tF, tF, tF, tF, tF, tF, tF, tT, tT, .getA ([.int .i8 0, .int .i8 0, .int .i8 0, .int .i8 0, .int .i8 2, .int .i8 0, .int .i8 2, .int .i8 1, .int .i8 0, .int .i8 0, .int .i8 0, .int .i8 0, .int .i8 0, .int .i8 0, .int .i8 0, .int .i8 0, .int .i8 0, .int .i8 0, .int .i8 0, .int .i8 0, .int .i8 0, .int .i8 0]) 12 2 ([.int .i8 0, .int .i8 0]) ⟨rfl, by first | decide | simp⟩, .flat _ _ flat_Place, tF, tF] ++ [tF, tF, tF, tF, tF, tF, tF, tF, tF, tF, tF, tF, tT, tT, .getA ([.int .i8 0, .int .i8 0, .int .i8 0, .int .i8 0, .int .i8 2, .int .i8 0, .int .i8 2, .int .i8 1, .int .i8 0, .int .i8 0, .int .i8 0, .int .i8 0, .int .i8 0, .int .i8 0, .int .i8 0, .int .i8 0, .int .i8 0, .int .i8 0, .int .i8 0, .int .i8 0, .int .i8 0, .int .i8 0]) 14 2 ([.int .i8 0, .int .i8 0]) ⟨rfl, by first | decide | simp⟩, .flat _ _ flat_Place] ++ [tF, tF, tF, tF, tF, tF, tF, tF, tF, tF, tF, tF, tF, tF, tT, tT] ++ [.getA ([.int .i8 0, .int .i8 0, .int .i8 0, .int .i8 0, .int .i8 2, .int .i8 0, .int .i8 2, .int .i8 1, .int .i8 0, .int .i8 0, .int .i8 0, .int .i8 0, .int .i8 0, .int .i8 0, .int .i8 0, .int .i8 0, .int .i8 0, .int .i8 0, .int .i8 0, .int .i8 0, .int .i8 0, .int .i8 0]) 16 2 ([.int .i8 0, .int .i8 0]) ⟨rfl, by first | decide | simp⟩, .flat _ _ flat_Place, tF, tF, tF, tF, tF, tF, tF, tF, tF, tF, tF, tF, tF, tF] ++ [tT, tT, .getA ([.int .i8 0, .int .i8 0, .int .i8 0, .int .i8 0, .int .i8 2, .int .i8 0, .int .i8 2, .int .i8 1, .int .i8 0, .int .i8 0, .int .i8 0, .int .i8 0, .int .i8 0, .int .i8 0, .int .i8 0, .int .i8 0, .int .i8 0, .int .i8 0, .int .i8 0, .int .i8 0, .int .i8 0, .int .i8 0]) 18 2 ([.int .i8 0, .int .i8 0]) ⟨rfl, by first | decide | simp⟩, .flat _ _ flat_Place, tF, tF, tF, tF, tF, tF, tF, tF, tF, tF, tF, tF] ++ [tF, tF, tT, tT, .getA ([.int .i8 0, .int .i8 0, .int .i8 0, .int .i8 0, .int .i8 2, .int .i8 0, .int .i8 2, .int .i8 1, .int .i8 0, .int .i8 0, .int .i8 0, .int .i8 0, .int .i8 0, .int .i8 0, .int .i8 0, .int .i8 0, .int .i8 0, .int .i8 0, .int .i8 0, .int .i8 0, .int .i8 0, .int .i8 0]) 20 2 ([.int .i8 0, .int .i8 0]) ⟨rfl, by first | decide | simp⟩, .flat _ _ flat_Place, tF, tF, tF, tF, tF, tF, tF, tF, tF, tF] ++ [tF, tF, tF, tF, tF, tT, tF, tT, .getA ([.int .i8 0, .int .i8 0, .int .i8 0, .int .i8 0, .int .i8 2, .int .i8 0, .int .i8 2, .int .i8 1, .int .i8 0, .int .i8 0, .int .i8 0, .int .i8 0, .int .i8 0, .int .i8 0, .int .i8 0, .int .i8 0, .int .i8 0, .int .i8 0, .int .i8 0, .int .i8 0, .int .i8 0, .int .i8 0]) 6 2 ([.int .i8 2, .int .i8 1]) ⟨rfl, by first | decide | simp⟩, .inl, tF, tT, tT, tT, tT, tT] ++ [tT, tT, .get ([(xD 26 64 0 0 4 8 0 0)]) 0 ((xD 26 64 0 0 4 8 0 0)) rfl, tT, tT, tT, .flat _ _ flat_X, tT]) (by kernel_rfl)).to (by simp [wk])
end Go.Proofs.YtkpneibifdoecaaGreat
