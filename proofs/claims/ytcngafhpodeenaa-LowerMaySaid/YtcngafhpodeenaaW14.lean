/- Contracts and plain laws that a statement's proof leans on (texts merged: MdKM, KN1, Same, SameB, SameC, SameO, KU2, KU2A, KU3, KU3A, KU4, KM2, KM2A, KM3, KL1, KL1A, KN1A, ZL0A, KL0, KN2, KN2A). -/
import Derived.Test.YtcngafhpodeenaaW04
import Derived.Test.YtcngafhpodeenaaW05
import Derived.Test.YtcngafhpodeenaaW08
import Derived.Test.YtcngafhpodeenaaW10
import Derived.Test.YtcngafhpodeenaaW11
import Derived.Test.YtcngafhpodeenaaW13
set_option linter.unusedVariables false
set_option linter.unusedSimpArgs false
namespace Go.Ev
open Go
theorem mays_app {a b : List IrS} (h : Mays a) (k : Mays b) : Mays (a ++ b) := by
 intro s hs
 rcases List.mem_append.1 hs with q | q
 ·exact h s q
 ·exact k s q
theorem cc_rng {n : Int} (h : ccM n = true) : 0 ≤ n ∧ n ≤ 15 := by
 unfold ccM at h
 rw [decide_eq_true_eq] at h
 omega
theorem mayX_cc {op w dst src base disp imm cc : Int} (h : mayX op w dst src base disp imm cc = true) : 0 ≤ cc ∧ cc ≤ 15 := by
 unfold mayX at h
 simp only [Bool.and_eq_true] at h
 have h := h.2
 unfold mayS at h
 repeat' split at h
 all_goals first
  | cases h
  | (simp only [Bool.and_eq_true, decide_eq_true_eq] at h; first | exact cc_rng h.2 | omega)
theorem ok_of_may {s : IrS} (h : s.may = true) : s.ok := by
 obtain ⟨kind, op, w, dst, src, base, disp, imm, cc, reg, phys, num, to⟩ := s
 unfold IrS.may mayI at h
 unfold IrS.ok
 simp only at h ⊢
 repeat' split at h
 ·simp only [Bool.and_eq_true, decide_eq_true_eq] at h
  have := mayX_cc h.1.1.1
  omega
 ·unfold scrM zeroX at h
  simp only [Bool.and_eq_true, decide_eq_true_eq] at h
  omega
 ·unfold zeroX at h
  simp only [Bool.and_eq_true, decide_eq_true_eq] at h
  omega
 ·have := cc_rng (n := cc) (by simp only [Bool.and_eq_true] at h; exact h.1.1.1)
  unfold zeroX at h
  simp only [Bool.and_eq_true, decide_eq_true_eq] at h
  omega
 ·unfold zeroX at h
  simp only [Bool.and_eq_true, decide_eq_true_eq] at h
  omega
 ·unfold zeroX at h
  simp only [Bool.and_eq_true, decide_eq_true_eq] at h
  omega
 ·cases h
theorem mays_ok {l : List IrS} (h : Mays l) : AllOk l := fun s hs => ok_of_may (h s hs)
theorem may_cmp {op : Int} (ho : op = 7 ∨ op = 8) : mayX op 64 0 1 0 0 0 0 = true := by
 rcases ho with rfl | rfl <;> rfl
theorem may_mem {op size off : Int} {dst src : Int} (hs : size = 1 ∨ size = 2 ∨ size = 4 ∨ size = 8) (o1 : -32768 ≤ off) (o2 : off ≤ 32767) (ho : op = 26 ∨ op = 27) : mayX op (8 * size) 0 0 1 off 0 0 = true := by
 have hi : decide (-2147483648 ≤ off ∧ off ≤ 2147483647) = true := decide_eq_true ⟨by omega, by omega⟩
 unfold mayX
 rw [hi]
 rcases hs with rfl | rfl | rfl | rfl <;> rcases ho with rfl | rfl <;> rfl
theorem tocc_ok {op : Int} (ho : op = 0 ∨ op = 1 ∨ op = 2 ∨ op = 3 ∨ op = 4 ∨ op = 5 ∨ op = 6 ∨ op = 7 ∨ op = 8 ∨ op = 9 ∨ op = 10) : ccM (toccM op).1 = true := by
 rcases ho with rfl | rfl | rfl | rfl | rfl | rfl | rfl | rfl | rfl | rfl | rfl <;> rfl
theorem getD_in {ns : List Int} (hn : ∀ n ∈ ns, 0 ≤ n ∧ n ≤ 64) (i : Nat) : 0 ≤ ns.getD i 0 ∧ ns.getD i 0 ≤ 64 := by
 rw [List.getD_eq_getElem?_getD]
 cases e : ns[i]? with
 | none => simp
 | some v => simpa using hn v (List.mem_of_getElem? e)
theorem mays_goto {n : Int} {t : List IrS} (h : 0 ≤ n ∧ n ≤ 64) (k : Mays t) : Mays (irOf (gotoD n) :: t) := by
 refine mays_cons ?_ k
 show (decide (0 ≤ n ∧ n ≤ 64) && true && true) = true
 rw [decide_eq_true h]; rfl
theorem mays_jcc {cc n : Int} {t : List IrS} (hc : ccM cc = true) (h : 0 ≤ n ∧ n ≤ 64) (k : Mays t) : Mays (irOf (irD 4 29 0 0 0 0 0 0 cc 0 0 0 n) :: t) := by
 refine mays_cons ?_ k
 show (ccM cc && true && decide (0 ≤ n ∧ n ≤ 64) && true) = true
 rw [hc, decide_eq_true h]; rfl
theorem mays_mem {op size off : Int} {t : List IrS} (hs : size = 1 ∨ size = 2 ∨ size = 4 ∨ size = 8) (o1 : -32768 ≤ off) (o2 : off ≤ 32767) (ho : op = 26 ∨ op = 27) (k : Mays t) : Mays (irOf (irD 0 op (8 * size) 0 0 1 off 0 0 0 0 0 0) :: t) := by
 have hm := may_mem (dst := 0) (src := 0) hs o1 o2 ho
 refine mays_cons ?_ k
 show (mayX op (8 * size) 0 0 1 off 0 0 && decide (op < 28) && ownM op (8 * size) 0 0 1 off 0 0 && true) = true
 unfold ownM namesM
 rw [reads_may hm, writes_may hm, hm]
 rcases ho with rfl | rfl <;> rfl
theorem ins_mays {x : InstS} (h : x.may = true) {ns : List Int} (hn : ∀ n ∈ ns, 0 ≤ n ∧ n ≤ 64) : Mays ((insM x ns).map irOf) := by
 obtain ⟨kind, op, width, size, byReg, dst, src, off, imm⟩ := x
 obtain ⟨⟨d0, d1, s0, s1, f0, f1, i1, i2⟩, hf⟩ := may_forms (show mayM kind op width size byReg dst src off imm = true from h)
 have n0 := getD_in hn 0
 have n1 := getD_in hn 1
 have g1 : ∀ {i : Int} {t : List IrS}, (0 ≤ i ∧ i ≤ 10) → Mays t → Mays (giveS i 1 :: t) := fun hi k => mays_give hi.1 hi.2 k
 rcases hf with ⟨rfl, rfl, rfl, _, h8, ho, hw, _, _⟩ | ⟨rfl, rfl, rfl, rfl, rfl, _, hs⟩ | ⟨rfl, rfl, rfl, rfl, rfl, hs⟩ | ⟨rfl, rfl, rfl, ho, _, _⟩ | ⟨rfl, rfl, rfl, rfl, rfl, rfl, rfl, rfl⟩ | ⟨rfl, rfl, rfl, rfl, rfl, rfl, rfl, rfl, m0, m1⟩ | ⟨rfl, rfl, rfl, rfl, rfl, rfl, rfl, rfl, rfl⟩
 ·exact alu_may d0 d1 s0 s1 hw h8 ho i1 i2
 ·exact mays_take s0 s1 (mays_mem hs f0 f1 (.inl rfl) (mays_give d0 d1 mays_nil))
 ·exact mays_take d0 d1 (mays_take s0 s1 (mays_mem hs f0 f1 (.inr rfl) mays_nil))
 ·have e : insM ⟨3, op, 0, 0, byReg, dst, src, off, imm⟩ ns = cmpM op byReg dst src imm ++ [irD 4 29 0 0 0 0 0 0 (toccM op).1 0 0 0 (ns.getD 0 0), gotoD (ns.getD 1 0)] := rfl
  rw [e, List.map_append]
  refine mays_app ?_ (mays_jcc (tocc_ok ho) n0 (mays_goto n1 mays_nil))
  unfold cmpM
  cases byReg
  ·by_cases q : op = 10
   ·simp only [if_neg Bool.false_ne_true, if_pos q]
    exact mays_take d0 d1 (mays_x (may_imm (op := 15) (.inr rfl) (by omega) (.inl rfl) i1 i2) mays_nil)
   ·simp only [if_neg Bool.false_ne_true, if_neg q]
    exact mays_take d0 d1 (mays_x (may_imm (op := 14) (.inr rfl) (by omega) (.inl rfl) i1 i2) mays_nil)
  ·by_cases q : op = 10
   ·simp only [if_true, if_pos q]
    exact mays_take d0 d1 (mays_take s0 s1 (mays_x (may_cmp (op := 8) (.inr rfl)) mays_nil))
   ·simp only [if_true, if_neg q]
    exact mays_take d0 d1 (mays_take s0 s1 (mays_x (may_cmp (op := 7) (.inl rfl)) mays_nil))
 ·exact mays_goto n0 mays_nil
 ·have e : insM ⟨5, 0, 0, 0, false, 0, 0, 0, imm⟩ ns = [irD 3 0 0 0 0 0 0 0 0 0 0 imm 0, giveD 0 0, num 1 32 1 0, giveD 1 1, giveD 2 1, giveD 3 1, giveD 4 1, giveD 5 1] := rfl
  rw [e]
  refine mays_cons ?_ (mays_give (by decide) (by decide) (mays_x (may_imm (op := 1) (.inl rfl) (by omega) (.inr (.inl rfl)) (by decide) (by decide)) (g1 (by decide) (g1 (by decide) (g1 (by decide) (g1 (by decide) (g1 (by decide) mays_nil)))))))
  show (decide (0 ≤ imm ∧ imm ≤ 15) && true && true) = true
  rw [decide_eq_true ⟨m0, m1⟩]; rfl
 ·exact mays_cons rfl mays_nil
def Plain (l : List D) : Prop := ∀ s ∈ l.map irOf, s.kind ≠ 4 ∧ s.kind ≠ 5 ∧ s.kind ≠ 6
theorem plain_nil : Plain [] := fun s h => by simp at h
theorem plain_cons {kind op w dst src base disp imm cc reg phys num to : Int} {l : List D} (h : kind ≠ 4 ∧ kind ≠ 5 ∧ kind ≠ 6) (k : Plain l) : Plain (irD kind op w dst src base disp imm cc reg phys num to :: l) := by
 intro s hs
 rw [List.map_cons] at hs
 rcases List.mem_cons.1 hs with rfl | q
 ·exact h
 ·exact k s q
theorem plain_app {a b : List D} (h : Plain a) (k : Plain b) : Plain (a ++ b) := by
 intro s hs
 rw [List.map_append] at hs
 rcases List.mem_append.1 hs with q | q
 ·exact h s q
 ·exact k s q
theorem steps_plain {kind : Int} (op width size : Int) (byReg : Bool) (dst src off imm : Int) (h6 : ¬ kind = 6) : Plain (stepsM kind op width size byReg dst src off imm) := by
 unfold stepsM
 rw [if_neg h6]
 unfold aluM
 repeat' split
 all_goals (repeat' first | exact plain_nil | apply plain_app | refine plain_cons (by decide) ?_)
theorem cmp_plain (op : Int) (byReg : Bool) (dst src imm : Int) : Plain (cmpM op byReg dst src imm) := by
 unfold cmpM
 repeat' split
 all_goals (repeat' first | exact plain_nil | apply plain_app | refine plain_cons (by decide) ?_)
def midS (ns : List Int) (s : IrS) : Prop := s.kind ≠ 5 ∧ s.kind ≠ 6 ∧ (s.kind = 4 → s.to ∈ ns)
def endS (ns : List Int) (s : IrS) : Prop := (s.kind = 5 ∧ s.to ∈ ns) ∨ s.kind = 6
def RowEnds (ns : List Int) (l : List IrS) : Prop := ∃ body last, l = body ++ [last] ∧ (∀ s ∈ body, midS ns s) ∧ endS ns last
theorem plain_mid {l : List D} (h : Plain l) (ns : List Int) : ∀ s ∈ l.map irOf, midS ns s := fun s hs => ⟨(h s hs).2.1, (h s hs).2.2, fun q => absurd q (h s hs).1⟩
theorem acc_plain {l : List InstS} {f : Nat} {ns : List Int} : ∀ (k : Nat), (∀ j, j < k → stopK (kindAt l (f + j)) = false) → Plain (accM l f ns k)
 | 0, _ => plain_nil
 | k + 1, h => by
  have ih := acc_plain (l := l) (f := f) (ns := ns) k (fun j hj => h j (by omega))
  rw [accM]
  split
  ·rename_i x hx
   have hs := h k (by omega)
   unfold kindAt at hs
   rw [hx] at hs
   unfold stopK at hs
   simp at hs
   refine plain_app ih ?_
   unfold insM
   rw [if_neg (by omega), if_neg (by omega)]
   exact steps_plain _ _ _ _ _ _ _ _ (by omega)
  ·exact ih
theorem acc_mays {l : List InstS} (hp : OkP l) {f : Nat} {ns : List Int} (hn : ∀ n ∈ ns, 0 ≤ n ∧ n ≤ 64) : ∀ (k : Nat), Mays ((accM l f ns k).map irOf)
 | 0 => mays_nil
 | k + 1 => by
  have ih := acc_mays hp (f := f) hn k
  rw [accM]
  split
  ·rename_i x hx
   obtain ⟨hlt, e⟩ := List.getElem?_eq_some_iff.1 hx
   rw [List.map_append]
   exact mays_app ih (ins_mays (by rw [← e]; exact hp.may _ hlt) hn)
  ·exact ih
theorem row_to {l : List InstS} (hp : OkP l) {b : Nat} {r : RowS} (h : RowOk l b r) (hb : b < (blkR l).length) : ∀ n ∈ r.nx, 0 ≤ n ∧ n ≤ 64 := by
 intro n hn
 have h64 := hp.le
 have hbl : (blkR l).length ≤ l.length := by
  show (nextP l (cutP l l.length) (cutP l l.length).length).length ≤ l.length
  rw [nextP_len]
  exact (cutP_len l l.length).1
 rw [h.nx] at hn
 unfold nxR at hn
 have f0 := h.f0
 have ft := h.ft
 have tl := h.tl
 rw [List.getElem?_eq_getElem (show (r.to - 1).toNat < l.length by omega)] at hn
 simp only at hn
 unfold nxK at hn
 rcases List.mem_append.1 hn with q | q
 ·split at q
  ·rename_i ht
   obtain rfl := List.mem_singleton.1 q
   have tg := hp.tgt _ (show (r.to - 1).toNat < l.length by omega) ht
   unfold blkOf
   have c := cutP_len l ((tgt1 (r.to - 1).toNat l[(r.to - 1).toNat].kind l[(r.to - 1).toNat].off).toNat + 1)
   have := c.2 (by omega)
   omega
  ·simp at q
 ·split at q
  ·simp at q
  ·simp at q
   subst q
   omega
theorem row_split {l : List InstS} {b : Nat} {r : RowS} (h : RowOk l b r) : ∃ (m : Nat) (hlt : m < l.length), (m : Int) + 1 = r.to ∧ r.fr ≤ m ∧ accM l r.fr.toNat r.nx (r.to.toNat - r.fr.toNat) = accM l r.fr.toNat r.nx (m - r.fr.toNat) ++ insM l[m] r.nx ∧ Plain (accM l r.fr.toNat r.nx (m - r.fr.toNat)) ∧ kindAt l (r.to.toNat - 1) = l[m].kind := by
 have f0 := h.f0
 have ft := h.ft
 have tl := h.tl
 have hlt : r.to.toNat - 1 < l.length := by omega
 refine ⟨r.to.toNat - 1, hlt, by omega, by omega, ?_, ?_, ?_⟩
 ·have e : r.to.toNat - r.fr.toNat = (r.to.toNat - 1 - r.fr.toNat) + 1 := by omega
  have e2 : r.fr.toNat + (r.to.toNat - 1 - r.fr.toNat) = r.to.toNat - 1 := by omega
  rw [e, accM_succ l r.fr.toNat r.nx _ (by omega)]
  simp only [e2]
 ·exact acc_plain _ fun j hj => h.mid _ (by omega) (by omega)
 ·unfold kindAt
  rw [List.getElem?_eq_getElem hlt]
theorem row_ends {l : List InstS} (hp : OkP l) {b : Nat} {r : RowS} (h : RowOk l b r) : RowEnds r.nx ((rowM l r).map irOf) := by
 obtain ⟨m, hlt, h1, h2, e, hpl, hk⟩ := row_split h
 have hmid := plain_mid hpl r.nx
 unfold rowM tailM
 rw [e, hk]
 by_cases q3 : l[m].kind = 3
 ·have hn := row_jump hp h h2 (by omega) hlt q3
  have ei : insM l[m] r.nx = cmpM l[m].op l[m].byReg l[m].dst l[m].src l[m].imm ++ [irD 4 29 0 0 0 0 0 0 (toccM l[m].op).1 0 0 0 (r.nx.getD 0 0), gotoD (r.nx.getD 1 0)] := by unfold insM jmpM; rw [if_pos q3]
  have g0 : r.nx.getD 0 0 ∈ r.nx := by rw [hn]; simp
  have g1 : r.nx.getD 1 0 ∈ r.nx := by rw [hn]; simp
  rw [if_pos (by rw [q3]; rfl), ei, List.append_nil]
  refine ⟨(accM l r.fr.toNat r.nx (m - r.fr.toNat)).map irOf ++ ((cmpM l[m].op l[m].byReg l[m].dst l[m].src l[m].imm).map irOf ++ [irOf (irD 4 29 0 0 0 0 0 0 (toccM l[m].op).1 0 0 0 (r.nx.getD 0 0))]), irOf (gotoD (r.nx.getD 1 0)), by simp, ?_, .inl ⟨rfl, g1⟩⟩
  intro s hs
  rcases List.mem_append.1 hs with q | q
  ·exact hmid s q
  ·rcases List.mem_append.1 q with q | q
   ·exact plain_mid (cmp_plain _ _ _ _ _) r.nx s q
   ·obtain rfl := List.mem_singleton.1 q
    exact ⟨(by decide : (4 : Int) ≠ 5), (by decide : (4 : Int) ≠ 6), fun _ => g0⟩
 by_cases q4 : l[m].kind = 4
 ·have hn := row_goto hp h h2 (by omega) hlt q4
  have ei : insM l[m] r.nx = [gotoD (r.nx.getD 0 0)] := by unfold insM; rw [if_neg q3, if_pos q4]
  rw [if_pos (by rw [q4]; rfl), ei, List.append_nil]
  exact ⟨_, irOf (gotoD (r.nx.getD 0 0)), by rw [List.map_append]; rfl, hmid, .inl ⟨rfl, by show r.nx.getD 0 0 ∈ r.nx; rw [hn]; simp⟩⟩
 have ei : insM l[m] r.nx = l[m].steps := by unfold insM; rw [if_neg q3, if_neg q4]
 by_cases q6 : l[m].kind = 6
 ·have es : l[m].steps = [irD 6 0 0 0 0 0 0 0 0 0 0 0 0] := by unfold InstS.steps stepsM; simp [q6]
  rw [if_pos (by rw [q6]; rfl), ei, es, List.append_nil]
  exact ⟨_, irOf (irD 6 0 0 0 0 0 0 0 0 0 0 0 0), by rw [List.map_append]; rfl, hmid, .inr rfl⟩
 ·have hn := row_else hp h h1 hlt q3 q4 q6
  have hst : stopK l[m].kind = false := by unfold stopK; simp [q3, q4, q6]
  rw [if_neg (by rw [hst]; simp), ei]
  refine ⟨(accM l r.fr.toNat r.nx (m - r.fr.toNat)).map irOf ++ l[m].steps.map irOf, irOf (gotoD (r.nx.getD 0 0)), by rw [List.map_append, List.map_append]; rfl, ?_, .inl ⟨rfl, by show r.nx.getD 0 0 ∈ r.nx; rw [hn]; simp⟩⟩
  intro s hs
  rcases List.mem_append.1 hs with q | q
  ·exact hmid s q
  ·exact plain_mid (steps_plain _ _ _ _ _ _ _ _ q6) r.nx s q
theorem row_mays {l : List InstS} (hp : OkP l) {b : Nat} {r : RowS} (h : RowOk l b r) (hb : b < (blkR l).length) : Mays ((rowM l r).map irOf) := by
 have hn := row_to hp h hb
 unfold rowM tailM
 rw [List.map_append]
 refine mays_app (acc_mays hp hn _) ?_
 split
 ·exact mays_nil
 ·exact mays_goto (getD_in hn 0) mays_nil
end Go.Ev

namespace Go.Proofs.Ytcngafhpodeenaa
open Go Go.Ev
set_option maxRecDepth 100000
set_option maxHeartbeats 8000000
theorem jj_end (a rs : List D) (i : Nat) (k j : Nat) (kind op w dst src base disp imm cc reg phys num to : Int) (i1 : (i : Int) < (rs.length : Int)) (r1 : (rs.length : Int) ≤ 64) (fr tt : Int) (ns : List D) (hg : rs[(i : Int).toNat]? = some (.agg [.int .i64 fr, .int .i64 tt, .lst .no 1 ns])) (v : Bool) (h : (ns.length : Int) ≤ j)  : RoundRun Try.prog (loopB Try.f8 2) ⟨[3, 5, 7, 10, 11, 13], [4], []⟩ 5 [uu, uu, uu, .lst .no 1 a, uu, .lst .no 3 rs, uu, .int .i64 (↑i : Int), uu, uu, .int .i64 (↑k : Int), D.ptr false 4 0, uu, .bool v, .int .i64 (↑j : Int), uu, uu, uu, uu, uu, uu, uu, uu, uu, uu, uu, uu, uu, uu, uu, uu, uu, uu, uu, uu, uu, uu, uu, uu, uu, uu, uu, uu, uu, uu, uu, uu, uu, uu, uu, uu, uu, uu, uu, uu, uu, uu, uu, uu, uu, uu, uu, uu, uu, uu, uu, uu, uu, uu, uu, uu, uu, uu, uu, uu, uu, uu, uu, uu, uu, uu, uu, uu, uu, uu, uu, uu, uu, uu, uu, uu, uu, uu, uu, uu, uu, uu, uu, uu, uu, uu, uu, uu, uu, uu, uu, uu, uu, uu, uu, uu, uu, uu, uu, uu, uu, uu, uu, uu, uu, uu, uu, uu, uu, uu, uu, uu, uu, uu, uu, uu, uu, uu, uu, uu, uu, uu, uu, uu, uu, uu, uu, uu, uu, uu, uu, uu, uu, uu, uu, uu, uu, uu] [Ob.dead, Ob.dead, Ob.dead, Ob.dead, Ob.box [.int .i8 kind, .int .i8 op, .int .i8 w, .int .i8 dst, .int .i8 src, .int .i8 base, .int .i64 disp, .int .i64 imm, .int .i8 cc, .int .i8 reg, .int .i8 phys, .int .i64 num, .int .i64 to]] (Ex.exit (4 : Nat)) [uu, uu, uu, .lst .no 1 a, uu, .lst .no 3 rs, uu, .int .i64 (↑i : Int), uu, uu, .int .i64 (↑k : Int), D.ptr false 4 0, uu, .bool v, uu, uu, uu, uu, uu, uu, uu, uu, uu, uu, uu, uu, uu, uu, uu, uu, uu, uu, uu, uu, uu, uu, uu, uu, uu, uu, uu, uu, uu, uu, uu, uu, uu, uu, uu, uu, uu, uu, uu, uu, uu, uu, uu, uu, uu, uu, uu, uu, uu, uu, uu, uu, uu, uu, uu, uu, uu, uu, uu, uu, uu, uu, uu, uu, uu, uu, uu, uu, uu, uu, uu, uu, uu, uu, uu, uu, uu, uu, uu, uu, uu, uu, uu, uu, uu, uu, uu, uu, uu, uu, uu, uu, uu, uu, uu, uu, uu, uu, uu, uu, uu, uu, uu, uu, uu, uu, uu, uu, uu, uu, uu, uu, uu, uu, uu, uu, uu, uu, uu, uu, uu, uu, uu, uu, uu, uu, uu, uu, uu, uu, uu, uu, uu, uu, uu, uu, uu, uu, uu] ([Ob.dead, Ob.dead, Ob.dead, Ob.dead, Ob.box [.int .i8 kind, .int .i8 op, .int .i8 w, .int .i8 dst, .int .i8 src, .int .i8 base, .int .i64 disp, .int .i64 imm, .int .i8 cc, .int .i8 reg, .int .i8 phys, .int .i64 num, .int .i64 to]]) := by
 exact (RoundRun.of_eval (sp := ⟨[3, 5, 7, 10, 11, 13], [4], []⟩) (n0 := 5) (ex := Ex.exit (4 : Nat)) (t' := [uu, uu, uu, .lst .no 1 a, uu, .lst .no 3 rs, uu, .int .i64 (↑i : Int), uu, uu, .int .i64 (↑k : Int), D.ptr false 4 0, uu, .bool v, uu, uu, uu, uu, uu, uu, uu, uu, uu, uu, uu, uu, uu, uu, uu, uu, uu, uu, uu, uu, uu, uu, uu, uu, uu, uu, uu, uu, uu, uu, uu, uu, uu, uu, uu, uu, uu, uu, uu, uu, uu, uu, uu, uu, uu, uu, uu, uu, uu, uu, uu, uu, uu, uu, uu, uu, uu, uu, uu, uu, uu, uu, uu, uu, uu, uu, uu, uu, uu, uu, uu, uu, uu, uu, uu, uu, uu, uu, uu, uu, uu, uu, uu, uu, uu, uu, uu, uu, uu, uu, uu, uu, uu, uu, uu, uu, uu, uu, uu, uu, uu, uu, uu, uu, uu, uu, uu, uu, uu, uu, uu, uu, uu, uu, uu, uu, uu, uu, uu, uu, uu, uu, uu, uu, uu, uu, uu, uu, uu, uu, uu, uu, uu, uu, uu, uu, uu, uu, uu]) (s' := [Ob.dead, Ob.dead, Ob.dead, Ob.dead, Ob.box [.int .i8 kind, .int .i8 op, .int .i8 w, .int .i8 dst, .int .i8 src, .int .i8 base, .int .i64 disp, .int .i64 imm, .int .i8 cc, .int .i8 reg, .int .i8 phys, .int .i64 num, .int .i64 to]]) mixed [tT, .get _ _ _ hg, tC (by ((try simp only [List.length_append, List.length_cons, List.length_nil, List.length_set, List.length_replicate, List.length_take, List.length_drop, sl2] at *); (try unfold big at *); omega) : (decide ((↑j : Int) < (↑(List.length ns) : Int))) = false)] (by kernel_rfl)).cast (by rfl) (by rfl)
theorem jj_in (a rs : List D) (i : Nat) (k j : Nat) (kind op w dst src base disp imm cc reg phys num to : Int) (i1 : (i : Int) < (rs.length : Int)) (r1 : (rs.length : Int) ≤ 64) (fr tt : Int) (ns : List D) (hg : rs[(i : Int).toNat]? = some (.agg [.int .i64 fr, .int .i64 tt, .lst .no 1 ns])) (j1 : (j : Int) < (ns.length : Int)) (n1 : (ns.length : Int) ≤ 64)  : RoundRun Try.prog (loopB Try.f8 2) ⟨[3, 5, 7, 10, 11, 13, 14], [4], []⟩ 5 [uu, uu, uu, .lst .no 1 a, uu, .lst .no 3 rs, uu, .int .i64 (↑i : Int), uu, uu, .int .i64 (↑k : Int), D.ptr false 4 0, uu, .bool true, .int .i64 (↑j : Int), uu, uu, uu, uu, uu, uu, uu, uu, uu, uu, uu, uu, uu, uu, uu, uu, uu, uu, uu, uu, uu, uu, uu, uu, uu, uu, uu, uu, uu, uu, uu, uu, uu, uu, uu, uu, uu, uu, uu, uu, uu, uu, uu, uu, uu, uu, uu, uu, uu, uu, uu, uu, uu, uu, uu, uu, uu, uu, uu, uu, uu, uu, uu, uu, uu, uu, uu, uu, uu, uu, uu, uu, uu, uu, uu, uu, uu, uu, uu, uu, uu, uu, uu, uu, uu, uu, uu, uu, uu, uu, uu, uu, uu, uu, uu, uu, uu, uu, uu, uu, uu, uu, uu, uu, uu, uu, uu, uu, uu, uu, uu, uu, uu, uu, uu, uu, uu, uu, uu, uu, uu, uu, uu, uu, uu, uu, uu, uu, uu, uu, uu, uu, uu, uu, uu, uu, uu, uu] [Ob.dead, Ob.dead, Ob.dead, Ob.dead, Ob.box [.int .i8 kind, .int .i8 op, .int .i8 w, .int .i8 dst, .int .i8 src, .int .i8 base, .int .i64 disp, .int .i64 imm, .int .i8 cc, .int .i8 reg, .int .i8 phys, .int .i64 num, .int .i64 to]] (Ex.norm) [uu, uu, uu, .lst .no 1 a, uu, .lst .no 3 rs, uu, .int .i64 (↑i : Int), uu, uu, .int .i64 (↑k : Int), D.ptr false 4 0, uu, .bool true, .int .i64 (IntKind.wrap IntKind.i64 ((↑j : Int) + 1)), uu, uu, uu, uu, uu, uu, uu, uu, uu, uu, uu, uu, uu, uu, uu, uu, uu, uu, uu, uu, uu, uu, uu, uu, uu, uu, uu, uu, uu, uu, uu, uu, uu, uu, uu, uu, uu, uu, uu, uu, uu, uu, uu, uu, uu, uu, uu, uu, uu, uu, uu, uu, uu, uu, uu, uu, uu, uu, uu, uu, uu, uu, uu, uu, uu, uu, uu, uu, uu, uu, uu, uu, uu, uu, uu, uu, uu, uu, uu, uu, uu, uu, uu, uu, uu, uu, uu, uu, uu, uu, uu, uu, uu, uu, uu, uu, uu, uu, uu, uu, uu, uu, uu, uu, uu, uu, uu, uu, uu, uu, uu, uu, uu, uu, uu, uu, uu, uu, uu, uu, uu, uu, uu, uu, uu, uu, uu, uu, uu, uu, uu, uu, uu, uu, uu, uu, uu, uu] ([Ob.dead, Ob.dead, Ob.dead, Ob.dead, Ob.box [.int .i8 kind, .int .i8 op, .int .i8 w, .int .i8 dst, .int .i8 src, .int .i8 base, .int .i64 disp, .int .i64 imm, .int .i8 cc, .int .i8 reg, .int .i8 phys, .int .i64 num, .int .i64 to]]) := by
 exact (RoundRun.of_eval (sp := ⟨[3, 5, 7, 10, 11, 13, 14], [4], []⟩) (n0 := 5) (ex := Ex.norm) (t' := [uu, uu, uu, .lst .no 1 a, uu, .lst .no 3 rs, uu, .int .i64 (↑i : Int), uu, uu, .int .i64 (↑k : Int), D.ptr false 4 0, uu, .bool true, .int .i64 (IntKind.wrap IntKind.i64 ((↑j : Int) + 1)), uu, uu, uu, uu, uu, uu, uu, uu, uu, uu, uu, uu, uu, uu, uu, uu, uu, uu, uu, uu, uu, uu, uu, uu, uu, uu, uu, uu, uu, uu, uu, uu, uu, uu, uu, uu, uu, uu, uu, uu, uu, uu, uu, uu, uu, uu, uu, uu, uu, uu, uu, uu, uu, uu, uu, uu, uu, uu, uu, uu, uu, uu, uu, uu, uu, uu, uu, uu, uu, uu, uu, uu, uu, uu, uu, uu, uu, uu, uu, uu, uu, uu, uu, uu, uu, uu, uu, uu, uu, uu, uu, uu, uu, uu, uu, uu, uu, uu, uu, uu, uu, uu, uu, uu, uu, uu, uu, uu, uu, uu, uu, uu, uu, uu, uu, uu, uu, uu, uu, uu, uu, uu, uu, uu, uu, uu, uu, uu, uu, uu, uu, uu, uu, uu, uu, uu, uu, uu]) (s' := [Ob.dead, Ob.dead, Ob.dead, Ob.dead, Ob.box [.int .i8 kind, .int .i8 op, .int .i8 w, .int .i8 dst, .int .i8 src, .int .i8 base, .int .i64 disp, .int .i64 imm, .int .i8 cc, .int .i8 reg, .int .i8 phys, .int .i64 num, .int .i64 to]]) mixed ([tT, .get _ _ _ hg, tC (by ((try simp only [List.length_append, List.length_cons, List.length_nil, List.length_set, List.length_replicate, List.length_take, List.length_drop, sl2] at *); (try unfold big at *); omega) : (decide ((↑j : Int) < (↑(List.length ns) : Int))) = true)] ++ List.replicate 11 tF ++ [tT]) (by kernel_rfl)).cast (by rfl) (by rfl)
theorem jj_out (a rs : List D) (i : Nat) (k j : Nat) (kind op w dst src base disp imm cc reg phys num to : Int) (i1 : (i : Int) < (rs.length : Int)) (r1 : (rs.length : Int) ≤ 64) (fr tt : Int) (ns : List D) (hg : rs[(i : Int).toNat]? = some (.agg [.int .i64 fr, .int .i64 tt, .lst .no 1 ns])) (j1 : (j : Int) < (ns.length : Int)) (n1 : (ns.length : Int) ≤ 64) (v : Int) (hv : ns[(j : Int).toNat]? = some (.int .i64 v))  : RoundRun Try.prog (loopB Try.f8 2) ⟨[3, 5, 7, 10, 11, 13, 14], [4], []⟩ 5 [uu, uu, uu, .lst .no 1 a, uu, .lst .no 3 rs, uu, .int .i64 (↑i : Int), uu, uu, .int .i64 (↑k : Int), D.ptr false 4 0, uu, .bool false, .int .i64 (↑j : Int), uu, uu, uu, uu, uu, uu, uu, uu, uu, uu, uu, uu, uu, uu, uu, uu, uu, uu, uu, uu, uu, uu, uu, uu, uu, uu, uu, uu, uu, uu, uu, uu, uu, uu, uu, uu, uu, uu, uu, uu, uu, uu, uu, uu, uu, uu, uu, uu, uu, uu, uu, uu, uu, uu, uu, uu, uu, uu, uu, uu, uu, uu, uu, uu, uu, uu, uu, uu, uu, uu, uu, uu, uu, uu, uu, uu, uu, uu, uu, uu, uu, uu, uu, uu, uu, uu, uu, uu, uu, uu, uu, uu, uu, uu, uu, uu, uu, uu, uu, uu, uu, uu, uu, uu, uu, uu, uu, uu, uu, uu, uu, uu, uu, uu, uu, uu, uu, uu, uu, uu, uu, uu, uu, uu, uu, uu, uu, uu, uu, uu, uu, uu, uu, uu, uu, uu, uu, uu] [Ob.dead, Ob.dead, Ob.dead, Ob.dead, Ob.box [.int .i8 kind, .int .i8 op, .int .i8 w, .int .i8 dst, .int .i8 src, .int .i8 base, .int .i64 disp, .int .i64 imm, .int .i8 cc, .int .i8 reg, .int .i8 phys, .int .i64 num, .int .i64 to]] (Ex.norm) [uu, uu, uu, .lst .no 1 a, uu, .lst .no 3 rs, uu, .int .i64 (↑i : Int), uu, uu, .int .i64 (↑k : Int), D.ptr false 4 0, uu, .bool (v == to), .int .i64 (IntKind.wrap IntKind.i64 ((↑j : Int) + 1)), uu, uu, uu, uu, uu, uu, uu, uu, uu, uu, uu, uu, uu, uu, uu, uu, uu, uu, uu, uu, uu, uu, uu, uu, uu, uu, uu, uu, uu, uu, uu, uu, uu, uu, uu, uu, uu, uu, uu, uu, uu, uu, uu, uu, uu, uu, uu, uu, uu, uu, uu, uu, uu, uu, uu, uu, uu, uu, uu, uu, uu, uu, uu, uu, uu, uu, uu, uu, uu, uu, uu, uu, uu, uu, uu, uu, uu, uu, uu, uu, uu, uu, uu, uu, uu, uu, uu, uu, uu, uu, uu, uu, uu, uu, uu, uu, uu, uu, uu, uu, uu, uu, uu, uu, uu, uu, uu, uu, uu, uu, uu, uu, uu, uu, uu, uu, uu, uu, uu, uu, uu, uu, uu, uu, uu, uu, uu, uu, uu, uu, uu, uu, uu, uu, uu, uu, uu, uu] ([Ob.dead, Ob.dead, Ob.dead, Ob.dead, Ob.box [.int .i8 kind, .int .i8 op, .int .i8 w, .int .i8 dst, .int .i8 src, .int .i8 base, .int .i64 disp, .int .i64 imm, .int .i8 cc, .int .i8 reg, .int .i8 phys, .int .i64 num, .int .i64 to]]) := by
 exact (RoundRun.of_eval (sp := ⟨[3, 5, 7, 10, 11, 13, 14], [4], []⟩) (n0 := 5) (ex := Ex.norm) (t' := [uu, uu, uu, .lst .no 1 a, uu, .lst .no 3 rs, uu, .int .i64 (↑i : Int), uu, uu, .int .i64 (↑k : Int), D.ptr false 4 0, uu, .bool (v == to), .int .i64 (IntKind.wrap IntKind.i64 ((↑j : Int) + 1)), uu, uu, uu, uu, uu, uu, uu, uu, uu, uu, uu, uu, uu, uu, uu, uu, uu, uu, uu, uu, uu, uu, uu, uu, uu, uu, uu, uu, uu, uu, uu, uu, uu, uu, uu, uu, uu, uu, uu, uu, uu, uu, uu, uu, uu, uu, uu, uu, uu, uu, uu, uu, uu, uu, uu, uu, uu, uu, uu, uu, uu, uu, uu, uu, uu, uu, uu, uu, uu, uu, uu, uu, uu, uu, uu, uu, uu, uu, uu, uu, uu, uu, uu, uu, uu, uu, uu, uu, uu, uu, uu, uu, uu, uu, uu, uu, uu, uu, uu, uu, uu, uu, uu, uu, uu, uu, uu, uu, uu, uu, uu, uu, uu, uu, uu, uu, uu, uu, uu, uu, uu, uu, uu, uu, uu, uu, uu, uu, uu, uu, uu, uu, uu, uu, uu, uu, uu, uu]) (s' := [Ob.dead, Ob.dead, Ob.dead, Ob.dead, Ob.box [.int .i8 kind, .int .i8 op, .int .i8 w, .int .i8 dst, .int .i8 src, .int .i8 base, .int .i64 disp, .int .i64 imm, .int .i8 cc, .int .i8 reg, .int .i8 phys, .int .i64 num, .int .i64 to]]) mixed [tT, .get _ _ _ hg, tC (by ((try simp only [List.length_append, List.length_cons, List.length_nil, List.length_set, List.length_replicate, List.length_take, List.length_drop, sl2] at *); (try unfold big at *); omega) : (decide ((↑j : Int) < (↑(List.length ns) : Int))) = true), tT, tT, tT, tT, .get _ _ _ hg, tT, tT, tT, tT, tT, .get _ _ _ hv, tT, tT, tT, tT, tF] (by kernel_rfl)).cast (by rfl) (by rfl)
theorem jk_end (a rs : List D) (i : Nat) (k : Nat) (xs : List D) (a1 : (i : Int) < (a.length : Int)) (a64 : (a.length : Int) ≤ 64) (hx : a[(i : Int).toNat]? = some (.lst .no 13 xs)) (h : (xs.length : Int) ≤ k)  : RoundRun Try.prog (loopB Try.f8 1) ⟨[3, 5, 7], [], []⟩ 4 [uu, uu, uu, .lst .no 1 a, uu, .lst .no 3 rs, uu, .int .i64 (↑i : Int), uu, uu, .int .i64 (↑k : Int), uu, uu, uu, uu, uu, uu, uu, uu, uu, uu, uu, uu, uu, uu, uu, uu, uu, uu, uu, uu, uu, uu, uu, uu, uu, uu, uu, uu, uu, uu, uu, uu, uu, uu, uu, uu, uu, uu, uu, uu, uu, uu, uu, uu, uu, uu, uu, uu, uu, uu, uu, uu, uu, uu, uu, uu, uu, uu, uu, uu, uu, uu, uu, uu, uu, uu, uu, uu, uu, uu, uu, uu, uu, uu, uu, uu, uu, uu, uu, uu, uu, uu, uu, uu, uu, uu, uu, uu, uu, uu, uu, uu, uu, uu, uu, uu, uu, uu, uu, uu, uu, uu, uu, uu, uu, uu, uu, uu, uu, uu, uu, uu, uu, uu, uu, uu, uu, uu, uu, uu, uu, uu, uu, uu, uu, uu, uu, uu, uu, uu, uu, uu, uu, uu, uu, uu, uu, uu, uu, uu, uu, uu] [Ob.dead, Ob.dead, Ob.dead, Ob.dead] (Ex.exit (2 : Nat)) [uu, uu, uu, .lst .no 1 a, uu, .lst .no 3 rs, uu, .int .i64 (↑i : Int), uu, uu, uu, uu, uu, uu, uu, uu, uu, uu, uu, uu, uu, uu, uu, uu, uu, uu, uu, uu, uu, uu, uu, uu, uu, uu, uu, uu, uu, uu, uu, uu, uu, uu, uu, uu, uu, uu, uu, uu, uu, uu, uu, uu, uu, uu, uu, uu, uu, uu, uu, uu, uu, uu, uu, uu, uu, uu, uu, uu, uu, uu, uu, uu, uu, uu, uu, uu, uu, uu, uu, uu, uu, uu, uu, uu, uu, uu, uu, uu, uu, uu, uu, uu, uu, uu, uu, uu, uu, uu, uu, uu, uu, uu, uu, uu, uu, uu, uu, uu, uu, uu, uu, uu, uu, uu, uu, uu, uu, uu, uu, uu, uu, uu, uu, uu, uu, uu, uu, uu, uu, uu, uu, uu, uu, uu, uu, uu, uu, uu, uu, uu, uu, uu, uu, uu, uu, uu, uu, uu, uu, uu, uu, uu, uu] ([Ob.dead, Ob.dead, Ob.dead, Ob.dead]) := by
 exact (RoundRun.of_eval (sp := ⟨[3, 5, 7], [], []⟩) (n0 := 4) (ex := Ex.exit (2 : Nat)) (t' := [uu, uu, uu, .lst .no 1 a, uu, .lst .no 3 rs, uu, .int .i64 (↑i : Int), uu, uu, uu, uu, uu, uu, uu, uu, uu, uu, uu, uu, uu, uu, uu, uu, uu, uu, uu, uu, uu, uu, uu, uu, uu, uu, uu, uu, uu, uu, uu, uu, uu, uu, uu, uu, uu, uu, uu, uu, uu, uu, uu, uu, uu, uu, uu, uu, uu, uu, uu, uu, uu, uu, uu, uu, uu, uu, uu, uu, uu, uu, uu, uu, uu, uu, uu, uu, uu, uu, uu, uu, uu, uu, uu, uu, uu, uu, uu, uu, uu, uu, uu, uu, uu, uu, uu, uu, uu, uu, uu, uu, uu, uu, uu, uu, uu, uu, uu, uu, uu, uu, uu, uu, uu, uu, uu, uu, uu, uu, uu, uu, uu, uu, uu, uu, uu, uu, uu, uu, uu, uu, uu, uu, uu, uu, uu, uu, uu, uu, uu, uu, uu, uu, uu, uu, uu, uu, uu, uu, uu, uu, uu, uu, uu]) (s' := [Ob.dead, Ob.dead, Ob.dead, Ob.dead]) mixed [tT, .get _ _ _ hx, tC (by ((try simp only [List.length_append, List.length_cons, List.length_nil, List.length_set, List.length_replicate, List.length_take, List.length_drop, sl2] at *); (try unfold big at *); omega) : (decide ((↑k : Int) < (↑(List.length xs) : Int))) = false)] (by kernel_rfl)).cast (by rfl) (by rfl)
theorem jk_goto (a rs : List D) (i : Nat) (k : Nat) (xs : List D) (a1 : (i : Int) < (a.length : Int)) (a64 : (a.length : Int) ≤ 64) (hx : a[(i : Int).toNat]? = some (.lst .no 13 xs)) (k1 : (k : Int) < (xs.length : Int)) (x1 : (xs.length : Int) ≤ 1000) (kind op w dst src base disp imm cc reg phys num to : Int) (hs : xs[(k : Int).toNat]? = some (irD kind op w dst src base disp imm cc reg phys num to)) (hI : LoopRun Try.prog 5 (.loop (loopB Try.f8 2)) [uu, uu, uu, .lst .no 1 a, uu, .lst .no 3 rs, uu, .int .i64 (i : Int), uu, uu, .int .i64 (k : Int), .ptr false 4 0, uu, .bool false, .int .i64 0, uu, uu, uu, uu, uu, uu, uu, uu, uu, uu, uu, uu, uu, uu, uu, uu, uu, uu, uu, uu, uu, uu, uu, uu, uu, uu, uu, uu, uu, uu, uu, uu, uu, uu, uu, uu, uu, uu, uu, uu, uu, uu, uu, uu, uu, uu, uu, uu, uu, uu, uu, uu, uu, uu, uu, uu, uu, uu, uu, uu, uu, uu, uu, uu, uu, uu, uu, uu, uu, uu, uu, uu, uu, uu, uu, uu, uu, uu, uu, uu, uu, uu, uu, uu, uu, uu, uu, uu, uu, uu, uu, uu, uu, uu, uu, uu, uu, uu, uu, uu, uu, uu, uu, uu, uu, uu, uu, uu, uu, uu, uu, uu, uu, uu, uu, uu, uu, uu, uu, uu, uu, uu, uu, uu, uu, uu, uu, uu, uu, uu, uu, uu, uu, uu, uu, uu, uu, uu] [.dead, .dead, .dead, .dead, .box [.int .i8 kind, .int .i8 op, .int .i8 w, .int .i8 dst, .int .i8 src, .int .i8 base, .int .i64 disp, .int .i64 imm, .int .i8 cc, .int .i8 reg, .int .i8 phys, .int .i64 num, .int .i64 to]] (.exit 4) [uu, uu, uu, .lst .no 1 a, uu, .lst .no 3 rs, uu, .int .i64 (i : Int), uu, uu, .int .i64 (k : Int), .ptr false 4 0, uu, .bool true, uu, uu, uu, uu, uu, uu, uu, uu, uu, uu, uu, uu, uu, uu, uu, uu, uu, uu, uu, uu, uu, uu, uu, uu, uu, uu, uu, uu, uu, uu, uu, uu, uu, uu, uu, uu, uu, uu, uu, uu, uu, uu, uu, uu, uu, uu, uu, uu, uu, uu, uu, uu, uu, uu, uu, uu, uu, uu, uu, uu, uu, uu, uu, uu, uu, uu, uu, uu, uu, uu, uu, uu, uu, uu, uu, uu, uu, uu, uu, uu, uu, uu, uu, uu, uu, uu, uu, uu, uu, uu, uu, uu, uu, uu, uu, uu, uu, uu, uu, uu, uu, uu, uu, uu, uu, uu, uu, uu, uu, uu, uu, uu, uu, uu, uu, uu, uu, uu, uu, uu, uu, uu, uu, uu, uu, uu, uu, uu, uu, uu, uu, uu, uu, uu, uu, uu, uu, uu, uu] [.dead, .dead, .dead, .dead, .box [.int .i8 kind, .int .i8 op, .int .i8 w, .int .i8 dst, .int .i8 src, .int .i8 base, .int .i64 disp, .int .i64 imm, .int .i8 cc, .int .i8 reg, .int .i8 phys, .int .i64 num, .int .i64 to]]) (kk : kind = 5) (h : (k : Int) + 1 = (xs.length : Int))  : RoundRun Try.prog (loopB Try.f8 1) ⟨[3, 5, 7, 10], [], []⟩ 4 [uu, uu, uu, .lst .no 1 a, uu, .lst .no 3 rs, uu, .int .i64 (↑i : Int), uu, uu, .int .i64 (↑k : Int), uu, uu, uu, uu, uu, uu, uu, uu, uu, uu, uu, uu, uu, uu, uu, uu, uu, uu, uu, uu, uu, uu, uu, uu, uu, uu, uu, uu, uu, uu, uu, uu, uu, uu, uu, uu, uu, uu, uu, uu, uu, uu, uu, uu, uu, uu, uu, uu, uu, uu, uu, uu, uu, uu, uu, uu, uu, uu, uu, uu, uu, uu, uu, uu, uu, uu, uu, uu, uu, uu, uu, uu, uu, uu, uu, uu, uu, uu, uu, uu, uu, uu, uu, uu, uu, uu, uu, uu, uu, uu, uu, uu, uu, uu, uu, uu, uu, uu, uu, uu, uu, uu, uu, uu, uu, uu, uu, uu, uu, uu, uu, uu, uu, uu, uu, uu, uu, uu, uu, uu, uu, uu, uu, uu, uu, uu, uu, uu, uu, uu, uu, uu, uu, uu, uu, uu, uu, uu, uu, uu, uu, uu] [Ob.dead, Ob.dead, Ob.dead, Ob.dead] (Ex.norm) [uu, uu, uu, .lst .no 1 a, uu, .lst .no 3 rs, uu, .int .i64 (↑i : Int), uu, uu, .int .i64 (IntKind.wrap IntKind.i64 ((↑k : Int) + 1)), uu, uu, uu, uu, uu, uu, uu, uu, uu, uu, uu, uu, uu, uu, uu, uu, uu, uu, uu, uu, uu, uu, uu, uu, uu, uu, uu, uu, uu, uu, uu, uu, uu, uu, uu, uu, uu, uu, uu, uu, uu, uu, uu, uu, uu, uu, uu, uu, uu, uu, uu, uu, uu, uu, uu, uu, uu, uu, uu, uu, uu, uu, uu, uu, uu, uu, uu, uu, uu, uu, uu, uu, uu, uu, uu, uu, uu, uu, uu, uu, uu, uu, uu, uu, uu, uu, uu, uu, uu, uu, uu, uu, uu, uu, uu, uu, uu, uu, uu, uu, uu, uu, uu, uu, uu, uu, uu, uu, uu, uu, uu, uu, uu, uu, uu, uu, uu, uu, uu, uu, uu, uu, uu, uu, uu, uu, uu, uu, uu, uu, uu, uu, uu, uu, uu, uu, uu, uu, uu, uu, uu, uu] ([Ob.dead, Ob.dead, Ob.dead, Ob.dead]) := by
 have c0 := @of_id (nat_lit 5) _ ([uu, uu, uu, .lst .no 1 a, uu, .lst .no 3 rs, uu, .int .i64 (↑i : Int), uu, uu, .int .i64 (↑k : Int), D.ptr false 4 0, uu, .bool false, .int .i64 0, uu, uu, uu, uu, uu, uu, uu, uu, uu, uu, uu, uu, uu, uu, uu, uu, uu, uu, uu, uu, uu, uu, uu, uu, uu, uu, uu, uu, uu, uu, uu, uu, uu, uu, uu, uu, uu, uu, uu, uu, uu, uu, uu, uu, uu, uu, uu, uu, uu, uu, uu, uu, uu, uu, uu, uu, uu, uu, uu, uu, uu, uu, uu, uu, uu, uu, uu, uu, uu, uu, uu, uu, uu, uu, uu, uu, uu, uu, uu, uu, uu, uu, uu, uu, uu, uu, uu, uu, uu, uu, uu, uu, uu, uu, uu, uu, uu, uu, uu, uu, uu, uu, uu, uu, uu, uu, uu, uu, uu, uu, uu, uu, uu, uu, uu, uu, uu, uu, uu, uu, uu, uu, uu, uu, uu, uu, uu, uu, uu, uu, uu, uu, uu, uu, uu, uu, uu, uu]) ([Ob.dead, Ob.dead, Ob.dead, Ob.dead, Ob.box [.int .i8 kind, .int .i8 op, .int .i8 w, .int .i8 dst, .int .i8 src, .int .i8 base, .int .i64 disp, .int .i64 imm, .int .i8 cc, .int .i8 reg, .int .i8 phys, .int .i64 num, .int .i64 to]]) _ _ _ hI
 exact (RoundRun.of_eval (sp := ⟨[3, 5, 7, 10], [], []⟩) (n0 := 4) (ex := Ex.norm) (t' := [uu, uu, uu, .lst .no 1 a, uu, .lst .no 3 rs, uu, .int .i64 (↑i : Int), uu, uu, .int .i64 (IntKind.wrap IntKind.i64 ((↑k : Int) + 1)), uu, uu, uu, uu, uu, uu, uu, uu, uu, uu, uu, uu, uu, uu, uu, uu, uu, uu, uu, uu, uu, uu, uu, uu, uu, uu, uu, uu, uu, uu, uu, uu, uu, uu, uu, uu, uu, uu, uu, uu, uu, uu, uu, uu, uu, uu, uu, uu, uu, uu, uu, uu, uu, uu, uu, uu, uu, uu, uu, uu, uu, uu, uu, uu, uu, uu, uu, uu, uu, uu, uu, uu, uu, uu, uu, uu, uu, uu, uu, uu, uu, uu, uu, uu, uu, uu, uu, uu, uu, uu, uu, uu, uu, uu, uu, uu, uu, uu, uu, uu, uu, uu, uu, uu, uu, uu, uu, uu, uu, uu, uu, uu, uu, uu, uu, uu, uu, uu, uu, uu, uu, uu, uu, uu, uu, uu, uu, uu, uu, uu, uu, uu, uu, uu, uu, uu, uu, uu, uu, uu, uu, uu]) (s' := [Ob.dead, Ob.dead, Ob.dead, Ob.dead]) mixed ([tT, .get _ _ _ hx, tC (by ((try simp only [List.length_append, List.length_cons, List.length_nil, List.length_set, List.length_replicate, List.length_take, List.length_drop, sl2] at *); (try unfold big at *); omega) : (decide ((↑k : Int) < (↑(List.length xs) : Int))) = true), tT, .get _ _ _ hx, tT, .get _ _ _ hs] ++ List.replicate 3 (tC (eF (eqI 5 true (by ((try simp only [List.length_append, List.length_cons, List.length_nil, List.length_set, List.length_replicate, List.length_take, List.length_drop, sl2] at *); (try unfold big at *); omega) : kind = 5)))) ++ [tC (eqI 5 true (by ((try simp only [List.length_append, List.length_cons, List.length_nil, List.length_set, List.length_replicate, List.length_take, List.length_drop, sl2] at *); (try unfold big at *); omega) : kind = 5)), tT, .get _ _ _ hx, tC (nt (eTl (by ((try simp only [List.length_append, List.length_cons, List.length_nil, List.length_set, List.length_replicate, List.length_take, List.length_drop, sl2] at *); (try unfold big at *); omega) : ((↑k : Int) == IntKind.wrap IntKind.i64 ((↑(List.length xs) : Int) - 1)) = true)))] ++ List.replicate 3 (tC (eT (nt (eqI 5 true (by ((try simp only [List.length_append, List.length_cons, List.length_nil, List.length_set, List.length_replicate, List.length_take, List.length_drop, sl2] at *); (try unfold big at *); omega) : kind = 5))))) ++ [tC (nt (eqI 5 true (by ((try simp only [List.length_append, List.length_cons, List.length_nil, List.length_set, List.length_replicate, List.length_take, List.length_drop, sl2] at *); (try unfold big at *); omega) : kind = 5))), tF, .head ⟨[3, 5, 7, 10, 11, 13, 14], [4], []⟩ _ _ _ _ _ _ _ c0, tF]) (by kernel_rfl)).cast (by rfl) (by rfl)
theorem jk_exit (a rs : List D) (i : Nat) (k : Nat) (xs : List D) (a1 : (i : Int) < (a.length : Int)) (a64 : (a.length : Int) ≤ 64) (hx : a[(i : Int).toNat]? = some (.lst .no 13 xs)) (k1 : (k : Int) < (xs.length : Int)) (x1 : (xs.length : Int) ≤ 1000) (kind op w dst src base disp imm cc reg phys num to : Int) (hs : xs[(k : Int).toNat]? = some (irD kind op w dst src base disp imm cc reg phys num to)) (kk : kind = 6) (h : (k : Int) + 1 = (xs.length : Int)) (he : ((kind == 6) == ((k : Int) == IntKind.i64.wrap ((xs.length : Int) - 1))) = true)  : RoundRun Try.prog (loopB Try.f8 1) ⟨[3, 5, 7, 10], [], []⟩ 4 [uu, uu, uu, .lst .no 1 a, uu, .lst .no 3 rs, uu, .int .i64 (↑i : Int), uu, uu, .int .i64 (↑k : Int), uu, uu, uu, uu, uu, uu, uu, uu, uu, uu, uu, uu, uu, uu, uu, uu, uu, uu, uu, uu, uu, uu, uu, uu, uu, uu, uu, uu, uu, uu, uu, uu, uu, uu, uu, uu, uu, uu, uu, uu, uu, uu, uu, uu, uu, uu, uu, uu, uu, uu, uu, uu, uu, uu, uu, uu, uu, uu, uu, uu, uu, uu, uu, uu, uu, uu, uu, uu, uu, uu, uu, uu, uu, uu, uu, uu, uu, uu, uu, uu, uu, uu, uu, uu, uu, uu, uu, uu, uu, uu, uu, uu, uu, uu, uu, uu, uu, uu, uu, uu, uu, uu, uu, uu, uu, uu, uu, uu, uu, uu, uu, uu, uu, uu, uu, uu, uu, uu, uu, uu, uu, uu, uu, uu, uu, uu, uu, uu, uu, uu, uu, uu, uu, uu, uu, uu, uu, uu, uu, uu, uu, uu] [Ob.dead, Ob.dead, Ob.dead, Ob.dead] (Ex.norm) [uu, uu, uu, .lst .no 1 a, uu, .lst .no 3 rs, uu, .int .i64 (↑i : Int), uu, uu, .int .i64 (IntKind.wrap IntKind.i64 ((↑k : Int) + 1)), uu, uu, uu, uu, uu, uu, uu, uu, uu, uu, uu, uu, uu, uu, uu, uu, uu, uu, uu, uu, uu, uu, uu, uu, uu, uu, uu, uu, uu, uu, uu, uu, uu, uu, uu, uu, uu, uu, uu, uu, uu, uu, uu, uu, uu, uu, uu, uu, uu, uu, uu, uu, uu, uu, uu, uu, uu, uu, uu, uu, uu, uu, uu, uu, uu, uu, uu, uu, uu, uu, uu, uu, uu, uu, uu, uu, uu, uu, uu, uu, uu, uu, uu, uu, uu, uu, uu, uu, uu, uu, uu, uu, uu, uu, uu, uu, uu, uu, uu, uu, uu, uu, uu, uu, uu, uu, uu, uu, uu, uu, uu, uu, uu, uu, uu, uu, uu, uu, uu, uu, uu, uu, uu, uu, uu, uu, uu, uu, uu, uu, uu, uu, uu, uu, uu, uu, uu, uu, uu, uu, uu, uu] ([Ob.dead, Ob.dead, Ob.dead, Ob.dead]) := by
 exact (RoundRun.of_eval (sp := ⟨[3, 5, 7, 10], [], []⟩) (n0 := 4) (ex := Ex.norm) (t' := [uu, uu, uu, .lst .no 1 a, uu, .lst .no 3 rs, uu, .int .i64 (↑i : Int), uu, uu, .int .i64 (IntKind.wrap IntKind.i64 ((↑k : Int) + 1)), uu, uu, uu, uu, uu, uu, uu, uu, uu, uu, uu, uu, uu, uu, uu, uu, uu, uu, uu, uu, uu, uu, uu, uu, uu, uu, uu, uu, uu, uu, uu, uu, uu, uu, uu, uu, uu, uu, uu, uu, uu, uu, uu, uu, uu, uu, uu, uu, uu, uu, uu, uu, uu, uu, uu, uu, uu, uu, uu, uu, uu, uu, uu, uu, uu, uu, uu, uu, uu, uu, uu, uu, uu, uu, uu, uu, uu, uu, uu, uu, uu, uu, uu, uu, uu, uu, uu, uu, uu, uu, uu, uu, uu, uu, uu, uu, uu, uu, uu, uu, uu, uu, uu, uu, uu, uu, uu, uu, uu, uu, uu, uu, uu, uu, uu, uu, uu, uu, uu, uu, uu, uu, uu, uu, uu, uu, uu, uu, uu, uu, uu, uu, uu, uu, uu, uu, uu, uu, uu, uu, uu, uu]) (s' := [Ob.dead, Ob.dead, Ob.dead, Ob.dead]) mixed ([tT, .get _ _ _ hx, tC (by ((try simp only [List.length_append, List.length_cons, List.length_nil, List.length_set, List.length_replicate, List.length_take, List.length_drop, sl2] at *); (try unfold big at *); omega) : (decide ((↑k : Int) < (↑(List.length xs) : Int))) = true), tT, .get _ _ _ hx, tT, .get _ _ _ hs] ++ List.replicate 3 (tC (eF (by ((try simp only [List.length_append, List.length_cons, List.length_nil, List.length_set, List.length_replicate, List.length_take, List.length_drop, sl2] at *); (try unfold big at *); omega) : (kind == 5) = false))) ++ [tC (by ((try simp only [List.length_append, List.length_cons, List.length_nil, List.length_set, List.length_replicate, List.length_take, List.length_drop, sl2] at *); (try unfold big at *); omega) : (kind == 5) = false), tT, .get _ _ _ hx, tC (nt he)] ++ List.replicate 3 (tC (eT (nt (by ((try simp only [List.length_append, List.length_cons, List.length_nil, List.length_set, List.length_replicate, List.length_take, List.length_drop, sl2] at *); (try unfold big at *); omega) : (kind == 5) = false)))) ++ [tC (nt (by ((try simp only [List.length_append, List.length_cons, List.length_nil, List.length_set, List.length_replicate, List.length_take, List.length_drop, sl2] at *); (try unfold big at *); omega) : (kind == 5) = false)), tC (nt (by ((try simp only [List.length_append, List.length_cons, List.length_nil, List.length_set, List.length_replicate, List.length_take, List.length_drop, sl2] at *); (try unfold big at *); omega) : (kind == 4) = false))]) (by kernel_rfl)).cast (by rfl) (by rfl)
theorem jk_jump (a rs : List D) (i : Nat) (k : Nat) (xs : List D) (a1 : (i : Int) < (a.length : Int)) (a64 : (a.length : Int) ≤ 64) (hx : a[(i : Int).toNat]? = some (.lst .no 13 xs)) (k1 : (k : Int) < (xs.length : Int)) (x1 : (xs.length : Int) ≤ 1000) (kind op w dst src base disp imm cc reg phys num to : Int) (hs : xs[(k : Int).toNat]? = some (irD kind op w dst src base disp imm cc reg phys num to)) (hI : LoopRun Try.prog 5 (.loop (loopB Try.f8 2)) [uu, uu, uu, .lst .no 1 a, uu, .lst .no 3 rs, uu, .int .i64 (i : Int), uu, uu, .int .i64 (k : Int), .ptr false 4 0, uu, .bool false, .int .i64 0, uu, uu, uu, uu, uu, uu, uu, uu, uu, uu, uu, uu, uu, uu, uu, uu, uu, uu, uu, uu, uu, uu, uu, uu, uu, uu, uu, uu, uu, uu, uu, uu, uu, uu, uu, uu, uu, uu, uu, uu, uu, uu, uu, uu, uu, uu, uu, uu, uu, uu, uu, uu, uu, uu, uu, uu, uu, uu, uu, uu, uu, uu, uu, uu, uu, uu, uu, uu, uu, uu, uu, uu, uu, uu, uu, uu, uu, uu, uu, uu, uu, uu, uu, uu, uu, uu, uu, uu, uu, uu, uu, uu, uu, uu, uu, uu, uu, uu, uu, uu, uu, uu, uu, uu, uu, uu, uu, uu, uu, uu, uu, uu, uu, uu, uu, uu, uu, uu, uu, uu, uu, uu, uu, uu, uu, uu, uu, uu, uu, uu, uu, uu, uu, uu, uu, uu, uu, uu] [.dead, .dead, .dead, .dead, .box [.int .i8 kind, .int .i8 op, .int .i8 w, .int .i8 dst, .int .i8 src, .int .i8 base, .int .i64 disp, .int .i64 imm, .int .i8 cc, .int .i8 reg, .int .i8 phys, .int .i64 num, .int .i64 to]] (.exit 4) [uu, uu, uu, .lst .no 1 a, uu, .lst .no 3 rs, uu, .int .i64 (i : Int), uu, uu, .int .i64 (k : Int), .ptr false 4 0, uu, .bool true, uu, uu, uu, uu, uu, uu, uu, uu, uu, uu, uu, uu, uu, uu, uu, uu, uu, uu, uu, uu, uu, uu, uu, uu, uu, uu, uu, uu, uu, uu, uu, uu, uu, uu, uu, uu, uu, uu, uu, uu, uu, uu, uu, uu, uu, uu, uu, uu, uu, uu, uu, uu, uu, uu, uu, uu, uu, uu, uu, uu, uu, uu, uu, uu, uu, uu, uu, uu, uu, uu, uu, uu, uu, uu, uu, uu, uu, uu, uu, uu, uu, uu, uu, uu, uu, uu, uu, uu, uu, uu, uu, uu, uu, uu, uu, uu, uu, uu, uu, uu, uu, uu, uu, uu, uu, uu, uu, uu, uu, uu, uu, uu, uu, uu, uu, uu, uu, uu, uu, uu, uu, uu, uu, uu, uu, uu, uu, uu, uu, uu, uu, uu, uu, uu, uu, uu, uu, uu, uu] [.dead, .dead, .dead, .dead, .box [.int .i8 kind, .int .i8 op, .int .i8 w, .int .i8 dst, .int .i8 src, .int .i8 base, .int .i64 disp, .int .i64 imm, .int .i8 cc, .int .i8 reg, .int .i8 phys, .int .i64 num, .int .i64 to]]) (kk : kind = 4) (h : (k : Int) + 1 < (xs.length : Int)) (he : ((kind == 6) == ((k : Int) == IntKind.i64.wrap ((xs.length : Int) - 1))) = true)  : RoundRun Try.prog (loopB Try.f8 1) ⟨[3, 5, 7, 10], [], []⟩ 4 [uu, uu, uu, .lst .no 1 a, uu, .lst .no 3 rs, uu, .int .i64 (↑i : Int), uu, uu, .int .i64 (↑k : Int), uu, uu, uu, uu, uu, uu, uu, uu, uu, uu, uu, uu, uu, uu, uu, uu, uu, uu, uu, uu, uu, uu, uu, uu, uu, uu, uu, uu, uu, uu, uu, uu, uu, uu, uu, uu, uu, uu, uu, uu, uu, uu, uu, uu, uu, uu, uu, uu, uu, uu, uu, uu, uu, uu, uu, uu, uu, uu, uu, uu, uu, uu, uu, uu, uu, uu, uu, uu, uu, uu, uu, uu, uu, uu, uu, uu, uu, uu, uu, uu, uu, uu, uu, uu, uu, uu, uu, uu, uu, uu, uu, uu, uu, uu, uu, uu, uu, uu, uu, uu, uu, uu, uu, uu, uu, uu, uu, uu, uu, uu, uu, uu, uu, uu, uu, uu, uu, uu, uu, uu, uu, uu, uu, uu, uu, uu, uu, uu, uu, uu, uu, uu, uu, uu, uu, uu, uu, uu, uu, uu, uu, uu] [Ob.dead, Ob.dead, Ob.dead, Ob.dead] (Ex.norm) [uu, uu, uu, .lst .no 1 a, uu, .lst .no 3 rs, uu, .int .i64 (↑i : Int), uu, uu, .int .i64 (IntKind.wrap IntKind.i64 ((↑k : Int) + 1)), uu, uu, uu, uu, uu, uu, uu, uu, uu, uu, uu, uu, uu, uu, uu, uu, uu, uu, uu, uu, uu, uu, uu, uu, uu, uu, uu, uu, uu, uu, uu, uu, uu, uu, uu, uu, uu, uu, uu, uu, uu, uu, uu, uu, uu, uu, uu, uu, uu, uu, uu, uu, uu, uu, uu, uu, uu, uu, uu, uu, uu, uu, uu, uu, uu, uu, uu, uu, uu, uu, uu, uu, uu, uu, uu, uu, uu, uu, uu, uu, uu, uu, uu, uu, uu, uu, uu, uu, uu, uu, uu, uu, uu, uu, uu, uu, uu, uu, uu, uu, uu, uu, uu, uu, uu, uu, uu, uu, uu, uu, uu, uu, uu, uu, uu, uu, uu, uu, uu, uu, uu, uu, uu, uu, uu, uu, uu, uu, uu, uu, uu, uu, uu, uu, uu, uu, uu, uu, uu, uu, uu, uu] ([Ob.dead, Ob.dead, Ob.dead, Ob.dead]) := by
 have c0 := @of_id (nat_lit 5) _ ([uu, uu, uu, .lst .no 1 a, uu, .lst .no 3 rs, uu, .int .i64 (↑i : Int), uu, uu, .int .i64 (↑k : Int), D.ptr false 4 0, uu, .bool false, .int .i64 0, uu, uu, uu, uu, uu, uu, uu, uu, uu, uu, uu, uu, uu, uu, uu, uu, uu, uu, uu, uu, uu, uu, uu, uu, uu, uu, uu, uu, uu, uu, uu, uu, uu, uu, uu, uu, uu, uu, uu, uu, uu, uu, uu, uu, uu, uu, uu, uu, uu, uu, uu, uu, uu, uu, uu, uu, uu, uu, uu, uu, uu, uu, uu, uu, uu, uu, uu, uu, uu, uu, uu, uu, uu, uu, uu, uu, uu, uu, uu, uu, uu, uu, uu, uu, uu, uu, uu, uu, uu, uu, uu, uu, uu, uu, uu, uu, uu, uu, uu, uu, uu, uu, uu, uu, uu, uu, uu, uu, uu, uu, uu, uu, uu, uu, uu, uu, uu, uu, uu, uu, uu, uu, uu, uu, uu, uu, uu, uu, uu, uu, uu, uu, uu, uu, uu, uu, uu, uu]) ([Ob.dead, Ob.dead, Ob.dead, Ob.dead, Ob.box [.int .i8 kind, .int .i8 op, .int .i8 w, .int .i8 dst, .int .i8 src, .int .i8 base, .int .i64 disp, .int .i64 imm, .int .i8 cc, .int .i8 reg, .int .i8 phys, .int .i64 num, .int .i64 to]]) _ _ _ hI
 exact (RoundRun.of_eval (sp := ⟨[3, 5, 7, 10], [], []⟩) (n0 := 4) (ex := Ex.norm) (t' := [uu, uu, uu, .lst .no 1 a, uu, .lst .no 3 rs, uu, .int .i64 (↑i : Int), uu, uu, .int .i64 (IntKind.wrap IntKind.i64 ((↑k : Int) + 1)), uu, uu, uu, uu, uu, uu, uu, uu, uu, uu, uu, uu, uu, uu, uu, uu, uu, uu, uu, uu, uu, uu, uu, uu, uu, uu, uu, uu, uu, uu, uu, uu, uu, uu, uu, uu, uu, uu, uu, uu, uu, uu, uu, uu, uu, uu, uu, uu, uu, uu, uu, uu, uu, uu, uu, uu, uu, uu, uu, uu, uu, uu, uu, uu, uu, uu, uu, uu, uu, uu, uu, uu, uu, uu, uu, uu, uu, uu, uu, uu, uu, uu, uu, uu, uu, uu, uu, uu, uu, uu, uu, uu, uu, uu, uu, uu, uu, uu, uu, uu, uu, uu, uu, uu, uu, uu, uu, uu, uu, uu, uu, uu, uu, uu, uu, uu, uu, uu, uu, uu, uu, uu, uu, uu, uu, uu, uu, uu, uu, uu, uu, uu, uu, uu, uu, uu, uu, uu, uu, uu, uu, uu]) (s' := [Ob.dead, Ob.dead, Ob.dead, Ob.dead]) mixed ([tT, .get _ _ _ hx, tC (by ((try simp only [List.length_append, List.length_cons, List.length_nil, List.length_set, List.length_replicate, List.length_take, List.length_drop, sl2] at *); (try unfold big at *); omega) : (decide ((↑k : Int) < (↑(List.length xs) : Int))) = true), tT, .get _ _ _ hx, tT, .get _ _ _ hs] ++ List.replicate 3 (tC (eF (by ((try simp only [List.length_append, List.length_cons, List.length_nil, List.length_set, List.length_replicate, List.length_take, List.length_drop, sl2] at *); (try unfold big at *); omega) : (kind == 5) = false))) ++ [tC (by ((try simp only [List.length_append, List.length_cons, List.length_nil, List.length_set, List.length_replicate, List.length_take, List.length_drop, sl2] at *); (try unfold big at *); omega) : (kind == 5) = false), tT, .get _ _ _ hx, tC (nt he)] ++ List.replicate 3 (tC (eT (nt (by ((try simp only [List.length_append, List.length_cons, List.length_nil, List.length_set, List.length_replicate, List.length_take, List.length_drop, sl2] at *); (try unfold big at *); omega) : (kind == 5) = false)))) ++ [tC (nt (by ((try simp only [List.length_append, List.length_cons, List.length_nil, List.length_set, List.length_replicate, List.length_take, List.length_drop, sl2] at *); (try unfold big at *); omega) : (kind == 5) = false)), tC (nt (eqI 4 true (by ((try simp only [List.length_append, List.length_cons, List.length_nil, List.length_set, List.length_replicate, List.length_take, List.length_drop, sl2] at *); (try unfold big at *); omega) : kind = 4))), .head ⟨[3, 5, 7, 10, 11, 13, 14], [4], []⟩ _ _ _ _ _ _ _ c0, tF]) (by kernel_rfl)).cast (by rfl) (by rfl)
theorem jk_else (a rs : List D) (i : Nat) (k : Nat) (xs : List D) (a1 : (i : Int) < (a.length : Int)) (a64 : (a.length : Int) ≤ 64) (hx : a[(i : Int).toNat]? = some (.lst .no 13 xs)) (k1 : (k : Int) < (xs.length : Int)) (x1 : (xs.length : Int) ≤ 1000) (kind op w dst src base disp imm cc reg phys num to : Int) (hs : xs[(k : Int).toNat]? = some (irD kind op w dst src base disp imm cc reg phys num to)) (q4 : (kind == 4) = false) (q5 : (kind == 5) = false) (q6 : (kind == 6) = false) (h : (k : Int) + 1 < (xs.length : Int)) (he : ((kind == 6) == ((k : Int) == IntKind.i64.wrap ((xs.length : Int) - 1))) = true)  : RoundRun Try.prog (loopB Try.f8 1) ⟨[3, 5, 7, 10], [], []⟩ 4 [uu, uu, uu, .lst .no 1 a, uu, .lst .no 3 rs, uu, .int .i64 (↑i : Int), uu, uu, .int .i64 (↑k : Int), uu, uu, uu, uu, uu, uu, uu, uu, uu, uu, uu, uu, uu, uu, uu, uu, uu, uu, uu, uu, uu, uu, uu, uu, uu, uu, uu, uu, uu, uu, uu, uu, uu, uu, uu, uu, uu, uu, uu, uu, uu, uu, uu, uu, uu, uu, uu, uu, uu, uu, uu, uu, uu, uu, uu, uu, uu, uu, uu, uu, uu, uu, uu, uu, uu, uu, uu, uu, uu, uu, uu, uu, uu, uu, uu, uu, uu, uu, uu, uu, uu, uu, uu, uu, uu, uu, uu, uu, uu, uu, uu, uu, uu, uu, uu, uu, uu, uu, uu, uu, uu, uu, uu, uu, uu, uu, uu, uu, uu, uu, uu, uu, uu, uu, uu, uu, uu, uu, uu, uu, uu, uu, uu, uu, uu, uu, uu, uu, uu, uu, uu, uu, uu, uu, uu, uu, uu, uu, uu, uu, uu, uu] [Ob.dead, Ob.dead, Ob.dead, Ob.dead] (Ex.norm) [uu, uu, uu, .lst .no 1 a, uu, .lst .no 3 rs, uu, .int .i64 (↑i : Int), uu, uu, .int .i64 (IntKind.wrap IntKind.i64 ((↑k : Int) + 1)), uu, uu, uu, uu, uu, uu, uu, uu, uu, uu, uu, uu, uu, uu, uu, uu, uu, uu, uu, uu, uu, uu, uu, uu, uu, uu, uu, uu, uu, uu, uu, uu, uu, uu, uu, uu, uu, uu, uu, uu, uu, uu, uu, uu, uu, uu, uu, uu, uu, uu, uu, uu, uu, uu, uu, uu, uu, uu, uu, uu, uu, uu, uu, uu, uu, uu, uu, uu, uu, uu, uu, uu, uu, uu, uu, uu, uu, uu, uu, uu, uu, uu, uu, uu, uu, uu, uu, uu, uu, uu, uu, uu, uu, uu, uu, uu, uu, uu, uu, uu, uu, uu, uu, uu, uu, uu, uu, uu, uu, uu, uu, uu, uu, uu, uu, uu, uu, uu, uu, uu, uu, uu, uu, uu, uu, uu, uu, uu, uu, uu, uu, uu, uu, uu, uu, uu, uu, uu, uu, uu, uu, uu] ([Ob.dead, Ob.dead, Ob.dead, Ob.dead]) := by
 exact (RoundRun.of_eval (sp := ⟨[3, 5, 7, 10], [], []⟩) (n0 := 4) (ex := Ex.norm) (t' := [uu, uu, uu, .lst .no 1 a, uu, .lst .no 3 rs, uu, .int .i64 (↑i : Int), uu, uu, .int .i64 (IntKind.wrap IntKind.i64 ((↑k : Int) + 1)), uu, uu, uu, uu, uu, uu, uu, uu, uu, uu, uu, uu, uu, uu, uu, uu, uu, uu, uu, uu, uu, uu, uu, uu, uu, uu, uu, uu, uu, uu, uu, uu, uu, uu, uu, uu, uu, uu, uu, uu, uu, uu, uu, uu, uu, uu, uu, uu, uu, uu, uu, uu, uu, uu, uu, uu, uu, uu, uu, uu, uu, uu, uu, uu, uu, uu, uu, uu, uu, uu, uu, uu, uu, uu, uu, uu, uu, uu, uu, uu, uu, uu, uu, uu, uu, uu, uu, uu, uu, uu, uu, uu, uu, uu, uu, uu, uu, uu, uu, uu, uu, uu, uu, uu, uu, uu, uu, uu, uu, uu, uu, uu, uu, uu, uu, uu, uu, uu, uu, uu, uu, uu, uu, uu, uu, uu, uu, uu, uu, uu, uu, uu, uu, uu, uu, uu, uu, uu, uu, uu, uu, uu]) (s' := [Ob.dead, Ob.dead, Ob.dead, Ob.dead]) mixed ([tT, .get _ _ _ hx, tC (by ((try simp only [List.length_append, List.length_cons, List.length_nil, List.length_set, List.length_replicate, List.length_take, List.length_drop, sl2] at *); (try unfold big at *); omega) : (decide ((↑k : Int) < (↑(List.length xs) : Int))) = true), tT, .get _ _ _ hx, tT, .get _ _ _ hs, tC (eF q5), tC (eF q5), tC (eF q5), tC q5, tT, .get _ _ _ hx, tC (nt he)] ++ List.replicate 3 (tC (eT (nt q5))) ++ [tC (nt q5), tC (nt q4)]) (by kernel_rfl)).cast (by rfl) (by rfl)
theorem jm_end (a rs : List D) (i : Nat) (h : (a.length : Int) ≤ i)  : RoundRun Try.prog (loopB Try.f8 0) ⟨[], [], []⟩ 3 [uu, uu, uu, .lst .no 1 a, uu, .lst .no 3 rs, uu, .int .i64 (↑i : Int), uu, uu, uu, uu, uu, uu, uu, uu, uu, uu, uu, uu, uu, uu, uu, uu, uu, uu, uu, uu, uu, uu, uu, uu, uu, uu, uu, uu, uu, uu, uu, uu, uu, uu, uu, uu, uu, uu, uu, uu, uu, uu, uu, uu, uu, uu, uu, uu, uu, uu, uu, uu, uu, uu, uu, uu, uu, uu, uu, uu, uu, uu, uu, uu, uu, uu, uu, uu, uu, uu, uu, uu, uu, uu, uu, uu, uu, uu, uu, uu, uu, uu, uu, uu, uu, uu, uu, uu, uu, uu, uu, uu, uu, uu, uu, uu, uu, uu, uu, uu, uu, uu, uu, uu, uu, uu, uu, uu, uu, uu, uu, uu, uu, uu, uu, uu, uu, uu, uu, uu, uu, uu, uu, uu, uu, uu, uu, uu, uu, uu, uu, uu, uu, uu, uu, uu, uu, uu, uu, uu, uu, uu, uu, uu, uu] [Ob.dead, Ob.dead, Ob.dead] (Ex.exit (0 : Nat)) [uu, uu, uu, uu, uu, uu, uu, uu, uu, uu, uu, uu, uu, uu, uu, uu, uu, uu, uu, uu, uu, uu, uu, uu, uu, uu, uu, uu, uu, uu, uu, uu, uu, uu, uu, uu, uu, uu, uu, uu, uu, uu, uu, uu, uu, uu, uu, uu, uu, uu, uu, uu, uu, uu, uu, uu, uu, uu, uu, uu, uu, uu, uu, uu, uu, uu, uu, uu, uu, uu, uu, uu, uu, uu, uu, uu, uu, uu, uu, uu, uu, uu, uu, uu, uu, uu, uu, uu, uu, uu, uu, uu, uu, uu, uu, uu, uu, uu, uu, uu, uu, uu, uu, uu, uu, uu, uu, uu, uu, uu, uu, uu, uu, uu, uu, uu, uu, uu, uu, uu, uu, uu, uu, uu, uu, uu, uu, uu, uu, uu, uu, uu, uu, uu, uu, uu, uu, uu, uu, uu, uu, uu, uu, uu, uu, uu, uu, uu, uu, uu, uu, uu, uu] ([Ob.dead, Ob.dead, Ob.dead]) := by
 exact (RoundRun.of_eval (sp := ⟨[], [], []⟩) (n0 := 3) (ex := Ex.exit (0 : Nat)) (t' := [uu, uu, uu, uu, uu, uu, uu, uu, uu, uu, uu, uu, uu, uu, uu, uu, uu, uu, uu, uu, uu, uu, uu, uu, uu, uu, uu, uu, uu, uu, uu, uu, uu, uu, uu, uu, uu, uu, uu, uu, uu, uu, uu, uu, uu, uu, uu, uu, uu, uu, uu, uu, uu, uu, uu, uu, uu, uu, uu, uu, uu, uu, uu, uu, uu, uu, uu, uu, uu, uu, uu, uu, uu, uu, uu, uu, uu, uu, uu, uu, uu, uu, uu, uu, uu, uu, uu, uu, uu, uu, uu, uu, uu, uu, uu, uu, uu, uu, uu, uu, uu, uu, uu, uu, uu, uu, uu, uu, uu, uu, uu, uu, uu, uu, uu, uu, uu, uu, uu, uu, uu, uu, uu, uu, uu, uu, uu, uu, uu, uu, uu, uu, uu, uu, uu, uu, uu, uu, uu, uu, uu, uu, uu, uu, uu, uu, uu, uu, uu, uu, uu, uu, uu]) (s' := [Ob.dead, Ob.dead, Ob.dead]) mixed [tC (by ((try simp only [List.length_append, List.length_cons, List.length_nil, List.length_set, List.length_replicate, List.length_take, List.length_drop, sl2] at *); (try unfold big at *); omega) : (decide ((↑i : Int) < (↑(List.length a) : Int))) = false)] (by kernel_rfl)).cast (by rfl) (by rfl)
theorem jm_row (a rs : List D) (i : Nat) (xs : List D) (a1 : (i : Int) < (a.length : Int)) (a64 : (a.length : Int) ≤ 64) (hx : a[(i : Int).toNat]? = some (.lst .no 13 xs)) (i1 : (i : Int) < (rs.length : Int)) (r1 : (rs.length : Int) ≤ 64) (fr tt : Int) (f0 : 0 ≤ fr) (ft : fr < tt) (tl : tt ≤ 64) (nx : D) (hg : rs[(i : Int).toNat]? = some (.agg [.int .i64 fr, .int .i64 tt, nx])) (x0 : 1 ≤ (xs.length : Int)) (x1 : (xs.length : Int) ≤ 64 * (tt - fr)) (hc : Ret Try.prog 31 [.lst .no 13 xs] (.tup [.int .i64 0, .int .i64 0])) (hI : LoopRun Try.prog 4 (.loop (loopB Try.f8 1)) [uu, uu, uu, .lst .no 1 a, uu, .lst .no 3 rs, uu, .int .i64 (i : Int), uu, uu, .int .i64 0, uu, uu, uu, uu, uu, uu, uu, uu, uu, uu, uu, uu, uu, uu, uu, uu, uu, uu, uu, uu, uu, uu, uu, uu, uu, uu, uu, uu, uu, uu, uu, uu, uu, uu, uu, uu, uu, uu, uu, uu, uu, uu, uu, uu, uu, uu, uu, uu, uu, uu, uu, uu, uu, uu, uu, uu, uu, uu, uu, uu, uu, uu, uu, uu, uu, uu, uu, uu, uu, uu, uu, uu, uu, uu, uu, uu, uu, uu, uu, uu, uu, uu, uu, uu, uu, uu, uu, uu, uu, uu, uu, uu, uu, uu, uu, uu, uu, uu, uu, uu, uu, uu, uu, uu, uu, uu, uu, uu, uu, uu, uu, uu, uu, uu, uu, uu, uu, uu, uu, uu, uu, uu, uu, uu, uu, uu, uu, uu, uu, uu, uu, uu, uu, uu, uu, uu, uu, uu, uu, uu, uu, uu] [.dead, .dead, .dead, .dead] (.exit 2) [uu, uu, uu, .lst .no 1 a, uu, .lst .no 3 rs, uu, .int .i64 (i : Int), uu, uu, uu, uu, uu, uu, uu, uu, uu, uu, uu, uu, uu, uu, uu, uu, uu, uu, uu, uu, uu, uu, uu, uu, uu, uu, uu, uu, uu, uu, uu, uu, uu, uu, uu, uu, uu, uu, uu, uu, uu, uu, uu, uu, uu, uu, uu, uu, uu, uu, uu, uu, uu, uu, uu, uu, uu, uu, uu, uu, uu, uu, uu, uu, uu, uu, uu, uu, uu, uu, uu, uu, uu, uu, uu, uu, uu, uu, uu, uu, uu, uu, uu, uu, uu, uu, uu, uu, uu, uu, uu, uu, uu, uu, uu, uu, uu, uu, uu, uu, uu, uu, uu, uu, uu, uu, uu, uu, uu, uu, uu, uu, uu, uu, uu, uu, uu, uu, uu, uu, uu, uu, uu, uu, uu, uu, uu, uu, uu, uu, uu, uu, uu, uu, uu, uu, uu, uu, uu, uu, uu, uu, uu, uu, uu] [.dead, .dead, .dead, .dead])  : RoundRun Try.prog (loopB Try.f8 0) ⟨[3, 5, 7], [], []⟩ 3 [uu, uu, uu, .lst .no 1 a, uu, .lst .no 3 rs, uu, .int .i64 (↑i : Int), uu, uu, uu, uu, uu, uu, uu, uu, uu, uu, uu, uu, uu, uu, uu, uu, uu, uu, uu, uu, uu, uu, uu, uu, uu, uu, uu, uu, uu, uu, uu, uu, uu, uu, uu, uu, uu, uu, uu, uu, uu, uu, uu, uu, uu, uu, uu, uu, uu, uu, uu, uu, uu, uu, uu, uu, uu, uu, uu, uu, uu, uu, uu, uu, uu, uu, uu, uu, uu, uu, uu, uu, uu, uu, uu, uu, uu, uu, uu, uu, uu, uu, uu, uu, uu, uu, uu, uu, uu, uu, uu, uu, uu, uu, uu, uu, uu, uu, uu, uu, uu, uu, uu, uu, uu, uu, uu, uu, uu, uu, uu, uu, uu, uu, uu, uu, uu, uu, uu, uu, uu, uu, uu, uu, uu, uu, uu, uu, uu, uu, uu, uu, uu, uu, uu, uu, uu, uu, uu, uu, uu, uu, uu, uu, uu] [Ob.dead, Ob.dead, Ob.dead] (Ex.norm) [uu, uu, uu, .lst .no 1 a, uu, .lst .no 3 rs, uu, .int .i64 (IntKind.wrap IntKind.i64 ((↑i : Int) + 1)), uu, uu, uu, uu, uu, uu, uu, uu, uu, uu, uu, uu, uu, uu, uu, uu, uu, uu, uu, uu, uu, uu, uu, uu, uu, uu, uu, uu, uu, uu, uu, uu, uu, uu, uu, uu, uu, uu, uu, uu, uu, uu, uu, uu, uu, uu, uu, uu, uu, uu, uu, uu, uu, uu, uu, uu, uu, uu, uu, uu, uu, uu, uu, uu, uu, uu, uu, uu, uu, uu, uu, uu, uu, uu, uu, uu, uu, uu, uu, uu, uu, uu, uu, uu, uu, uu, uu, uu, uu, uu, uu, uu, uu, uu, uu, uu, uu, uu, uu, uu, uu, uu, uu, uu, uu, uu, uu, uu, uu, uu, uu, uu, uu, uu, uu, uu, uu, uu, uu, uu, uu, uu, uu, uu, uu, uu, uu, uu, uu, uu, uu, uu, uu, uu, uu, uu, uu, uu, uu, uu, uu, uu, uu, uu, uu] ([Ob.dead, Ob.dead, Ob.dead]) := by
 have c0 := @of_id (nat_lit 4) _ ([uu, uu, uu, .lst .no 1 a, uu, .lst .no 3 rs, uu, .int .i64 (↑i : Int), uu, uu, .int .i64 0, uu, uu, uu, uu, uu, uu, uu, uu, uu, uu, uu, uu, uu, uu, uu, uu, uu, uu, uu, uu, uu, uu, uu, uu, uu, uu, uu, uu, uu, uu, uu, uu, uu, uu, uu, uu, uu, uu, uu, uu, uu, uu, uu, uu, uu, uu, uu, uu, uu, uu, uu, uu, uu, uu, uu, uu, uu, uu, uu, uu, uu, uu, uu, uu, uu, uu, uu, uu, uu, uu, uu, uu, uu, uu, uu, uu, uu, uu, uu, uu, uu, uu, uu, uu, uu, uu, uu, uu, uu, uu, uu, uu, uu, uu, uu, uu, uu, uu, uu, uu, uu, uu, uu, uu, uu, uu, uu, uu, uu, uu, uu, uu, uu, uu, uu, uu, uu, uu, uu, uu, uu, uu, uu, uu, uu, uu, uu, uu, uu, uu, uu, uu, uu, uu, uu, uu, uu, uu, uu, uu, uu, uu]) ([Ob.dead, Ob.dead, Ob.dead, Ob.dead]) _ _ _ hI
 exact (RoundRun.of_eval (sp := ⟨[3, 5, 7], [], []⟩) (n0 := 3) (ex := Ex.norm) (t' := [uu, uu, uu, .lst .no 1 a, uu, .lst .no 3 rs, uu, .int .i64 (IntKind.wrap IntKind.i64 ((↑i : Int) + 1)), uu, uu, uu, uu, uu, uu, uu, uu, uu, uu, uu, uu, uu, uu, uu, uu, uu, uu, uu, uu, uu, uu, uu, uu, uu, uu, uu, uu, uu, uu, uu, uu, uu, uu, uu, uu, uu, uu, uu, uu, uu, uu, uu, uu, uu, uu, uu, uu, uu, uu, uu, uu, uu, uu, uu, uu, uu, uu, uu, uu, uu, uu, uu, uu, uu, uu, uu, uu, uu, uu, uu, uu, uu, uu, uu, uu, uu, uu, uu, uu, uu, uu, uu, uu, uu, uu, uu, uu, uu, uu, uu, uu, uu, uu, uu, uu, uu, uu, uu, uu, uu, uu, uu, uu, uu, uu, uu, uu, uu, uu, uu, uu, uu, uu, uu, uu, uu, uu, uu, uu, uu, uu, uu, uu, uu, uu, uu, uu, uu, uu, uu, uu, uu, uu, uu, uu, uu, uu, uu, uu, uu, uu, uu, uu, uu]) (s' := [Ob.dead, Ob.dead, Ob.dead]) mixed ([tC (by ((try simp only [List.length_append, List.length_cons, List.length_nil, List.length_set, List.length_replicate, List.length_take, List.length_drop, sl2] at *); (try unfold big at *); omega) : (decide ((↑i : Int) < (↑(List.length a) : Int))) = true), tT, .get _ _ _ hx, .ret _ _ _ hc, tT, tT, tT, tT, .get _ _ _ hx, tT, tT, tT, tF] ++ List.replicate 3 (tC (eF (eqG 0 (decide_eq_false (Int.not_lt.2 x0))))) ++ [tT, .get _ _ _ hx] ++ List.replicate 5 (tC (eF (eqG 0 (decide_eq_false (Int.not_lt.2 x0))))) ++ [tT, .get _ _ _ hg] ++ List.replicate 5 (tC (eF (eqG 0 (decide_eq_false (Int.not_lt.2 x0))))) ++ [tT, .get _ _ _ hg] ++ List.replicate 5 (tC (eF (eqG 0 (decide_eq_false (Int.not_lt.2 x0))))) ++ [tC (eqG 0 (decide_eq_false (Int.not_lt.2 x0))), tC (by ((try simp only [List.length_append, List.length_cons, List.length_nil, List.length_set, List.length_replicate, List.length_take, List.length_drop, sl2] at *); (try unfold big at *); omega) : (decide ((↑(List.length xs) : Int) > IntKind.wrap IntKind.i64 (64 * IntKind.wrap IntKind.i64 (tt - fr)))) = false), .head ⟨[3, 5, 7, 10], [], []⟩ _ _ _ _ _ _ _ c0]) (by kernel_rfl)).cast (by rfl) (by rfl)
end Go.Proofs.Ytcngafhpodeenaa

namespace Go.Proofs.Ytcngafhpodeenaa
open Go Go.Ev
set_option maxRecDepth 100000
set_option maxHeartbeats 8000000
end Go.Proofs.Ytcngafhpodeenaa

namespace Go.Proofs.Ytcngafhpodeenaa
open Go Go.Ev
set_option maxRecDepth 100000
end Go.Proofs.Ytcngafhpodeenaa

namespace Go.Proofs.Ytcngafhpodeenaa
open Go Go.Ev
set_option maxRecDepth 100000
set_option maxHeartbeats 8000000
end Go.Proofs.Ytcngafhpodeenaa

namespace Go.Proofs.Ytcngafhpodeenaa
open Go Go.Ev
end Go.Proofs.Ytcngafhpodeenaa

namespace Go.Proofs.Ytcngafhpodeenaa
open Go Go.Ev
set_option maxRecDepth 100000
set_option maxHeartbeats 8000000
end Go.Proofs.Ytcngafhpodeenaa

namespace Go.Proofs.Ytcngafhpodeenaa
open Go Go.Ev
set_option maxRecDepth 100000
abbrev uiT (rs out : List D) (b : Int) (row : List D) (k : Int) : List D := [.undef, .ptr false 0 0, .undef, .undef, .lst .no 3 rs, .undef, .lst (.tok 3 0) 1 out, .int .i64 b, .lst (.tok 4 0) 13 row, .int .i64 k, .undef, .undef, .undef, .undef, .undef, .undef, .undef, .undef, .undef, .undef, .undef, .undef, .undef, .undef, .undef, .undef, .undef, .undef, .undef, .undef, .undef, .undef, .undef, .undef, .undef, .undef, .undef, .undef, .undef, .undef, .undef, .undef, .undef, .undef, .undef, .undef, .undef, .undef, .undef, .undef, .undef, .undef, .undef, .undef, .undef, .undef, .undef, .undef, .undef, .undef, .undef, .undef, .undef, .undef, .undef, .undef, .undef, .undef, .undef, .undef, .undef, .undef, .undef, .undef, .undef, .undef, .undef, .undef, .undef, .undef, .undef, .undef, .undef, .undef, .undef, .undef, .undef, .undef, .undef, .undef, .undef, .undef, .undef, .undef, .undef, .undef, .undef, .undef, .undef, .undef, .undef, .undef, .undef, .undef, .undef, .undef, .undef, .undef, .undef, .undef, .undef, .undef, .undef, .undef, .undef, .undef, .undef, .undef, .undef, .undef, .undef, .undef, .undef, .undef, .undef, .undef, .undef, .undef, .undef, .undef, .undef, .undef, .undef, .undef, .undef, .undef]
abbrev uiU (rs out : List D) (b : Int) (row : List D) : List D := [.undef, .ptr false 0 0, .undef, .undef, .lst .no 3 rs, .undef, .lst (.tok 3 0) 1 out, .int .i64 b, .lst (.tok 4 0) 13 row, .undef, .undef, .undef, .undef, .undef, .undef, .undef, .undef, .undef, .undef, .undef, .undef, .undef, .undef, .undef, .undef, .undef, .undef, .undef, .undef, .undef, .undef, .undef, .undef, .undef, .undef, .undef, .undef, .undef, .undef, .undef, .undef, .undef, .undef, .undef, .undef, .undef, .undef, .undef, .undef, .undef, .undef, .undef, .undef, .undef, .undef, .undef, .undef, .undef, .undef, .undef, .undef, .undef, .undef, .undef, .undef, .undef, .undef, .undef, .undef, .undef, .undef, .undef, .undef, .undef, .undef, .undef, .undef, .undef, .undef, .undef, .undef, .undef, .undef, .undef, .undef, .undef, .undef, .undef, .undef, .undef, .undef, .undef, .undef, .undef, .undef, .undef, .undef, .undef, .undef, .undef, .undef, .undef, .undef, .undef, .undef, .undef, .undef, .undef, .undef, .undef, .undef, .undef, .undef, .undef, .undef, .undef, .undef, .undef, .undef, .undef, .undef, .undef, .undef, .undef, .undef, .undef, .undef, .undef, .undef, .undef, .undef, .undef, .undef, .undef, .undef, .undef]
end Go.Proofs.Ytcngafhpodeenaa

namespace Go.Proofs.Ytcngafhpodeenaa
open Go Go.Ev
set_option maxRecDepth 100000
set_option maxHeartbeats 8000000
end Go.Proofs.Ytcngafhpodeenaa

namespace Go.Proofs.Ytcngafhpodeenaa
open Go Go.Ev
set_option maxRecDepth 100000
abbrev uoT (rs out : List D) (b : Int) : List D := [.undef, .ptr false 0 0, .undef, .undef, .lst .no 3 rs, .undef, .lst (.tok 2 0) 1 out, .int .i64 b, .undef, .undef, .undef, .undef, .undef, .undef, .undef, .undef, .undef, .undef, .undef, .undef, .undef, .undef, .undef, .undef, .undef, .undef, .undef, .undef, .undef, .undef, .undef, .undef, .undef, .undef, .undef, .undef, .undef, .undef, .undef, .undef, .undef, .undef, .undef, .undef, .undef, .undef, .undef, .undef, .undef, .undef, .undef, .undef, .undef, .undef, .undef, .undef, .undef, .undef, .undef, .undef, .undef, .undef, .undef, .undef, .undef, .undef, .undef, .undef, .undef, .undef, .undef, .undef, .undef, .undef, .undef, .undef, .undef, .undef, .undef, .undef, .undef, .undef, .undef, .undef, .undef, .undef, .undef, .undef, .undef, .undef, .undef, .undef, .undef, .undef, .undef, .undef, .undef, .undef, .undef, .undef, .undef, .undef, .undef, .undef, .undef, .undef, .undef, .undef, .undef, .undef, .undef, .undef, .undef, .undef, .undef, .undef, .undef, .undef, .undef, .undef, .undef, .undef, .undef, .undef, .undef, .undef, .undef, .undef, .undef, .undef, .undef, .undef, .undef, .undef, .undef, .undef]
abbrev uoU (out : List D) : List D := [.undef, .undef, .undef, .undef, .undef, .undef, .lst (.tok 2 0) 1 out, .undef, .undef, .undef, .undef, .undef, .undef, .undef, .undef, .undef, .undef, .undef, .undef, .undef, .undef, .undef, .undef, .undef, .undef, .undef, .undef, .undef, .undef, .undef, .undef, .undef, .undef, .undef, .undef, .undef, .undef, .undef, .undef, .undef, .undef, .undef, .undef, .undef, .undef, .undef, .undef, .undef, .undef, .undef, .undef, .undef, .undef, .undef, .undef, .undef, .undef, .undef, .undef, .undef, .undef, .undef, .undef, .undef, .undef, .undef, .undef, .undef, .undef, .undef, .undef, .undef, .undef, .undef, .undef, .undef, .undef, .undef, .undef, .undef, .undef, .undef, .undef, .undef, .undef, .undef, .undef, .undef, .undef, .undef, .undef, .undef, .undef, .undef, .undef, .undef, .undef, .undef, .undef, .undef, .undef, .undef, .undef, .undef, .undef, .undef, .undef, .undef, .undef, .undef, .undef, .undef, .undef, .undef, .undef, .undef, .undef, .undef, .undef, .undef, .undef, .undef, .undef, .undef, .undef, .undef, .undef, .undef, .undef, .undef, .undef, .undef, .undef, .undef, .undef, .undef]
end Go.Proofs.Ytcngafhpodeenaa

namespace Go.Proofs.Ytcngafhpodeenaa
open Go Go.Ev
set_option maxRecDepth 100000
set_option maxHeartbeats 8000000
end Go.Proofs.Ytcngafhpodeenaa

namespace Go.Proofs.Ytcngafhpodeenaa
open Go Go.Ev
set_option maxRecDepth 100000
set_option maxHeartbeats 8000000
end Go.Proofs.Ytcngafhpodeenaa

namespace Go.Proofs.Ytcngafhpodeenaa
open Go Go.Ev
set_option maxRecDepth 100000
abbrev moT (l : List D) (m k : Int) : List D := [.undef, .undef, .int .i64 m, .undef, .undef, .undef, .undef, .undef, .undef, .undef, .undef, .undef, .undef, .undef, .undef, .lst .no 9 l, .int .i64 (l.length : Int), .int .i64 k, .undef, .undef, .undef, .undef, .undef, .undef, .undef, .undef, .undef, .undef, .undef, .undef, .undef, .undef, .undef, .undef, .undef, .undef, .undef, .undef, .undef, .undef, .undef, .undef]
abbrev moU (m : Int) : List D := [.undef, .undef, .int .i64 m, .undef, .undef, .undef, .undef, .undef, .undef, .undef, .undef, .undef, .undef, .undef, .undef, .undef, .undef, .undef, .undef, .undef, .undef, .undef, .undef, .undef, .undef, .undef, .undef, .undef, .undef, .undef, .undef, .undef, .undef, .undef, .undef, .undef, .undef, .undef, .undef, .undef, .undef, .undef]
abbrev umT (m k : Int) : List D := [.undef, .ptr false 0 0, .undef, .undef, .undef, .int .i64 m, .int .i64 k, .undef, .undef, .undef, .undef, .undef, .undef, .undef, .undef, .undef, .undef, .undef, .undef, .undef, .undef, .undef, .undef, .undef, .undef, .undef, .undef, .undef, .undef, .undef, .undef, .undef, .undef, .undef, .undef, .undef, .undef, .undef, .undef, .undef, .undef, .undef, .undef, .undef, .undef, .undef, .undef]
abbrev umU (m : Int) : List D := [.undef, .undef, .undef, .undef, .undef, .int .i64 m, .undef, .undef, .undef, .undef, .undef, .undef, .undef, .undef, .undef, .undef, .undef, .undef, .undef, .undef, .undef, .undef, .undef, .undef, .undef, .undef, .undef, .undef, .undef, .undef, .undef, .undef, .undef, .undef, .undef, .undef, .undef, .undef, .undef, .undef, .undef, .undef, .undef, .undef, .undef, .undef, .undef]
end Go.Proofs.Ytcngafhpodeenaa

namespace Go.Proofs.Ytcngafhpodeenaa
open Go Go.Ev
set_option maxRecDepth 100000
set_option maxHeartbeats 8000000
end Go.Proofs.Ytcngafhpodeenaa

namespace Go.Proofs.Ytcngafhpodeenaa
open Go Go.Ev
set_option maxRecDepth 100000
set_option maxHeartbeats 8000000
end Go.Proofs.Ytcngafhpodeenaa

namespace Go.Proofs.Ytcngafhpodeenaa
open Go Go.Ev
set_option maxRecDepth 100000
abbrev lrT (a : List D) (k : Int) : List D := [.undef, .ptr false 0 0, .undef, .lst .no 1 a, .undef, .lst .no 1 a, .undef, .int .i64 k, .undef, .undef, .undef, .undef, .undef, .undef, .undef, .undef, .undef, .undef, .undef, .undef, .undef, .undef, .undef, .undef, .undef, .undef, .undef, .undef, .undef, .undef, .undef, .undef, .undef, .undef, .undef, .undef, .undef, .undef, .undef, .undef, .undef, .undef, .undef, .undef, .undef, .undef, .undef, .undef, .undef, .undef, .undef, .undef, .undef, .undef, .undef, .undef, .undef]
abbrev lrU : List D := [.undef, .ptr false 0 0, .undef, .undef, .undef, .undef, .undef, .undef, .undef, .undef, .undef, .undef, .undef, .undef, .undef, .undef, .undef, .undef, .undef, .undef, .undef, .undef, .undef, .undef, .undef, .undef, .undef, .undef, .undef, .undef, .undef, .undef, .undef, .undef, .undef, .undef, .undef, .undef, .undef, .undef, .undef, .undef, .undef, .undef, .undef, .undef, .undef, .undef, .undef, .undef, .undef, .undef, .undef, .undef, .undef, .undef, .undef]
abbrev lrS (ctx : Int) (l : List InstS) : List Ob := [.box [.int .i64 ctx, .lst .no 9 (isd l)], .dead, .dead]
theorem lowM_len (l : List InstS) : (lowM l).length = (rowsP l).length := by simp [lowM]
theorem lowM_get (l : List InstS) (k : Nat) (r : RowS) (h : (rowsP l)[k]? = some r) : (lowM l)[k]? = some (.lst .no 13 (rowM l r)) := by
 rw [lowM, List.getElem?_map, show (blkR l)[k]? = some r from h]
 rfl
theorem row_small {l : List InstS} (hp : OkP l) {b : Nat} {r : RowS} (h : RowOk l b r) : (rowM l r).length ≤ 1000 := by
 have := rowM_len l r
 have := hp.le
 have := h.f0
 have := h.ft
 have := h.tl
 omega
theorem lower_ok (ctx : Int) (l : List InstS) (h100 : l.length ≤ 100) (he : (checkM ctx l).2 = 0) : Ret Try.prog 13 [.agg [.int .i64 ctx, .lst .no 9 (isd l)]] (.tup [.lst .no 1 (lowM l), .int .i64 0]) := lrun_ok ctx l (check_OkP he) (blocks_ok ctx l h100 he)
theorem lower_no_ok (ctx : Int) (l : List InstS) (h100 : l.length ≤ 100) (he : ((checkM ctx l).2 == 0) = false) : Ret Try.prog 13 [.agg [.int .i64 ctx, .lst .no 9 (isd l)]] (.tup [.lst .tight 0 [], .int .i64 (checkM ctx l).2]) := lrun_no_ok ctx l (blocks_no ctx l h100 (by simpa using he)) he
end Go.Proofs.Ytcngafhpodeenaa

namespace Go.Proofs.Ytcngafhpodeenaa
open Go Go.Ev
set_option maxRecDepth 100000
def nxHas (ns : List Int) (v : Int) : Nat → Bool
  | 0 => false
  | j + 1 => nxHas ns v j || (ns[j]? == some v)
theorem nxHas_mem {ns : List Int} {v : Int} (h : v ∈ ns) : nxHas ns v ns.length = true := by
 obtain ⟨i, hi, e⟩ := List.getElem_of_mem h
 have key : ∀ j, i < j → nxHas ns v j = true := by
  intro j
  induction j with
  | zero => intro q; omega
  | succ j ih =>
   intro q
   rw [nxHas]
   by_cases e2 : i = j
   ·subst e2
    rw [List.getElem?_eq_getElem hi, e]
    simp
   ·rw [ih (by omega)]; rfl
 exact key _ hi
abbrev irX (s : IrS) : List D := [.int .i8 s.kind, .int .i8 s.op, .int .i8 s.w, .int .i8 s.dst, .int .i8 s.src, .int .i8 s.base, .int .i64 s.disp, .int .i64 s.imm, .int .i8 s.cc, .int .i8 s.reg, .int .i8 s.phys, .int .i64 s.num, .int .i64 s.to]
abbrev jjT (a rs : List D) (i k : Int) (v : Bool) (j : Int) : List D := [.undef, .undef, .undef, .lst .no 1 a, .undef, .lst .no 3 rs, .undef, .int .i64 i, .undef, .undef, .int .i64 k, .ptr false 4 0, .undef, .bool v, .int .i64 j, .undef, .undef, .undef, .undef, .undef, .undef, .undef, .undef, .undef, .undef, .undef, .undef, .undef, .undef, .undef, .undef, .undef, .undef, .undef, .undef, .undef, .undef, .undef, .undef, .undef, .undef, .undef, .undef, .undef, .undef, .undef, .undef, .undef, .undef, .undef, .undef, .undef, .undef, .undef, .undef, .undef, .undef, .undef, .undef, .undef, .undef, .undef, .undef, .undef, .undef, .undef, .undef, .undef, .undef, .undef, .undef, .undef, .undef, .undef, .undef, .undef, .undef, .undef, .undef, .undef, .undef, .undef, .undef, .undef, .undef, .undef, .undef, .undef, .undef, .undef, .undef, .undef, .undef, .undef, .undef, .undef, .undef, .undef, .undef, .undef, .undef, .undef, .undef, .undef, .undef, .undef, .undef, .undef, .undef, .undef, .undef, .undef, .undef, .undef, .undef, .undef, .undef, .undef, .undef, .undef, .undef, .undef, .undef, .undef, .undef, .undef, .undef, .undef, .undef, .undef, .undef, .undef, .undef, .undef, .undef, .undef, .undef, .undef, .undef, .undef, .undef, .undef, .undef, .undef, .undef, .undef, .undef, .undef, .undef, .undef, .undef, .undef, .undef]
abbrev jjU (a rs : List D) (i k : Int) (v : Bool) : List D := [.undef, .undef, .undef, .lst .no 1 a, .undef, .lst .no 3 rs, .undef, .int .i64 i, .undef, .undef, .int .i64 k, .ptr false 4 0, .undef, .bool v, .undef, .undef, .undef, .undef, .undef, .undef, .undef, .undef, .undef, .undef, .undef, .undef, .undef, .undef, .undef, .undef, .undef, .undef, .undef, .undef, .undef, .undef, .undef, .undef, .undef, .undef, .undef, .undef, .undef, .undef, .undef, .undef, .undef, .undef, .undef, .undef, .undef, .undef, .undef, .undef, .undef, .undef, .undef, .undef, .undef, .undef, .undef, .undef, .undef, .undef, .undef, .undef, .undef, .undef, .undef, .undef, .undef, .undef, .undef, .undef, .undef, .undef, .undef, .undef, .undef, .undef, .undef, .undef, .undef, .undef, .undef, .undef, .undef, .undef, .undef, .undef, .undef, .undef, .undef, .undef, .undef, .undef, .undef, .undef, .undef, .undef, .undef, .undef, .undef, .undef, .undef, .undef, .undef, .undef, .undef, .undef, .undef, .undef, .undef, .undef, .undef, .undef, .undef, .undef, .undef, .undef, .undef, .undef, .undef, .undef, .undef, .undef, .undef, .undef, .undef, .undef, .undef, .undef, .undef, .undef, .undef, .undef, .undef, .undef, .undef, .undef, .undef, .undef, .undef, .undef, .undef, .undef, .undef, .undef, .undef, .undef, .undef, .undef, .undef]
abbrev jjS (s : IrS) : List Ob := [.dead, .dead, .dead, .dead, .box (irX s)]
theorem jj_rounds (a rs : List D) (i k : Nat) (s : IrS) (i1 : (i : Int) < (rs.length : Int)) (r1 : (rs.length : Int) ≤ 64) (fr tt : Int) (ns : List Int) (n1 : ns.length ≤ 64) (hg : rs[(i : Int).toNat]? = some (.agg [.int .i64 fr, .int .i64 tt, .lst .no 1 (i64s ns)])) : ∀ (m j : Nat), j + m = ns.length →
  Rounds Try.prog (loopB Try.f8 2) 5 (jjT a rs i k (nxHas ns s.to j) j) (jjS s) (.exit 4) (jjU a rs i k (nxHas ns s.to ns.length)) (jjS s)
 | 0, j, hj => by
  obtain rfl : j = ns.length := by omega
  exact Rounds.last (jj_end a rs i k ns.length _ _ _ _ _ _ _ _ _ _ _ _ _ i1 r1 fr tt (i64s ns) hg _ (by rw [i64s_len]; omega)) (fun h => by cases h)
 | m + 1, j, hj => by
  have ih := jj_rounds a rs i k s i1 r1 fr tt ns n1 hg m (j + 1) (by omega)
  have hw : IntKind.i64.wrap ((j : Int) + 1) = ((j + 1 : Nat) : Int) := by rw [w_i64]; omega
  have hlt : j < ns.length := by omega
  rw [nxHas] at ih
  cases hb : nxHas ns s.to j with
  | true =>
   have := jj_in a rs i k j s.kind s.op s.w s.dst s.src s.base s.disp s.imm s.cc s.reg s.phys s.num s.to i1 r1 fr tt (i64s ns) hg (by rw [i64s_len]; omega) (by rw [i64s_len]; omega)
   rw [hw] at this
   rw [hb] at ih
   exact Rounds.more this ih
  | false =>
   have hv : ns[j]? = some ns[j] := List.getElem?_eq_getElem hlt
   have := jj_out a rs i k j s.kind s.op s.w s.dst s.src s.base s.disp s.imm s.cc s.reg s.phys s.num s.to i1 r1 fr tt (i64s ns) hg (by rw [i64s_len]; omega) (by rw [i64s_len]; omega) ns[j] (by rw [Int.toNat_natCast]; exact i64s_get hv)
   rw [hw] at this
   rw [hb, hv, Bool.false_or, show ((some ns[j] == some s.to) : Bool) = (ns[j] == s.to) from rfl] at ih
   exact Rounds.more this ih
theorem jj_loop (a rs : List D) (i k : Nat) (s : IrS) (i1 : (i : Int) < (rs.length : Int)) (r1 : (rs.length : Int) ≤ 64) (fr tt : Int) (ns : List Int) (n1 : ns.length ≤ 64) (hg : rs[(i : Int).toNat]? = some (.agg [.int .i64 fr, .int .i64 tt, nxD ns])) (h : s.to ∈ ns) :
  LoopRun Try.prog 5 (.loop (loopB Try.f8 2)) (jjT a rs i k false 0) (jjS s) (.exit 4) (jjU a rs i k true) (jjS s) := by
 rcases nx_cases ns with ⟨e, _⟩ | e
 ·rw [e] at h; simp at h
 ·rw [e] at hg
  have := jj_rounds a rs i k s i1 r1 fr tt ns n1 hg ns.length 0 (by omega)
  rw [nxHas_mem h] at this
  exact LoopRun.of_rounds (Nat.le_refl _) this
theorem kbeq_f {kind : Int} {k n : Nat} (h : (kind == 6) = false) (hk : (k : Int) + 1 < (n : Int) ∧ (n : Int) ≤ 1000) : ((kind == 6) == ((k : Int) == IntKind.i64.wrap ((n : Int) - 1))) = true := by
 have e : IntKind.i64.wrap ((n : Int) - 1) = (n : Int) - 1 := by rw [w_i64]; omega
 rw [h, e, show ((k : Int) == (n : Int) - 1) = false by simp; omega]
 rfl
theorem kbeq_t {kind : Int} {k n : Nat} (h : (kind == 6) = true) (hk : (k : Int) + 1 = (n : Int) ∧ (n : Int) ≤ 1000) : ((kind == 6) == ((k : Int) == IntKind.i64.wrap ((n : Int) - 1))) = true := by
 have e : IntKind.i64.wrap ((n : Int) - 1) = (n : Int) - 1 := by rw [w_i64]; omega
 rw [h, e, show ((k : Int) == (n : Int) - 1) = true by simp; omega]
 rfl
abbrev jkT (a rs : List D) (i k : Int) : List D := [.undef, .undef, .undef, .lst .no 1 a, .undef, .lst .no 3 rs, .undef, .int .i64 i, .undef, .undef, .int .i64 k, .undef, .undef, .undef, .undef, .undef, .undef, .undef, .undef, .undef, .undef, .undef, .undef, .undef, .undef, .undef, .undef, .undef, .undef, .undef, .undef, .undef, .undef, .undef, .undef, .undef, .undef, .undef, .undef, .undef, .undef, .undef, .undef, .undef, .undef, .undef, .undef, .undef, .undef, .undef, .undef, .undef, .undef, .undef, .undef, .undef, .undef, .undef, .undef, .undef, .undef, .undef, .undef, .undef, .undef, .undef, .undef, .undef, .undef, .undef, .undef, .undef, .undef, .undef, .undef, .undef, .undef, .undef, .undef, .undef, .undef, .undef, .undef, .undef, .undef, .undef, .undef, .undef, .undef, .undef, .undef, .undef, .undef, .undef, .undef, .undef, .undef, .undef, .undef, .undef, .undef, .undef, .undef, .undef, .undef, .undef, .undef, .undef, .undef, .undef, .undef, .undef, .undef, .undef, .undef, .undef, .undef, .undef, .undef, .undef, .undef, .undef, .undef, .undef, .undef, .undef, .undef, .undef, .undef, .undef, .undef, .undef, .undef, .undef, .undef, .undef, .undef, .undef, .undef, .undef, .undef, .undef, .undef, .undef, .undef, .undef, .undef, .undef, .undef, .undef, .undef, .undef, .undef]
abbrev jkU (a rs : List D) (i : Int) : List D := [.undef, .undef, .undef, .lst .no 1 a, .undef, .lst .no 3 rs, .undef, .int .i64 i, .undef, .undef, .undef, .undef, .undef, .undef, .undef, .undef, .undef, .undef, .undef, .undef, .undef, .undef, .undef, .undef, .undef, .undef, .undef, .undef, .undef, .undef, .undef, .undef, .undef, .undef, .undef, .undef, .undef, .undef, .undef, .undef, .undef, .undef, .undef, .undef, .undef, .undef, .undef, .undef, .undef, .undef, .undef, .undef, .undef, .undef, .undef, .undef, .undef, .undef, .undef, .undef, .undef, .undef, .undef, .undef, .undef, .undef, .undef, .undef, .undef, .undef, .undef, .undef, .undef, .undef, .undef, .undef, .undef, .undef, .undef, .undef, .undef, .undef, .undef, .undef, .undef, .undef, .undef, .undef, .undef, .undef, .undef, .undef, .undef, .undef, .undef, .undef, .undef, .undef, .undef, .undef, .undef, .undef, .undef, .undef, .undef, .undef, .undef, .undef, .undef, .undef, .undef, .undef, .undef, .undef, .undef, .undef, .undef, .undef, .undef, .undef, .undef, .undef, .undef, .undef, .undef, .undef, .undef, .undef, .undef, .undef, .undef, .undef, .undef, .undef, .undef, .undef, .undef, .undef, .undef, .undef, .undef, .undef, .undef, .undef, .undef, .undef, .undef, .undef, .undef, .undef, .undef, .undef, .undef]
theorem irs_get (L : List IrS) (k : Nat) (s : IrS) (h : L[k]? = some s) : (L.map IrS.d)[(k : Int).toNat]? = some (irD s.kind s.op s.w s.dst s.src s.base s.disp s.imm s.cc s.reg s.phys s.num s.to) := by
 rw [Int.toNat_natCast, List.getElem?_map, h]
 rfl
theorem jk_rounds (a rs : List D) (i : Nat) (a1 : (i : Int) < (a.length : Int)) (a64 : (a.length : Int) ≤ 64) (i1 : (i : Int) < (rs.length : Int)) (r1 : (rs.length : Int) ≤ 64) (fr tt : Int) (ns : List Int) (n1 : ns.length ≤ 64) (hg : rs[(i : Int).toNat]? = some (.agg [.int .i64 fr, .int .i64 tt, nxD ns]))
  (body : List IrS) (last : IrS) (hl : body.length < 1000) (hx : a[(i : Int).toNat]? = some (.lst .no 13 ((body ++ [last]).map IrS.d))) (hb : ∀ s ∈ body, midS ns s) (he : endS ns last) : ∀ (m k : Nat), k + m = body.length + 1 →
  Rounds Try.prog (loopB Try.f8 1) 4 (jkT a rs i k) [.dead, .dead, .dead, .dead] (.exit 2) (jkU a rs i) [.dead, .dead, .dead, .dead]
 | 0, k, hk => by
  exact Rounds.last (jk_end a rs i k _ a1 a64 hx (by simp; omega)) (fun h => by cases h)
 | m + 1, k, hk => by
  have ih := jk_rounds a rs i a1 a64 i1 r1 fr tt ns n1 hg body last hl hx hb he m (k + 1) (by omega)
  have hw : IntKind.i64.wrap ((k : Int) + 1) = ((k + 1 : Nat) : Int) := by rw [w_i64]; omega
  have hlen : (((body ++ [last]).map IrS.d).length : Int) = (body.length : Int) + 1 := by simp
  have k1 : (k : Int) < (((body ++ [last]).map IrS.d).length : Int) := by omega
  have x1 : (((body ++ [last]).map IrS.d).length : Int) ≤ 1000 := by omega
  rcases Nat.lt_or_ge k body.length with q | q
  ·have hs : (body ++ [last])[k]? = some body[k] := by rw [List.getElem?_append_left q, List.getElem?_eq_getElem q]
   obtain ⟨q5, q6, q4⟩ := hb _ (List.getElem_mem q)
   have hs' := irs_get _ k _ hs
   by_cases e4 : body[k].kind = 4
   ·have := jk_jump a rs i k _ a1 a64 hx k1 x1 _ _ _ _ _ _ _ _ _ _ _ _ _ hs' (jj_loop a rs i k body[k] i1 r1 fr tt ns n1 hg (q4 e4)) e4 (by omega) (kbeq_f (by rw [e4]; rfl) (by omega))
    rw [hw] at this
    exact Rounds.more this ih
   ·have := jk_else a rs i k _ a1 a64 hx k1 x1 _ _ _ _ _ _ _ _ _ _ _ _ _ hs' (by simpa using e4) (by simpa using q5) (by simpa using q6) (by omega) (kbeq_f (by simpa using q6) (by omega))
    rw [hw] at this
    exact Rounds.more this ih
  ·obtain rfl : k = body.length := by omega
   have hs : (body ++ [last])[body.length]? = some last := by rw [List.getElem?_append_right (Nat.le_refl _)]; simp
   have hs' := irs_get _ _ _ hs
   rcases he with ⟨e5, ht⟩ | e6
   ·have := jk_goto a rs i body.length _ a1 a64 hx k1 x1 _ _ _ _ _ _ _ _ _ _ _ _ _ hs' (jj_loop a rs i body.length last i1 r1 fr tt ns n1 hg ht) e5 (by omega)
    rw [hw] at this
    exact Rounds.more this ih
   ·have := jk_exit a rs i body.length _ a1 a64 hx k1 x1 _ _ _ _ _ _ _ _ _ _ _ _ _ hs' e6 (by omega) (kbeq_t (by rw [e6]; rfl) (by omega))
    rw [hw] at this
    exact Rounds.more this ih
theorem jk_loop (a rs : List D) (i : Nat) (a1 : (i : Int) < (a.length : Int)) (a64 : (a.length : Int) ≤ 64) (i1 : (i : Int) < (rs.length : Int)) (r1 : (rs.length : Int) ≤ 64) (fr tt : Int) (ns : List Int) (n1 : ns.length ≤ 64) (hg : rs[(i : Int).toNat]? = some (.agg [.int .i64 fr, .int .i64 tt, nxD ns]))
  (L : List IrS) (hl : L.length ≤ 1000) (hx : a[(i : Int).toNat]? = some (.lst .no 13 (L.map IrS.d))) (he : RowEnds ns L) :
  LoopRun Try.prog 4 (.loop (loopB Try.f8 1)) (jkT a rs i 0) [.dead, .dead, .dead, .dead] (.exit 2) (jkU a rs i) [.dead, .dead, .dead, .dead] := by
 obtain ⟨body, last, rfl, hb, hE⟩ := he
 exact LoopRun.of_rounds (Nat.le_refl _) (jk_rounds a rs i a1 a64 i1 r1 fr tt ns n1 hg body last (by simp at hl; omega) hx hb hE (body.length + 1) 0 (by omega))
abbrev jmT (a rs : List D) (i : Int) : List D := [.undef, .undef, .undef, .lst .no 1 a, .undef, .lst .no 3 rs, .undef, .int .i64 i, .undef, .undef, .undef, .undef, .undef, .undef, .undef, .undef, .undef, .undef, .undef, .undef, .undef, .undef, .undef, .undef, .undef, .undef, .undef, .undef, .undef, .undef, .undef, .undef, .undef, .undef, .undef, .undef, .undef, .undef, .undef, .undef, .undef, .undef, .undef, .undef, .undef, .undef, .undef, .undef, .undef, .undef, .undef, .undef, .undef, .undef, .undef, .undef, .undef, .undef, .undef, .undef, .undef, .undef, .undef, .undef, .undef, .undef, .undef, .undef, .undef, .undef, .undef, .undef, .undef, .undef, .undef, .undef, .undef, .undef, .undef, .undef, .undef, .undef, .undef, .undef, .undef, .undef, .undef, .undef, .undef, .undef, .undef, .undef, .undef, .undef, .undef, .undef, .undef, .undef, .undef, .undef, .undef, .undef, .undef, .undef, .undef, .undef, .undef, .undef, .undef, .undef, .undef, .undef, .undef, .undef, .undef, .undef, .undef, .undef, .undef, .undef, .undef, .undef, .undef, .undef, .undef, .undef, .undef, .undef, .undef, .undef, .undef, .undef, .undef, .undef, .undef, .undef, .undef, .undef, .undef, .undef, .undef, .undef, .undef, .undef, .undef, .undef, .undef, .undef, .undef, .undef, .undef, .undef, .undef]
abbrev jmU : List D := [.undef, .undef, .undef, .undef, .undef, .undef, .undef, .undef, .undef, .undef, .undef, .undef, .undef, .undef, .undef, .undef, .undef, .undef, .undef, .undef, .undef, .undef, .undef, .undef, .undef, .undef, .undef, .undef, .undef, .undef, .undef, .undef, .undef, .undef, .undef, .undef, .undef, .undef, .undef, .undef, .undef, .undef, .undef, .undef, .undef, .undef, .undef, .undef, .undef, .undef, .undef, .undef, .undef, .undef, .undef, .undef, .undef, .undef, .undef, .undef, .undef, .undef, .undef, .undef, .undef, .undef, .undef, .undef, .undef, .undef, .undef, .undef, .undef, .undef, .undef, .undef, .undef, .undef, .undef, .undef, .undef, .undef, .undef, .undef, .undef, .undef, .undef, .undef, .undef, .undef, .undef, .undef, .undef, .undef, .undef, .undef, .undef, .undef, .undef, .undef, .undef, .undef, .undef, .undef, .undef, .undef, .undef, .undef, .undef, .undef, .undef, .undef, .undef, .undef, .undef, .undef, .undef, .undef, .undef, .undef, .undef, .undef, .undef, .undef, .undef, .undef, .undef, .undef, .undef, .undef, .undef, .undef, .undef, .undef, .undef, .undef, .undef, .undef, .undef, .undef, .undef, .undef, .undef, .undef, .undef, .undef, .undef, .undef, .undef, .undef, .undef, .undef, .undef]
theorem nx_len {l : List InstS} {b : Nat} {r : RowS} (h : RowOk l b r) : r.nx.length ≤ 64 := by
 rw [h.nx]
 unfold nxR
 split
 ·unfold nxK
  split <;> split <;> simp
 ·simp
theorem jm_rounds (l : List InstS) (hp : OkP l) : ∀ (m i : Nat), i + m = (rowsP l).length →
  Rounds Try.prog (loopB Try.f8 0) 3 (jmT (lowM l) ((rowsP l).map RowS.d) i) [.dead, .dead, .dead] (.exit 0) jmU [.dead, .dead, .dead]
 | 0, i, hi => Rounds.last (jm_end (lowM l) ((rowsP l).map RowS.d) i (by rw [lowM_len]; omega)) (fun h => by cases h)
 | m + 1, i, hi => by
  have h64 := hp.le
  have hN := rowsP_len l
  have ih := jm_rounds l hp m (i + 1) (by omega)
  have hw : IntKind.i64.wrap ((i : Int) + 1) = ((i + 1 : Nat) : Int) := by rw [w_i64]; omega
  have hlt : i < (rowsP l).length := by omega
  obtain ⟨r, hg⟩ : ∃ r, (rowsP l)[i]? = some r := ⟨_, List.getElem?_eq_getElem hlt⟩
  have hr := rows_ok hg
  have f0 := hr.f0
  have ft := hr.ft
  have tl := hr.tl
  have hE := row_ends hp hr
  have hM := row_mays hp hr hlt
  have hsm := row_small hp hr
  have hrl := rowM_len l r
  have hir : ((rowM l r).map irOf).map IrS.d = rowM l r := rowM_ir l r
  have hgd : ((rowsP l).map RowS.d)[(i : Int).toNat]? = some (.agg [.int .i64 r.fr, .int .i64 r.to, nxD r.nx]) := by rw [Int.toNat_natCast, List.getElem?_map, hg]; rfl
  have hx : (lowM l)[(i : Int).toNat]? = some (.lst .no 13 (((rowM l r).map irOf).map IrS.d)) := by rw [hir, Int.toNat_natCast]; exact lowM_get l i r hg
  have a1 : (i : Int) < ((lowM l).length : Int) := by rw [lowM_len]; omega
  have a64 : ((lowM l).length : Int) ≤ 64 := by rw [lowM_len]; omega
  have i1 : (i : Int) < (((rowsP l).map RowS.d).length : Int) := by rw [List.length_map]; omega
  have r1 : (((rowsP l).map RowS.d).length : Int) ≤ 64 := by rw [List.length_map]; omega
  have hc : Ret Try.prog 31 [.lst .no 13 (((rowM l r).map irOf).map IrS.d)] (.tup [.int .i64 0, .int .i64 0]) := chk_n_ok _ (by rw [hir]; omega) (mays_ok hM) (by
   unfold badI
   rw [List.findIdx?_eq_none_iff]
   intro s hs
   simp [hM s hs])
  have hlen : 1 ≤ ((((rowM l r).map irOf).map IrS.d).length : Int) := by
   obtain ⟨body, last, e, _, _⟩ := hE
   rw [e]
   simp only [List.length_map, List.length_append, List.length_cons, List.length_nil]
   omega
  have := jm_row (lowM l) ((rowsP l).map RowS.d) i _ a1 a64 hx i1 r1 r.fr r.to f0 ft (by omega) (nxD r.nx) hgd hlen (by rw [hir]; omega) hc (jk_loop _ _ i a1 a64 i1 r1 r.fr r.to r.nx (nx_len hr) hgd _ (by simpa using hsm) hx hE)
  rw [hw] at this
  exact Rounds.more this ih
theorem jm_enter (l : List InstS) (hp : OkP l) : LoopRun Try.prog 3 (.loop (loopB Try.f8 0)) (jmT (lowM l) ((rowsP l).map RowS.d) 0) [.dead, .dead, .dead] (.exit 0) jmU [.dead, .dead, .dead] :=
 LoopRun.of_rounds (Nat.le_refl _) (jm_rounds l hp (rowsP l).length 0 (by omega))
end Go.Proofs.Ytcngafhpodeenaa

namespace Go.Proofs.Ytcngafhpodeenaa
open Go Go.Ev
theorem does_alu_ok (op width : Int) (byReg : Bool) (dst src imm : Int) (h : mayM 0 op width 0 byReg dst src 0 imm = true) :
  Ret Try.prog 37 [instD 0 op width 0 byReg dst src 0 imm] (.lst .no 13 (aluM op width byReg dst src imm)) := by
 obtain ⟨⟨_, _, _, _, _, _, i1, i2⟩, hf⟩ := may_forms h
 rcases hf with ⟨_, _, _, _, h8, ho, hw, _, _⟩ | ⟨h0, _⟩ | ⟨h0, _⟩ | ⟨h0, _⟩ | ⟨h0, _⟩ | ⟨h0, _⟩ | ⟨h0, _⟩
 ·rcases ho with rfl | rfl | rfl | rfl | rfl | rfl | rfl | rfl | rfl | rfl | rfl | rfl | rfl <;> rcases hw with rfl | rfl
  all_goals first
   | exact does_0_0_32_ok _ _ _ _ i1 i2
   | exact does_0_0_64_ok _ _ _ _ i1 i2
   | exact does_0_1_32_ok _ _ _ _ i1 i2
   | exact does_0_1_64_ok _ _ _ _ i1 i2
   | exact does_0_2_32_ok _ _ _ _ i1 i2
   | exact does_0_2_64_ok _ _ _ _ i1 i2
   | exact does_0_3_32_ok _ _ _ _ i1 i2
   | exact does_0_3_64_ok _ _ _ _ i1 i2
   | exact does_0_4_32_ok _ _ _ _ i1 i2
   | exact does_0_4_64_ok _ _ _ _ i1 i2
   | exact does_0_5_32_ok _ _ _ _ i1 i2
   | exact does_0_5_64_ok _ _ _ _ i1 i2
   | exact does_0_6_32_ok _ _ _ _ i1 i2
   | exact does_0_6_64_ok _ _ _ _ i1 i2
   | exact does_0_7_32_ok _ _ _ _ i1 i2
   | exact does_0_7_64_ok _ _ _ _ i1 i2
   | exact does_0_8_32_ok _ _ _ _ i1 i2 (h8 rfl)
   | exact does_0_8_64_ok _ _ _ _ i1 i2 (h8 rfl)
   | exact does_0_9_32_ok _ _ _ _ i1 i2
   | exact does_0_9_64_ok _ _ _ _ i1 i2
   | exact does_0_10_32_ok _ _ _ _ i1 i2
   | exact does_0_10_64_ok _ _ _ _ i1 i2
   | exact does_0_11_32_ok _ _ _ _ i1 i2
   | exact does_0_11_64_ok _ _ _ _ i1 i2
   | exact does_0_12_32_ok _ _ _ _ i1 i2
   | exact does_0_12_64_ok _ _ _ _ i1 i2
 all_goals exact absurd h0 (by decide)
end Go.Proofs.Ytcngafhpodeenaa

namespace Go.Proofs.Ytcngafhpodeenaa
open Go Go.Ev
set_option maxRecDepth 100000
set_option maxHeartbeats 8000000
theorem one_alu_ok (op width : Int) (byReg : Bool) (dst src imm : Int) (hm : mayM 0 op width 0 byReg dst src 0 imm = true)  : Ret Try.prog 33 ([instD 0 op width 0 byReg dst src 0 imm]) (.tup [.lst .no 13 (aluM op width byReg dst src imm), .int .i64 0]) := by
 have c0 := @instrMay_ok ((0 : Int)) (op) (width) ((0 : Int)) (byReg) (dst) (src) ((0 : Int)) (imm)
 have c1 := @does_alu_ok (op) (width) (byReg) (dst) (src) (imm) hm
 exact (Ret.of_eval (d := .tup [.lst .no 13 (aluM op width byReg dst src imm), .int .i64 0]) mixed Try.func33 (by kernel_rfl) [.ret _ _ _ c0, tC (eF (nt hm)), tC (eF (nt hm)), tC (eF (nt hm)), tC (nt hm), tT, tT, tT, tF, tF, .ret _ _ _ c1] (by kernel_rfl)).to (by simp [wk, wkL, wkO, ])
theorem wakes18_ok  : Ret Try.prog 12 ([]) (.bool true) := by
 have c0 := @one_alu_ok ((0 : Int)) ((64 : Int)) (false) ((1 : Int)) ((0 : Int)) ((5 : Int)) (rfl : true = true)
 exact (Ret.of_eval (d := .bool true) mixed Try.func12 (by kernel_rfl) ([.ret _ _ _ c0, tT, tT, tT, .inl, tF, .go 64, tT, tT, .get ([(irD 1 0 0 0 0 0 0 0 0 1 0 0 0), (irD 0 9 64 0 0 0 0 5 0 0 0 0 0), (irD 2 0 0 0 0 0 0 0 0 1 0 0 0)]) 0 ((irD 1 0 0 0 0 0 0 0 0 1 0 0 0)) rfl, tT, .get ([(irD 1 0 0 0 0 0 0 0 0 1 0 0 0), (irD 0 9 64 0 0 0 0 5 0 0 0 0 0), (irD 2 0 0 0 0 0 0 0 0 1 0 0 0)]) 0 ((irD 1 0 0 0 0 0 0 0 0 1 0 0 0)) rfl, .flat _ _ flat_Ir, tF, tT, tT] ++ [.get ([(irD 1 0 0 0 0 0 0 0 0 1 0 0 0), (irD 0 9 64 0 0 0 0 5 0 0 0 0 0), (irD 2 0 0 0 0 0 0 0 0 1 0 0 0)]) 1 ((irD 0 9 64 0 0 0 0 5 0 0 0 0 0)) rfl, tT, .get ([(irD 1 0 0 0 0 0 0 0 0 1 0 0 0), (irD 0 9 64 0 0 0 0 5 0 0 0 0 0), (irD 2 0 0 0 0 0 0 0 0 1 0 0 0)]) 1 ((irD 0 9 64 0 0 0 0 5 0 0 0 0 0)) rfl, .flat _ _ flat_Ir, tF, tT, tT, .get ([(irD 1 0 0 0 0 0 0 0 0 1 0 0 0), (irD 0 9 64 0 0 0 0 5 0 0 0 0 0), (irD 2 0 0 0 0 0 0 0 0 1 0 0 0)]) 2 ((irD 2 0 0 0 0 0 0 0 0 1 0 0 0)) rfl, tT, .get ([(irD 1 0 0 0 0 0 0 0 0 1 0 0 0), (irD 0 9 64 0 0 0 0 5 0 0 0 0 0), (irD 2 0 0 0 0 0 0 0 0 1 0 0 0)]) 2 ((irD 2 0 0 0 0 0 0 0 0 1 0 0 0)) rfl, .flat _ _ flat_Ir, tF, tF, tT]) (by kernel_rfl)).to (by simp [wk])
end Go.Proofs.Ytcngafhpodeenaa

namespace Go.Proofs.Ytcngafhpodeenaa
open Go Go.Ev
set_option maxRecDepth 100000
set_option maxHeartbeats 8000000
theorem lmay_big_ok (ctx : Int) (l : List InstS) (h : 100 < ((isd l).length : Int))  : Ret Try.prog 8 ([.agg [.int .i64 ctx, .lst .no 9 (isd l)]]) (.bool true) := by
 have c0 := @wakes18_ok
 exact (Ret.of_eval (d := .bool true) mixed Try.func8 (by kernel_rfl) [tC (ltL 100 (decide_eq_false (by omega : ¬ (↑(List.length (isd l)) : Int) < 101))), .ret _ _ _ c0] (by kernel_rfl)).to (by simp [wk, wkL, wkO])
theorem lmay_no_ok (ctx : Int) (l : List InstS) (h100 : l.length ≤ 100) (h1 : ((isd l).length : Int) ≤ 100) (he : ((checkM ctx l).2 == 0) = false)  : Ret Try.prog 8 ([.agg [.int .i64 ctx, .lst .no 9 (isd l)]]) (.bool true) := by
 have c0 := @lower_no_ok (ctx) (l) h100 he
 have c1 := @rbrun_no_ok (ctx) (l) h100 he
 have c2 := @wakes18_ok
 exact (Ret.of_eval (d := .bool true) mixed Try.func8 (by kernel_rfl) [tC (ltL 100 (decide_eq_true (Int.lt_add_one_of_le h1))), .ret _ _ _ c0, .ret _ _ _ c1, tC (eF (nt (beq_self_eq_true (Prod.snd (checkM ctx l))))), tC (eF (nt (beq_self_eq_true (Prod.snd (checkM ctx l))))), tC (eF (nt (beq_self_eq_true (Prod.snd (checkM ctx l))))), tC (eF (nt (beq_self_eq_true (Prod.snd (checkM ctx l))))), tC (eF (nt (beq_self_eq_true (Prod.snd (checkM ctx l))))), tC (nt (beq_self_eq_true (Prod.snd (checkM ctx l)))), tF, .go 64, tF, .ret _ _ _ c2] (by kernel_rfl)).to (by simp [wk, wkL, wkO])
theorem lmay_yes_ok (ctx : Int) (l : List InstS) (h100 : l.length ≤ 100) (h1 : ((isd l).length : Int) ≤ 100) (hp : OkP l) (he : (checkM ctx l).2 = 0) (hN : ((lowM l).length : Int) = ((rowsP l).map RowS.d).length)  : Ret Try.prog 8 ([.agg [.int .i64 ctx, .lst .no 9 (isd l)]]) (.bool true) := by
 have c0 := @lower_ok (ctx) (l) h100 he
 have c1 := @rblocks_ok (ctx) (l) h100 he
 have c2 := @jm_enter (l) hp
 have c3 := @wakes18_ok
 exact (Ret.of_eval (d := .bool true) mixed Try.func8 (by kernel_rfl) [tC (ltL 100 (decide_eq_true (Int.lt_add_one_of_le h1))), .ret _ _ _ c0, .ret _ _ _ c1, tT, tT, tT, tT, tT, tF, tC (nt (by ((try simp only [List.length_append, List.length_cons, List.length_nil, List.length_set, List.length_replicate, List.length_map, w_i8, w_u8, w_i64, w_u64, decide_eq_true_eq, decide_eq_false_iff_not, beq_iff_eq, bne_iff_ne, beq_eq_false_iff_ne, bne_eq_false_iff_eq, Bool.not_eq_true', Bool.not_eq_false', Bool.and_eq_true, Bool.or_eq_true, and_true, true_and, eq_self] at *); (try unfold big at *); omega) : ((↑(List.length (lowM l)) : Int) == (↑(List.length (List.map RowS.d (rowsP l))) : Int)) = true)), .head ⟨[3, 5, 7], [], []⟩ _ _ _ _ _ _ _ c2, .ret _ _ _ c3] (by kernel_rfl)).to (by simp [wk, wkL, wkO])
end Go.Proofs.Ytcngafhpodeenaa

namespace Go.Proofs.Ytcngafhpodeenaa
open Go Go.Ev
theorem lmay_any (ctx : Int) (l : List InstS) : Ret Try.prog 8 [.agg [.int .i64 ctx, .lst .no 9 (isd l)]] (.bool true) := by
 by_cases h : l.length ≤ 100
 ·have h1 : ((isd l).length : Int) ≤ 100 := by rw [isd_len]; omega
  by_cases he : (checkM ctx l).2 = 0
  ·exact lmay_yes_ok ctx l h h1 (check_OkP he) he (by rw [lowM_len, List.length_map])
  ·exact lmay_no_ok ctx l h h1 (by simpa using he)
 ·exact lmay_big_ok ctx l (by rw [isd_len]; omega)
end Go.Proofs.Ytcngafhpodeenaa
