/- Contracts and plain laws that a statement's proof leans on (texts merged: MdV, MdR, MdQ). -/
import Derived.Test.YtojgmjfcfpclbaaK09
import Derived.Test.YtojgmjfcfpclbaaK14
import Derived.Test.YtojgmjfcfpclbaaK16
set_option linter.unusedVariables false
set_option linter.unusedSimpArgs false
namespace Go.Ev
open Go
def irK : List LK := [.int .i8, .int .i8, .int .i8, .int .i8, .int .i8, .int .i8, .int .i64, .int .i64, .int .i8, .int .i8, .int .i8, .int .i64, .int .i64]
theorem has8_ {n : Int} (h : IntKind.i8.has n) : -128 ≤ n ∧ n ≤ 127 := by
  simp [IntKind.has, IntKind.min, IntKind.max, IntKind.signed, IntKind.bits] at h
  omega
theorem ir_of {ds : List D} (h : okL irK ds) : (irOf (.agg ds)).d = .agg ds ∧ (irOf (.agg ds)).ok := by
  simp only [irK, okL] at h
  obtain ⟨a1, _, rfl, h1, a2, _, rfl, h2, a3, _, rfl, h3, a4, _, rfl, h4, a5, _, rfl, h5, a6, _, rfl, h6, a7, _, rfl, h7, a8, _, rfl, h8, a9, _, rfl, h9, a10, _, rfl, h10, a11, _, rfl, h11, a12, _, rfl, h12, a13, _, rfl, h13, rfl⟩ := h
  have k1 := has8_ h1
  have k2 := has8_ h2
  have k9 := has8_ h9
  have k10 := has8_ h10
  have k11 := has8_ h11
  exact ⟨rfl, k1.1, k1.2, k2.2, k9.2, k11.2, k10.1, k10.2⟩
theorem irs_of : ∀ (xs : List (List D)), (∀ ds ∈ xs, okL irK ds) → ∃ l : List IrS, xs.map .agg = l.map IrS.d ∧ AllOk l ∧ l.length = xs.length
  | [], _ => ⟨[], rfl, fun s hs => (by simp at hs), rfl⟩
  | ds :: r, h => by
    obtain ⟨l, e, ho, hl⟩ := irs_of r (fun d hd => h d (List.mem_cons_of_mem _ hd))
    obtain ⟨e1, o1⟩ := ir_of (h ds (List.mem_cons_self ..))
    refine ⟨irOf (.agg ds) :: l, by rw [List.map_cons, List.map_cons, e, e1], fun s hs => ?_, by simp [hl]⟩
    rcases List.mem_cons.mp hs with rfl | hs
    · exact o1
    · exact ho s hs
end Go.Ev

namespace Go.Ev
open Go
set_option maxRecDepth 10000
abbrev takeS (p r : Int) : IrS := ⟨1, 0, 0, 0, 0, 0, 0, 0, 0, r, p, 0, 0⟩
abbrev giveS (r p : Int) : IrS := ⟨2, 0, 0, 0, 0, 0, 0, 0, 0, r, p, 0, 0⟩
abbrev xS (op w dst src imm cc : Int) : IrS := ⟨0, op, w, dst, src, 0, 0, imm, cc, 0, 0, 0, 0⟩
theorem run_take {p i : Int} {t : List IrS} {r : RgS} {m : MachS} : runI (takeS p i :: t) r m = runI t r (m.put p (r.get i)) := runI_take rfl
theorem run_x {op w dst src imm cc : Int} {t : List IrS} {r : RgS} {m m' : MachS} (hs : stopsI 0 op = false) (hm : mayX op w dst src 0 0 imm cc = true)
    (hd : doS (m.at (u64 (m.pc + u64 (XS.len ⟨op, w, dst, src, 0, 0, imm, cc⟩)))) ⟨op, w, dst, src, 0, 0, imm, cc⟩ 0 = (m', 0)) : runI (xS op w dst src imm cc :: t) r m = runI t r (m'.at 0) := by
  have e : execS m (xS op w dst src imm cc).x 0 = (m', 0) := by
    rw [execS_may (x := (xS op w dst src imm cc).x) hm]
    exact hd
  have h := runI_x (s := xS op w dst src imm cc) (t := t) (r := r) (m := m) hs (show (0 : Int) ≠ 1 by decide) (show (0 : Int) ≠ 2 by decide) (by rw [e])
  rw [h, e]
def Gives (l : List IrS) (r : RgS) (d v : Int) : Prop := ∀ m, ∃ m', runI l r m = (r.put d v, m', 0, 0)
theorem and_self {x : Int} (h : inU x) : and64u x x = x := by
  unfold and64u
  rw [BitVec.and_self, toNat_ofInt]
  unfold u64 inU at *
  rw [w_u64]
  rw [show ((2 ^ 64 : Nat) : Int) = 18446744073709551616 from rfl]
  omega
end Go.Ev

namespace Go.Ev
open Go
set_option maxRecDepth 10000
def Clean (m : MachS) : Prop := m.q3 = 0 ∧ m.q4 = 0 ∧ m.q5 = 0 ∧ m.q6 = 0 ∧ m.q7 = 0 ∧ m.q8 = 0 ∧ m.q9 = 0 ∧ m.q10 = 0 ∧ m.q12 = 0 ∧ m.q13 = 0 ∧ m.q14 = 0 ∧ m.q15 = 0 ∧ m.pc = 0
theorem clean_zero : Clean .zero := by unfold Clean MachS.zero; simp
theorem scr_cases {i : Int} (h : scrM i = true) : i = 0 ∨ i = 1 ∨ i = 2 ∨ i = 11 := by simpa [scrM] using h
theorem clean_put {m : MachS} {i v : Int} (h : Clean m) (hs : scrM i = true) : Clean (m.put i v) := by
  rcases scr_cases hs with rfl | rfl | rfl | rfl <;> exact h
theorem own_bit {N k : Int} (h : (andNot64 N 2055 == 0) = true) (k0 : 0 ≤ k) (k1 : k ≤ 15) (hb : bitOf N k = 1) : scrM k = true := by
  rw [beq_iff_eq] at h
  have e := ofInt_andNot N 2055
  rw [h] at e
  have e2 := congrArg (fun b : BitVec 64 => b.getLsbD k.toNat) e
  simp only [BitVec.getLsbD_and, BitVec.getLsbD_not] at e2
  rw [bitOf_lsb k0 k1] at hb
  have hN : (BitVec.ofInt 64 N).getLsbD k.toNat = true := by
    cases hc : (BitVec.ofInt 64 N).getLsbD k.toNat
    · rw [hc] at hb; exact absurd hb (by decide)
    · rfl
  rw [hN] at e2
  have e3 : (BitVec.ofInt 64 2055).getLsbD k.toNat = true := by
    have h0 : (BitVec.ofInt 64 0).getLsbD k.toNat = false := by simp
    rw [h0] at e2
    have hk : k.toNat < 64 := by omega
    simpa [hk] using e2
  have key : ∀ k : Int, 0 ≤ k → k ≤ 15 → (BitVec.ofInt 64 2055).getLsbD k.toNat = true → scrM k = true := by
    refine cases16 ?_ ?_ ?_ ?_ ?_ ?_ ?_ ?_ ?_ ?_ ?_ ?_ ?_ ?_ ?_ ?_ <;> decide
  exact key k k0 k1 e3
theorem own_dst {op w dst src base disp imm cc : Int} (hm : mayX op w dst src base disp imm cc = true) (ho : ownM op w dst src base disp imm cc = true) (hw : writesX op dst = sh8 dst) : scrM dst = true := by
  obtain ⟨⟨d0, d1, _⟩, _⟩ := mayX_parts hm
  refine own_bit ho d0 d1 ?_
  unfold namesM
  rw [bitOf_or d0 d1, writes_may hm, hw, bitOf_sh8 d0 d1 d0 d1, if_pos rfl, if_pos (.inr rfl)]
theorem doS_form {m m' : MachS} {op w dst src base disp imm cc : Int} (hsh : shapeM op ≠ 0) (ho : op < 28) (h6 : op ≠ 26) (h7 : op ≠ 27) (h : doS m ⟨op, w, dst, src, base, disp, imm, cc⟩ 0 = (m', 0)) :
    (writesX op dst = sh8 dst ∧ ∃ k c z n o v, m' = (m.flags k c z n o).put dst v) ∨ (∃ k c z n o, m' = m.flags k c z n o) ∨ (∃ k c z n o x y, m' = ({ m with q0 := x, q2 := y } : MachS).flags k c z n o) := by
  have hf : ∀ (m0 : MachS) (s w a b v : Int), ∃ k c z n o, flagS m0 s w a b v = m0.flags k c z n o := by
    intro m0 s w a b v
    unfold flagS
    split <;> exact ⟨_, _, _, _, _, rfl⟩
  have same : m.flags m.fk m.fc m.fz m.fs m.fo = m := rfl
  rcases shape_ops hsh with rfl | rfl | rfl | rfl | rfl | rfl | rfl | rfl | rfl | rfl | rfl | rfl | rfl | rfl | rfl | rfl | rfl | rfl | rfl | rfl | rfl | rfl | rfl | rfl | rfl | rfl | rfl | rfl | rfl | rfl | rfl | rfl
  · exact .inl ⟨rfl, m.fk, m.fc, m.fz, m.fs, m.fo, _, (Prod.mk.inj h).1.symm⟩
  · exact .inl ⟨rfl, m.fk, m.fc, m.fz, m.fs, m.fo, _, (Prod.mk.inj h).1.symm⟩
  · obtain ⟨k, c, z, n, o, e⟩ := hf m 0 w (rg m.rl dst) (secS m ⟨2, w, dst, src, base, disp, imm, cc⟩ 0) (doM 0 w (rg m.rl dst) (secS m ⟨2, w, dst, src, base, disp, imm, cc⟩ 0))
    refine .inl ⟨rfl, k, c, z, n, o, _, (Prod.mk.inj h).1.symm.trans (congrArg (fun q : MachS => q.put dst _) e)⟩
  · obtain ⟨k, c, z, n, o, e⟩ := hf m 4 w (rg m.rl dst) (secS m ⟨3, w, dst, src, base, disp, imm, cc⟩ 0) (doM 4 w (rg m.rl dst) (secS m ⟨3, w, dst, src, base, disp, imm, cc⟩ 0))
    refine .inl ⟨rfl, k, c, z, n, o, _, (Prod.mk.inj h).1.symm.trans (congrArg (fun q : MachS => q.put dst _) e)⟩
  · obtain ⟨k, c, z, n, o, e⟩ := hf m 5 w (rg m.rl dst) (secS m ⟨4, w, dst, src, base, disp, imm, cc⟩ 0) (doM 5 w (rg m.rl dst) (secS m ⟨4, w, dst, src, base, disp, imm, cc⟩ 0))
    refine .inl ⟨rfl, k, c, z, n, o, _, (Prod.mk.inj h).1.symm.trans (congrArg (fun q : MachS => q.put dst _) e)⟩
  · obtain ⟨k, c, z, n, o, e⟩ := hf m 1 w (rg m.rl dst) (secS m ⟨5, w, dst, src, base, disp, imm, cc⟩ 0) (doM 1 w (rg m.rl dst) (secS m ⟨5, w, dst, src, base, disp, imm, cc⟩ 0))
    refine .inl ⟨rfl, k, c, z, n, o, _, (Prod.mk.inj h).1.symm.trans (congrArg (fun q : MachS => q.put dst _) e)⟩
  · obtain ⟨k, c, z, n, o, e⟩ := hf m 10 w (rg m.rl dst) (secS m ⟨6, w, dst, src, base, disp, imm, cc⟩ 0) (doM 10 w (rg m.rl dst) (secS m ⟨6, w, dst, src, base, disp, imm, cc⟩ 0))
    refine .inl ⟨rfl, k, c, z, n, o, _, (Prod.mk.inj h).1.symm.trans (congrArg (fun q : MachS => q.put dst _) e)⟩
  · obtain ⟨k, c, z, n, o, e⟩ := hf m 1 w (rg m.rl dst) _ _
    exact .inr (.inl ⟨k, c, z, n, o, ((Prod.mk.inj h).1.symm.trans e)⟩)
  · obtain ⟨k, c, z, n, o, e⟩ := hf m 5 w (rg m.rl dst) _ _
    exact .inr (.inl ⟨k, c, z, n, o, ((Prod.mk.inj h).1.symm.trans e)⟩)
  · obtain ⟨k, c, z, n, o, e⟩ := hf m 0 w (rg m.rl dst) (secS m ⟨9, w, dst, src, base, disp, imm, cc⟩ 1) (doM 0 w (rg m.rl dst) (secS m ⟨9, w, dst, src, base, disp, imm, cc⟩ 1))
    refine .inl ⟨rfl, k, c, z, n, o, _, (Prod.mk.inj h).1.symm.trans (congrArg (fun q : MachS => q.put dst _) e)⟩
  · obtain ⟨k, c, z, n, o, e⟩ := hf m 4 w (rg m.rl dst) (secS m ⟨10, w, dst, src, base, disp, imm, cc⟩ 1) (doM 4 w (rg m.rl dst) (secS m ⟨10, w, dst, src, base, disp, imm, cc⟩ 1))
    refine .inl ⟨rfl, k, c, z, n, o, _, (Prod.mk.inj h).1.symm.trans (congrArg (fun q : MachS => q.put dst _) e)⟩
  · obtain ⟨k, c, z, n, o, e⟩ := hf m 5 w (rg m.rl dst) (secS m ⟨11, w, dst, src, base, disp, imm, cc⟩ 1) (doM 5 w (rg m.rl dst) (secS m ⟨11, w, dst, src, base, disp, imm, cc⟩ 1))
    refine .inl ⟨rfl, k, c, z, n, o, _, (Prod.mk.inj h).1.symm.trans (congrArg (fun q : MachS => q.put dst _) e)⟩
  · obtain ⟨k, c, z, n, o, e⟩ := hf m 1 w (rg m.rl dst) (secS m ⟨12, w, dst, src, base, disp, imm, cc⟩ 1) (doM 1 w (rg m.rl dst) (secS m ⟨12, w, dst, src, base, disp, imm, cc⟩ 1))
    refine .inl ⟨rfl, k, c, z, n, o, _, (Prod.mk.inj h).1.symm.trans (congrArg (fun q : MachS => q.put dst _) e)⟩
  · obtain ⟨k, c, z, n, o, e⟩ := hf m 10 w (rg m.rl dst) (secS m ⟨13, w, dst, src, base, disp, imm, cc⟩ 1) (doM 10 w (rg m.rl dst) (secS m ⟨13, w, dst, src, base, disp, imm, cc⟩ 1))
    refine .inl ⟨rfl, k, c, z, n, o, _, (Prod.mk.inj h).1.symm.trans (congrArg (fun q : MachS => q.put dst _) e)⟩
  · obtain ⟨k, c, z, n, o, e⟩ := hf m 1 w (rg m.rl dst) _ _
    exact .inr (.inl ⟨k, c, z, n, o, ((Prod.mk.inj h).1.symm.trans e)⟩)
  · obtain ⟨k, c, z, n, o, e⟩ := hf m 5 w (rg m.rl dst) _ _
    exact .inr (.inl ⟨k, c, z, n, o, ((Prod.mk.inj h).1.symm.trans e)⟩)
  · obtain ⟨k, c, z, n, o, e⟩ := hf m 2 w (rg m.rl dst) (secS m ⟨16, w, dst, src, base, disp, imm, cc⟩ 0) (doM 2 w (rg m.rl dst) (secS m ⟨16, w, dst, src, base, disp, imm, cc⟩ 0))
    refine .inl ⟨rfl, k, c, z, n, o, _, (Prod.mk.inj h).1.symm.trans (congrArg (fun q : MachS => q.put dst _) e)⟩
  · obtain ⟨k, c, z, n, o, e⟩ := hf m 6 w (rg m.rl dst) (secS m ⟨17, w, dst, src, base, disp, imm, cc⟩ 1) (doM 6 w (rg m.rl dst) (secS m ⟨17, w, dst, src, base, disp, imm, cc⟩ 1))
    refine .inl ⟨rfl, k, c, z, n, o, _, (Prod.mk.inj h).1.symm.trans (congrArg (fun q : MachS => q.put dst _) e)⟩
  · obtain ⟨k, c, z, n, o, e⟩ := hf m 7 w (rg m.rl dst) (secS m ⟨18, w, dst, src, base, disp, imm, cc⟩ 1) (doM 7 w (rg m.rl dst) (secS m ⟨18, w, dst, src, base, disp, imm, cc⟩ 1))
    refine .inl ⟨rfl, k, c, z, n, o, _, (Prod.mk.inj h).1.symm.trans (congrArg (fun q : MachS => q.put dst _) e)⟩
  · obtain ⟨k, c, z, n, o, e⟩ := hf m 12 w (rg m.rl dst) (secS m ⟨19, w, dst, src, base, disp, imm, cc⟩ 1) (doM 12 w (rg m.rl dst) (secS m ⟨19, w, dst, src, base, disp, imm, cc⟩ 1))
    refine .inl ⟨rfl, k, c, z, n, o, _, (Prod.mk.inj h).1.symm.trans (congrArg (fun q : MachS => q.put dst _) e)⟩
  · obtain ⟨k, c, z, n, o, e⟩ := hf m 6 w (rg m.rl dst) (secS m ⟨20, w, dst, src, base, disp, imm, cc⟩ 2) (doM 6 w (rg m.rl dst) (secS m ⟨20, w, dst, src, base, disp, imm, cc⟩ 2))
    refine .inl ⟨rfl, k, c, z, n, o, _, (Prod.mk.inj h).1.symm.trans (congrArg (fun q : MachS => q.put dst _) e)⟩
  · obtain ⟨k, c, z, n, o, e⟩ := hf m 7 w (rg m.rl dst) (secS m ⟨21, w, dst, src, base, disp, imm, cc⟩ 2) (doM 7 w (rg m.rl dst) (secS m ⟨21, w, dst, src, base, disp, imm, cc⟩ 2))
    refine .inl ⟨rfl, k, c, z, n, o, _, (Prod.mk.inj h).1.symm.trans (congrArg (fun q : MachS => q.put dst _) e)⟩
  · obtain ⟨k, c, z, n, o, e⟩ := hf m 12 w (rg m.rl dst) (secS m ⟨22, w, dst, src, base, disp, imm, cc⟩ 2) (doM 12 w (rg m.rl dst) (secS m ⟨22, w, dst, src, base, disp, imm, cc⟩ 2))
    refine .inl ⟨rfl, k, c, z, n, o, _, (Prod.mk.inj h).1.symm.trans (congrArg (fun q : MachS => q.put dst _) e)⟩
  · obtain ⟨k, c, z, n, o, e⟩ := hf m 8 w (rg m.rl dst) (secS m ⟨23, w, dst, src, base, disp, imm, cc⟩ 0) (doM 8 w (rg m.rl dst) (secS m ⟨23, w, dst, src, base, disp, imm, cc⟩ 0))
    refine .inl ⟨rfl, k, c, z, n, o, _, (Prod.mk.inj h).1.symm.trans (congrArg (fun q : MachS => q.put dst _) e)⟩
  · replace h : (match (cutM (rg m.rl dst) w == 0 : Bool) with | true => ((MachS.zero, 20) : MachS × Int) | false => match (cutM m.q2 w == 0 : Bool) with | false => (.zero, 20) | true => (({ m with q0 := u64 ((cutM m.q0 w).tdiv (cutM (rg m.rl dst) w)), q2 := (cutM m.q0 w).tmod (cutM (rg m.rl dst) w) }).flags false false false false false, 0)) = (m', 0) := h
    cases h1 : cutM (rg m.rl dst) w == 0
    · cases h2 : cutM m.q2 w == 0
      · rw [h1, h2] at h; exact absurd (Prod.mk.inj h).2 (by decide)
      · rw [h1, h2] at h; exact .inr (.inr ⟨_, _, _, _, _, _, _, (Prod.mk.inj h).1.symm⟩)
    · rw [h1] at h; exact absurd (Prod.mk.inj h).2 (by decide)
  · replace h : (match m.fk with | false => ((MachS.zero, 20) : MachS × Int) | true => (m.put dst (cutM (if holdM cc m.fc m.fz m.fs m.fo then rg m.rl src else rg m.rl dst) w), 0)) = (m', 0) := h
    cases hk : m.fk
    · rw [hk] at h; exact absurd (Prod.mk.inj h).2 (by decide)
    · rw [hk] at h; exact .inl ⟨rfl, m.fk, m.fc, m.fz, m.fs, m.fo, _, (Prod.mk.inj h).1.symm⟩
  · omega
  · omega
  · omega
  · omega
  · omega
  · omega
theorem clean_x {s : IrS} {m : MachS} (hm : s.may = true) (hs : s.stops = false) (h1 : s.kind ≠ 1) (h2 : s.kind ≠ 2) (hc : Clean m) (he : (execS m s.x 0).2 = 0) : Clean ((execS m s.x 0).1.at 0) := by
  obtain ⟨kind, op, w, dst, src, base, disp, imm, cc, reg, phys, num, to⟩ := s
  have hk : kind = 0 := by
    replace hs : stopsI kind op = false := hs
    unfold stopsI at hs
    rw [decide_eq_false_iff_not] at hs
    replace hm : mayI kind op w dst src base disp imm cc reg phys num to = true := hm
    unfold mayI at hm
    refine Classical.byContradiction fun hk => ?_
    replace h1 : kind ≠ 1 := h1
    replace h2 : kind ≠ 2 := h2
    rw [if_neg hk, if_neg (by omega), if_neg (by omega), if_neg (by omega), if_neg (by omega), if_neg (by omega)] at hm
    cases hm
  subst hk
  replace hm : mayI 0 op w dst src base disp imm cc reg phys num to = true := hm
  unfold mayI at hm
  rw [if_pos rfl] at hm
  simp only [Bool.and_eq_true, decide_eq_true_eq] at hm
  obtain ⟨⟨⟨hx, h28⟩, hown⟩, _⟩ := hm
  have h67 : op ≠ 26 ∧ op ≠ 27 := by
    replace hs : stopsI 0 op = false := hs
    unfold stopsI at hs
    rw [decide_eq_false_iff_not] at hs
    omega
  have hsh : shapeM op ≠ 0 := by
    intro e
    have hs := (mayX_parts hx).2
    rw [e] at hs
    simp [mayS] at hs
  have hx' : XS.may ⟨op, w, dst, src, base, disp, imm, cc⟩ = true := hx
  show Clean ((execS m ⟨op, w, dst, src, base, disp, imm, cc⟩ 0).1.at 0)
  replace he : (execS m ⟨op, w, dst, src, base, disp, imm, cc⟩ 0).2 = 0 := he
  rw [execS_may hx'] at he ⊢
  generalize u64 (m.pc + _) = p at he ⊢
  obtain ⟨m', e, hd⟩ : ∃ m' e, doS (m.at p) ⟨op, w, dst, src, base, disp, imm, cc⟩ 0 = (m', e) := ⟨_, _, rfl⟩
  replace he : (doS (m.at p) ⟨op, w, dst, src, base, disp, imm, cc⟩ 0).2 = 0 := he
  show Clean ((doS (m.at p) ⟨op, w, dst, src, base, disp, imm, cc⟩ 0).1.at 0)
  rw [hd] at he ⊢
  replace he : e = 0 := he
  subst he
  have hc' : Clean ((m.at p).at 0) := by
    obtain ⟨a3, a4, a5, a6, a7, a8, a9, a10, a12, a13, a14, a15, ap⟩ := hc
    exact ⟨a3, a4, a5, a6, a7, a8, a9, a10, a12, a13, a14, a15, rfl⟩
  rcases doS_form hsh h28 h67.1 h67.2 hd with ⟨hw, k, c, z, n, o, v, rfl⟩ | ⟨k, c, z, n, o, rfl⟩ | ⟨k, c, z, n, o, x, y, rfl⟩
  · exact clean_put (m := ((m.at p).at 0).flags k c z n o) hc' (own_dst hx hown hw)
  · exact hc'
  · exact hc'
theorem run_clean : ∀ (l : List IrS) (r : RgS) (m : MachS), (∀ s ∈ l, s.may = true) → Clean m → Clean (runI l r m).2.1
  | [], r, m, _, h => h
  | s :: t, r, m, hm, h => by
    have hm' := fun s' hs' => hm s' (List.mem_cons_of_mem _ hs')
    cases hs : s.stops
    · by_cases h1 : s.kind = 1
      · rw [runI_take h1]
        exact run_clean t _ _ hm' (clean_put h (may_reg (hm s (List.mem_cons_self ..)) (.inl h1)).2.2)
      · by_cases h2 : s.kind = 2
        · rw [runI_give h2]
          exact run_clean t _ _ hm' h
        · by_cases hx : (execS m s.x 0).2 = 0
          · rw [runI_x hs h1 h2 hx]
            exact run_clean t _ _ hm' (clean_x (hm s (List.mem_cons_self ..)) hs h1 h2 h hx)
          · rw [runI_xe hs h1 h2 hx]
            exact clean_zero
    · rw [runI_stop hs]
      exact h
def anew : List IrS := [takeS 0 0, takeS 1 1, takeS 2 2, takeS 11 3]
def anewC : List IrS := anew ++ [xS 14 64 0 0 0 0]
theorem run_anew (l : List IrS) (r : RgS) (m : MachS) : runI (anew ++ l) r m = runI l r ((((m.put 0 r.r0).put 1 r.r1).put 2 r.r2).put 11 r.r3) := by
  show runI (takeS 0 0 :: takeS 1 1 :: takeS 2 2 :: takeS 11 3 :: l) r m = _
  rw [run_take, run_take, run_take, run_take]
  rfl
theorem run_anewC {l : List IrS} {r : RgS} {m m' : MachS} (h : Clean m) (h' : Clean m') : runI (anewC ++ l) r m = runI (anewC ++ l) r m' := by
  unfold anewC
  rw [List.append_assoc, run_anew, run_anew]
  have e : ∀ {m : MachS}, Clean m → runI ([xS 14 64 0 0 0 0] ++ l) r ((((m.put 0 r.r0).put 1 r.r1).put 2 r.r2).put 11 r.r3) = runI l r (⟨r.r0, r.r1, r.r2, 0, 0, 0, 0, 0, 0, 0, 0, r.r3, 0, 0, 0, 0, true, subC 64 r.r0 0, cutM (u64 (r.r0 - 0)) 64 == 0, negM (u64 (r.r0 - 0)) 64, subO 64 r.r0 0, 0⟩) := by
    intro m h
    show runI (xS 14 64 0 0 0 0 :: l) r _ = _
    rw [run_x rfl rfl rfl]
    obtain ⟨q0, q1, q2, q3, q4, q5, q6, q7, q8, q9, q10, q11, q12, q13, q14, q15, fk, fc, fz, fs, fo, pc⟩ := m
    obtain ⟨rfl, rfl, rfl, rfl, rfl, rfl, rfl, rfl, rfl, rfl, rfl, rfl, rfl⟩ := h
    rfl
  rw [e h, e h']
theorem chk_anew : (chkI anew).2 = 0 := rfl
theorem len_anew : anew.length = 4 := rfl
theorem len_anewC : anewC.length = 5 := rfl
theorem doI_parts {l k : List IrS} {r : RgS} (he : (doI l r).2.2.2 = 0) (hi : (doI l r).2.2.1 = (l.length : Int)) :
    (doI (l ++ (anewC ++ k)) r).2.2.2 = (doI (anewC ++ k) (doI l r).1).2.2.2 ∧ ((doI (anewC ++ k) (doI l r).1).2.2.2 = 0 →
      (doI (l ++ (anewC ++ k)) r).1 = (doI (anewC ++ k) (doI l r).1).1 ∧ (doI (l ++ (anewC ++ k)) r).2.1 = (doI (anewC ++ k) (doI l r).1).2.1 ∧ (doI (l ++ (anewC ++ k)) r).2.2.1 = (doI (anewC ++ k) (doI l r).1).2.2.1 + (l.length : Int)) := by
  obtain ⟨hc, h2⟩ := doI_err he
  have hl := runI_left l r .zero
  rw [doI_ok hc h2] at hi ⊢
  have h0 : (runI l r .zero).2.2.1 = 0 := by
    replace hi : ((l.length - (runI l r .zero).2.2.1 : Nat) : Int) = (l.length : Int) := hi
    omega
  have hcl := run_clean l r .zero (chk_ok.mp hc) clean_zero
  obtain ⟨a, m, n, e, hr⟩ : ∃ a m n e, runI l r .zero = (a, m, n, e) := ⟨_, _, _, _, rfl⟩
  rw [hr] at h0 h2 hcl
  replace h0 : n = 0 := h0
  replace h2 : e = 0 := h2
  subst h0 h2
  have happ : runI (l ++ (anewC ++ k)) r .zero = runI (anewC ++ k) a .zero := by
    rw [runI_app hr]
    exact run_anewC hcl clean_zero
  rw [hr]
  show (doI (l ++ (anewC ++ k)) r).2.2.2 = (doI (anewC ++ k) a).2.2.2 ∧ ((doI (anewC ++ k) a).2.2.2 = 0 → (doI (l ++ (anewC ++ k)) r).1 = (doI (anewC ++ k) a).1 ∧ (doI (l ++ (anewC ++ k)) r).2.1 = (doI (anewC ++ k) a).2.1 ∧ (doI (l ++ (anewC ++ k)) r).2.2.1 = (doI (anewC ++ k) a).2.2.1 + (l.length : Int))
  by_cases hk : (chkI (anewC ++ k)).2 = 0
  · have hlk : (chkI (l ++ (anewC ++ k))).2 = 0 := chk_app.mpr ⟨hc, hk⟩
    by_cases h3 : (runI (anewC ++ k) a .zero).2.2.2 = 0
    · rw [doI_ok hk h3, doI_ok hlk (by rw [happ]; exact h3), happ]
      refine ⟨rfl, fun _ => ⟨rfl, rfl, ?_⟩⟩
      have := runI_left (anewC ++ k) a .zero
      simp only [List.length_append] at this ⊢
      omega
    · unfold doI
      simp only [if_pos hk, if_pos hlk, happ, if_neg h3]
      exact ⟨trivial, fun h => absurd h h3⟩
  · have hlk : ¬ (chkI (l ++ (anewC ++ k))).2 = 0 := fun h => hk (chk_app.mp h).2
    unfold doI
    simp only [if_neg hk, if_neg hlk]
    exact ⟨trivial, fun h => absurd h (by decide)⟩
theorem doI_one {x : XS} {r : RgS} {s : IrS} (hx : s.x = x) (hm : s.may = true) (hs : s.stops = false) (h0 : s.kind = 0) (M : MachS) (hM : M = ((((MachS.zero.put 0 r.r0).put 1 r.r1).put 2 r.r2).put 11 r.r3)) :
    (doI (anew ++ [s]) r).2.2.2 = (execS M x 0).2 ∧ ((execS M x 0).2 = 0 → (doI (anew ++ [s]) r).2.1 = (execS M x 0).1.at 0 ∧ (doI (anew ++ [s]) r).2.2.1 = 5) := by
  have hc : (chkI (anew ++ [s])).2 = 0 := by
    rw [chk_app]
    refine ⟨chk_anew, chk_ok.mpr ?_⟩
    intro s' hs'
    rw [List.mem_singleton] at hs'
    subst hs'
    exact hm
  have hr : runI (anew ++ [s]) r .zero = runI [s] r M := by rw [run_anew, hM]
  subst hx
  by_cases he : (execS M s.x 0).2 = 0
  · have h2 : runI [s] r M = (r, (execS M s.x 0).1.at 0, 0, 0) := by
      rw [runI_x hs (by omega) (by omega) he]
      rfl
    rw [doI_ok hc (by rw [hr, h2]), hr, h2]
    exact ⟨he.symm, fun _ => ⟨rfl, rfl⟩⟩
  · have h2 : runI [s] r M = (.zero, .zero, 1, (execS M s.x 0).2) := by
      rw [runI_xe hs (by omega) (by omega) he]
      rfl
    unfold doI
    simp only [if_pos hc, hr, h2, if_neg he]
    exact ⟨trivial, fun h => absurd h he⟩
theorem execM_zero {m : MachS} {x : XS} {ld : Int} (h : execE m x ld ≠ 0) : execM m x ld = .zero := by
  unfold execM
  unfold execE at h
  unfold execS at h ⊢
  cases hm : x.may
  · rfl
  · rw [hm] at h
    replace h : (doS (m.at (u64 (m.pc + u64 x.len))) x ld).2 ≠ 0 := h
    show (doS (m.at (u64 (m.pc + u64 x.len))) x ld).1 = .zero
    generalize m.at (u64 (m.pc + u64 x.len)) = M at h ⊢
    unfold doS at h ⊢
    repeat' split at h
    all_goals first
      | (exact absurd rfl h)
      | (simp_all; done)
end Go.Ev
