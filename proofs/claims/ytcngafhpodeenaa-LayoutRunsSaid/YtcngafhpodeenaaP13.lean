/- Contracts and plain laws that a statement's proof leans on (texts merged: LB12, LR12, LR13, LQ1, MdLh, LQ1A, LQ2, XR1, XR2a, XR2b). -/
import Derived.Test.YtcngafhpodeenaaP05
import Derived.Test.YtcngafhpodeenaaP08
import Derived.Test.YtcngafhpodeenaaP09
import Derived.Test.YtcngafhpodeenaaP10
import Derived.Test.YtcngafhpodeenaaP11
import Derived.Test.YtcngafhpodeenaaP12
set_option linter.unusedVariables false
set_option linter.unusedSimpArgs false
set_option maxRecDepth 100000
set_option maxHeartbeats 8000000
namespace Go.Proofs.Ytcngafhpodeenaa
open Go Go.Ev
theorem intsD_gt {a : List Int} {k : Nat} (h : k < a.length) : (intsD a)[k]? = some (.int .i64 a[k]) := by simp [intsD, h]
theorem cd_rounds (q : List Int) (fs : List PaS) (hm : fs.length ≤ 2000) (hmy : ∀ p ∈ fs, mayXS p.x = true) (av : List Int) : ∀ (j k : Nat), k + j = fs.length →
  Rounds Try.prog (loopB Try.f26 0) 6 (cdT (intsD q) (catM ((fs.take k).map PaS.x)) fs.length k) (ruS (paC fs) (intsD av)) (.exit 0) (cdU (intsD q) (catM (fs.map PaS.x)) fs.length) (ruS (paC fs) (intsD av))
 | 0, k, hk => by
  rw [List.take_of_length_le (by omega)]
  have hc := (catM_len (fs.map PaS.x)).2
  rw [List.length_map] at hc
  have := cd_end (catM (fs.map PaS.x)) (intsD q) (paC fs) (intsD av) fs.length k (paC_clean _) (intsD_clean _) hm (paC_demote _) (intsD_dem _) (by rw [len_bD]; omega) (by omega)
  rw [paC_demote, intsD_dem] at this
  exact Rounds.last this (fun h => by cases h)
 | j + 1, k, hk => by
  have hlt : k < fs.length := by omega
  have ih := cd_rounds q fs hm hmy av j (k + 1) (by omega)
  have hp := hmy _ (List.getElem_mem hlt)
  have hop : fs[k].x.op ≤ 127 := by
   have := may_op hp
   simp only [ops32, List.mem_cons, List.not_mem_nil, or_false] at this
   omega
  have hbt := bytes_any_ok fs[k].x.op fs[k].x.w fs[k].x.dst fs[k].x.src fs[k].x.base fs[k].x.disp fs[k].x.imm fs[k].x.cc hop
  have hp' : mayX fs[k].x.op fs[k].x.w fs[k].x.dst fs[k].x.src fs[k].x.base fs[k].x.disp fs[k].x.imm fs[k].x.cc = true := hp
  simp only [bytesL, bytesE, hp', if_true] at hbt
  have hsp : fs = fs.take k ++ fs[k] :: fs.drop (k + 1) := by rw [← List.drop_eq_getElem_cons hlt, List.take_append_drop]
  have hA := paC_gets (fs.take k) (fs.drop (k + 1)) fs[k] 10 (by decide)
  rw [← hsp, List.length_take, Nat.min_eq_left (by omega)] at hA
  have hc := (catM_len ((fs.take k).map PaS.x)).2
  rw [List.length_map, List.length_take] at hc
  have := cd_in (catM ((fs.take k).map PaS.x)) (intsD q) (paC fs) (intsD av) fs.length k (paC_clean _) (intsD_clean _) hm (paC_demote _) (intsD_dem _) (by rw [len_bD]; omega) hlt fs[k].x fs[k].j fs[k].to (bytesXS fs[k].x) hA (by rw [len_bD]; have := bytes_len fs[k].x; omega) hbt
  rw [paC_demote, intsD_dem, nxt (by omega), ← bD_append, ← catM_snoc] at this
  rw [List.take_succ_eq_append_getElem hlt, List.map_append] at ih
  exact Rounds.more this ih
theorem at_rounds (cs : List D) (q : List Int) (m : Nat) (hm : m ≤ 2000) (nb : Nat) (hq : BegOK q nb m) (hn : q.length ≤ 1000) (av : List Int) (hav : av.length = m + 1) : ∀ (j k : Nat), k + j = q.length →
  Rounds Try.prog (loopB Try.f26 1) 7 (atT cs (intsD q) ((q.take k).map fun b => atI av b.toNat) m (intsD q).length k) (ruA (intsD av)) (.exit 2) (atU cs (q.map fun b => atI av b.toNat)) ruE
 | 0, k, hk => by
  rw [List.take_of_length_le (by omega)]
  exact Rounds.last (at_end cs (intsD q) (intsD av) (q.map fun b => atI av b.toNat) m (intsD q).length k (intsD_clean _) hm (by rw [intsD_len]; exact hn) (intsD_dem _) (by rw [intsD_len, List.length_map]; omega) (by rw [intsD_len]; omega)) (fun h => by cases h)
 | j + 1, k, hk => by
  have hlt : k < q.length := by omega
  have ih := at_rounds cs q m hm nb hq hn av hav j (k + 1) (by omega)
  obtain ⟨b0, b1⟩ := hq.2 q[k] (List.getElem_mem hlt)
  obtain ⟨bg, hbg⟩ : ∃ bg : Nat, q[k] = (bg : Int) := ⟨q[k].toNat, by omega⟩
  have hbl : bg < av.length := by omega
  have := at_in cs (intsD q) (intsD av) ((q.take k).map fun b => atI av b.toNat) m (intsD q).length k (intsD_clean _) hm (by rw [intsD_len]; exact hn) (intsD_dem _) (by rw [intsD_len, List.length_map, List.length_take]; omega) (by rw [intsD_len]; exact hlt) bg av[bg] (by rw [intsD_gt hlt, hbg]) (by omega) (by rw [Nat.mul_one]; exact intsD_gt hbl)
  rw [intsD_dem, nxt (by omega), show intsD ((q.take k).map fun b => atI av b.toNat) ++ [D.int .i64 av[bg]] = intsD ((q.take (k + 1)).map fun b => atI av b.toNat) by
   rw [List.take_succ_eq_append_getElem hlt, List.map_append, intsD_snoc']
   congr 2
   simp only [List.map_cons, List.map_nil, hbg, Int.toNat_natCast]
   unfold atI
   rw [List.getD_eq_getElem?_getD, List.getElem?_eq_getElem hbl]
   rfl] at this
  exact Rounds.more this ih
theorem an_rounds (q : List Int) (hn : q.length ≤ 1000) (h0 : ∀ x ∈ q, x = 0) : ∀ (j k : Nat), k + j = q.length →
  Rounds Try.prog (loopB Try.f26 1) 4 (anT (intsD q) (q.take k) (intsD q).length k) [.dead, .dead, .box [.int .i64 0], .dead, .fam 0 1] (.exit 2) (anU q) [.dead, .dead, .dead, .dead, .fam 0 1]
 | 0, k, hk => by
  rw [List.take_of_length_le (by omega)]
  exact Rounds.last (an_end (intsD q) q (intsD q).length k (by rw [intsD_len]; exact hn) (by rw [intsD_len]; omega) (by rw [intsD_len]; omega)) (fun h => by cases h)
 | j + 1, k, hk => by
  have hlt : k < q.length := by omega
  have ih := an_rounds q hn h0 j (k + 1) (by omega)
  have := an_in (intsD q) (q.take k) (intsD q).length k (by rw [intsD_len]; exact hn) (by rw [intsD_len, List.length_take]; omega) (by rw [intsD_len]; exact hlt) (by rw [intsD_gt hlt, h0 _ (List.getElem_mem hlt)])
  rw [nxt (by omega), show intsD (q.take k) ++ [D.int .i64 0] = intsD (q.take (k + 1)) by
   rw [List.take_succ_eq_append_getElem hlt, ← intsD_snoc', h0 _ (List.getElem_mem hlt)]] at this
  exact Rounds.more this ih
def parF (pro : List XS) (l : List (List IrS)) : List PaS := preP pro l l.length
def begF (pro : List XS) (l : List (List IrS)) : List Int := preQ pro l l.length
def codeF (pro : List XS) (l : List (List IrS)) : List Int := catM ((finM (begF pro l) (parF pro l)).map PaS.x)
def startF (pro : List XS) (l : List (List IrS)) : List Int := (begF pro l).map fun b => atI (offF (begF pro l) (parF pro l)) b.toNat
def totF (pro : List XS) (l : List (List IrS)) : Int := atI (offF (begF pro l) (parF pro l)) (parF pro l).length
structure Good (pro : List XS) (l : List (List IrS)) : Prop where
  l1 : 1 ≤ l.length
  l64 : l.length ≤ 64
  pro : ∀ x ∈ pro, proB x = true
  blk : ∀ r ∈ l, goodB l r
def goodM (pro : List XS) (l : List (List IrS)) : Bool := decide (1 ≤ l.length ∧ l.length ≤ 64) && (pro.all proB && l.all fun r => r.all fun s => mayL s (l.length : Int))
theorem good_iff {pro : List XS} {l : List (List IrS)} : goodM pro l = true ↔ Good pro l := by
 unfold goodM
 simp only [Bool.and_eq_true, decide_eq_true_eq, List.all_eq_true]
 exact ⟨fun h => ⟨h.1.1, h.1.2, h.2.1, h.2.2⟩, fun h => ⟨⟨h.l1, h.l64⟩, h.pro, h.blk⟩⟩
def runD (pro : List XS) (l : List (List IrS)) : D :=
  if goodM pro l = true then
    (if pro.length + sumL l ≤ 2000 ∧ totF pro l ≤ 16384 then .tup [.lst .no 1 (bD (codeF pro l)), .lst .no 1 (intsD (startF pro l)), .int .i64 0]
    else .tup [.lst .tight 0 [], .lst .tight 0 [], .int .i64 3])
  else .tup [.lst .tight 0 [], .lst .tight 0 [], .int .i64 2]
theorem good_all {pro : List XS} {l : List (List IrS)} (hg : Good pro l) : AllPa l.length (parF pro l) ∧ AllJx (parF pro l) := by
 have h : ∀ p ∈ parF pro l, PaOK l.length p ∧ JxOK p := by
  intro p hp
  unfold parF preP at hp
  rw [List.take_of_length_le (Nat.le_refl _)] at hp
  rcases List.mem_append.1 hp with q | q
  ·obtain ⟨x, hx, rfl⟩ := List.mem_map.1 q
   have := hg.pro x hx
   unfold proB at this
   simp only [Bool.and_eq_true, Bool.not_eq_true', decide_eq_false_iff_not, not_or] at this
   exact inP_ok _ this.1 this.2.1 this.2.2
  ·exact allP_ok l 0 hg.blk p q
 exact ⟨fun p hp => (h p hp).1, fun p hp => (h p hp).2⟩
theorem good_beg (pro : List XS) (l : List (List IrS)) : BegOK (begF pro l) l.length (parF pro l).length := by
 unfold begF parF preQ preP
 rw [List.take_of_length_le (Nat.le_refl _)]
 refine ⟨begP_len _ _ _, fun x hx => ?_⟩
 have := begP_rng l pro.length 0 x hx
 rw [List.length_append, List.length_map]
 exact this
theorem parF_len {pro : List XS} {l : List (List IrS)} (hn : pro.length + sumL l ≤ 2000) : (parF pro l).length ≤ 2000 := by
 unfold parF preP
 have := allP_len l 0
 rw [List.take_of_length_le (Nat.le_refl _), List.length_append, List.length_map]
 omega
theorem run_any {pro : List XS} {l : List (List IrS)} (hb : BlkIn pro l) : Ret Try.prog 26 [.lst .no 8 (xsL pro), .lst .no 1 (rwL l)] (runD pro l) := by
 unfold runD
 have hbn := hb.n
 have hbb := hb.b
 by_cases h1 : 1 ≤ l.length
 case neg => rw [if_neg (fun hg => h1 (good_iff.1 hg).l1)]; exact run_err_ok pro l 2 (by decide) (pa_e0_ok pro l (by rw [rwL_len]; omega))
 by_cases h64 : l.length ≤ 64
 case neg => rw [if_neg (fun hg => h64 (good_iff.1 hg).l64)]; exact run_err_ok pro l 2 (by decide) (pa_e1_ok pro l (by rw [rwL_len]; omega))
 have L1 : 1 ≤ ((rwL l).length : Int) := by rw [rwL_len]; omega
 have L2 : ((rwL l).length : Int) ≤ 64 := by rw [rwL_len]; omega
 by_cases hpr : ∀ x ∈ pro, proB x = true
 case neg => rw [if_neg (fun hg => hpr (good_iff.1 hg).pro)]; exact run_err_ok pro l 2 (by decide) (pa_ep_ok pro l L1 L2 (pr_loopE l pro _ hb.px (by omega) hpr))
 have hpl := pr_loop l pro ((xsL pro).length : Int) hb.px (by omega) hpr
 have e0 : ptT l (pro.map inP) [] ((xsL pro).length : Int) 0 = ptT l (preP pro l 0) (preQ pro l 0) (preN pro l 0) ((0 : Nat) : Int) := by
  unfold preP preQ preN
  rw [xsL_len]
  simp [allP, begP, sumL]
 by_cases hgb : ∀ r ∈ l, goodB l r
 case neg =>
  rw [if_neg (fun hg => hgb (good_iff.1 hg).blk)]
  have hl := LoopRun.of_rounds (show 1 ≤ 3 by decide) (pt_roundsE hb hgb l.length 0 (by omega) (by simp))
  rw [← e0] at hl
  exact run_err_ok pro l 2 (by decide) (pa_eb_ok pro l L1 L2 (pro.map inP) [] [] 0 hpl hl)
 have hg : Good pro l := ⟨h1, h64, hpr, hgb⟩
 rw [if_pos (good_iff.2 hg)]
 have hN : preN pro l l.length = ((pro.length + sumL l : Nat) : Int) := by unfold preN; rw [List.take_of_length_le (Nat.le_refl _)]
 have hS := fun hne : parF pro l ≠ [] => (by
  have hl := LoopRun.of_rounds (show 1 ≤ 3 by decide) (pt_roundsS hb hgb hne (l.length - 1) 0 (by omega))
  rw [← e0] at hl
  exact hl : LoopRun Try.prog 1 (.loop (loopB Try.f64 1)) (ptT l (pro.map inP) [] ((xsL pro).length : Int) 0) ptS (.exit 2) (ptV (parF pro l).length (begF pro l) (preN pro l l.length)) (ptB (parF pro l)))
 have hL : LoopRun Try.prog 1 (.loop (loopB Try.f64 1)) (ptT l (pro.map inP) [] ((xsL pro).length : Int) 0) ptS (.exit 2) (ptU (parF pro l) (begF pro l) (preN pro l l.length)) ptS := by
  have hl := LoopRun.of_rounds (show 1 ≤ 3 by decide) (pt_roundsL hb hgb l.length 0 (by omega))
  rw [← e0] at hl
  exact hl
 by_cases hn : pro.length + sumL l ≤ 2000
 case neg => rw [if_neg (fun h => hn h.1)]; exact run_err_ok pro l 3 (by decide) (pa_n3L_ok pro l L1 L2 (pro.map inP) (parF pro l) (begF pro l) (preN pro l l.length) hpl hL (by rw [hN]; omega))
 have hml := parF_len hn
 obtain ⟨hpa, hjx⟩ := good_all hg
 have hbg := good_beg pro l
 by_cases hne : parF pro l = []
 ·have hq0 : ∀ x ∈ begF pro l, x = 0 := by
   intro x hx
   have := hbg.2 x hx
   rw [hne] at this
   simp only [List.length_nil] at this
   omega
  have hoff : offF (begF pro l) (parF pro l) = [0] := by rw [hne]; rfl
  have hst : startF pro l = begF pro l := by
   unfold startF
   rw [hoff]
   have : ∀ x ∈ begF pro l, (fun b : Int => atI [0] b.toNat) x = id x := by
    intro x hx
    rw [hq0 x hx]
    rfl
   rw [List.map_congr_left this, List.map_id]
  have hcode : codeF pro l = [] := by unfold codeF; rw [hne]; rfl
  have htot : totF pro l = 0 := by unfold totF; rw [hoff, hne]; rfl
  rw [if_pos ⟨hn, by rw [htot]; decide⟩, hst, hcode]
  have hp := pa_L_ok pro l L1 L2 (pro.map inP) (parF pro l) (begF pro l) (preN pro l l.length) hpl hL (by rw [hN]; omega)
  rw [hne] at hp
  have hlr := LoopRun.of_rounds (show 4 ≤ 5 by decide) (an_rounds (begF pro l) (by rw [hbg.1]; omega) hq0 (begF pro l).length 0 (by omega))
  exact (run_nil_ok pro l (begF pro l) (begF pro l) hp hlr).to (by exact ⟨⟨rfl, .inr rfl, trivial, .inl rfl⟩, ⟨rfl, .inl rfl, trivial, .inr rfl⟩, rfl, trivial⟩)
 ·have hp := pa_S_ok pro l L1 L2 (pro.map inP) (parF pro l) (begF pro l) (preN pro l l.length) hpl (hS hne) (by rw [hN]; omega)
  have hr := relax_any (parF pro l) hml l.length hpa (begF pro l) hbg
  have hol := offF_len (begF pro l) (parF pro l)
  have hfl := finM_len (begF pro l) (parF pro l)
  have ht : (intsD (offF (begF pro l) (parF pro l)))[(parF pro l).length * 1]? = some (.int .i64 (totF pro l)) := by
   rw [Nat.mul_one, intsD_gt (by omega)]
   unfold totF atI
   rw [List.getD_eq_getElem?_getD, List.getElem?_eq_getElem (by omega)]
   rfl
  by_cases hto : totF pro l ≤ 16384
  ·rw [if_pos ⟨hn, hto⟩]
   have hmy := finM_may hml hjx (q := begF pro l)
   have h0 := LoopRun.of_rounds (show 6 ≤ 7 by decide) (cd_rounds (begF pro l) (finM (begF pro l) (parF pro l)) (by omega) hmy (offF (begF pro l) (parF pro l)) _ 0 (Nat.zero_add _))
   have h1' := LoopRun.of_rounds (show 7 ≤ 8 by decide) (at_rounds (bD (codeF pro l)) (begF pro l) (parF pro l).length hml l.length hbg (by rw [hbg.1]; omega) (offF (begF pro l) (parF pro l)) hol (begF pro l).length 0 (by omega))
   rw [hfl] at h0
   refine run_ok_ok pro l (codeF pro l) (startF pro l) (begF pro l) _ _ _ (parF pro l).length _ hml (paC_clean _) (intsD_clean _) hp hr ht hto ?_ ?_
   ·rw [paC_demote, intsD_dem]; exact h0
   ·rw [intsD_dem]; exact h1'
  ·rw [if_neg (fun h => hto h.2)]
   exact run_long_ok pro l (begF pro l) _ _ _ (parF pro l).length _ hml (paC_clean _) (intsD_clean _) hp hr ht (by omega)
theorem daC_one (p : PaS) : daC [p] = p.dc := by simp [daC]
theorem stepP_0 (n : Nat) (b : Int) (s : IrS) (hk : s.kind = 0 ∨ s.kind = 4 ∨ s.kind = 5) : stepP n b 0 s = [if s.kind = 0 then inP s.x else if s.kind = 4 then jcP s.cc s.to else jmP s.to] := by
 unfold stepP
 by_cases h0 : s.kind = 0
 ·rw [if_pos h0, if_pos h0]
 ·by_cases h4 : s.kind = 4
  ·rw [if_neg h0, if_pos h4, if_neg h0, if_pos h4]
  ·rw [if_neg h0, if_neg h4, if_neg h0, if_neg h4, if_pos (.inl rfl)]
theorem blkP_nil {r : List IrS} {b : Int} (hk : blkOK r) (h : blkP r b = []) : r = [] := by
 match r, hk, h with
 | [], _, _ => rfl
 | s :: t, hk, h =>
  unfold blkP at h
  rw [blkG, stepP_0 _ _ _ (hk s (List.mem_cons_self ..))] at h
  cases h
theorem dt_rounds0 {l : List (List IrS)} (q : List Int) {b : Nat} (hb : b < l.length) (hb2 : b ≤ 1000) (hn : l[b] = []) :
  Rounds Try.prog (loopB Try.f67 5) 1 (dtT l (intsD q) b 0) [.dead, .fam 0 1] (.exit 10) (dtU l (intsD q) b) [.dead, .fam 0 1] :=
 Rounds.last (dt_e l q b 0 (by omega) (by omega) (by omega) (by omega) [] (by rw [Int.toNat_natCast, rwL_get l b hb, hn]) (by decide) (by decide)) (fun h => by cases h)
theorem dt_rounds {l : List (List IrS)} (q : List Int) {b : Nat} (hb : b < l.length) (hb2 : b ≤ 1000) (hl : l[b].length ≤ 2500) (hk : blkOK l[b]) (hne : l[b] ≠ []) :
  Rounds Try.prog (loopB Try.f67 5) 1 (dtT l (intsD q) b 0) [.dead, .fam 0 1] (.exit 10) (du1U l (intsD q) b (blkP l[b] b).length) [.dead, .box (daC (blkP l[b] b)), .fam 0 1] := by
 have hlt : 0 < l[b].length := List.length_pos_iff.2 hne
 have hk0 := hk l[b][0] (List.getElem_mem hlt)
 have ih := du1_rounds [] (blkP l[b] b) q hb hb2 hl (by simp) hk (List.nil_append _) (l[b].length - 1) 1 (by omega)
 have e1 : blkG l[b].length b 0 (l[b].take 1) = stepP l[b].length b 0 l[b][0] := by
  have := blk_next [] (b : Int) hlt
  rw [List.nil_append, List.take_zero, blkG, List.nil_append, List.nil_append] at this
  exact this
 rw [List.nil_append, e1, stepP_0 _ _ _ hk0, daC_one, List.length_singleton] at ih
 have g1 : (rwL l)[Int.toNat (b : Int)]? = some (.lst .no 13 (irL l[b])) := by rw [Int.toNat_natCast]; exact rwL_get l b hb
 have g2 : ((irL l[b]).length : Int) ≤ 100000 := by rw [irL_len]; omega
 have g3 : (0 : Int) < ((irL l[b]).length : Int) := by rw [irL_len]; omega
 have g4 : (irL l[b])[Int.toNat (0 : Int)]? = some (IrS.d l[b][0]) := irL_get _ 0 hlt
 have hw : IntKind.i64.wrap ((0 : Int) + 1) = ((1 : Nat) : Int) := by rw [w_i64]; rfl
 have hr := irL_len l[b]
 rcases hk0 with h0 | h4 | h5
 ·have := dt_x l q b 0 (by omega) (by omega) (by omega) (by omega) l[b] g1 g2 g3 l[b][0] g4 h0
  rw [if_pos h0] at ih
  rw [hw] at this
  exact Rounds.more this ih
 ·have := dt_j l q b 0 (by omega) (by omega) (by omega) (by omega) l[b] g1 g2 g3 l[b][0] g4 h4
  rw [if_neg (by omega), if_pos h4] at ih
  rw [hw] at this
  exact Rounds.more this ih
 ·rw [if_neg (by omega), if_neg (by omega)] at ih
  by_cases c1 : 1 < l[b].length
  ·have := dt_g1 l q b 0 (by omega) (by omega) (by omega) (by omega) l[b] g1 g2 g3 l[b][0] g4 h5 (by omega)
   rw [hw] at this
   exact Rounds.more this ih
  ·have := dt_g2 l q b 0 (by omega) (by omega) (by omega) (by omega) l[b] g1 g2 g3 l[b][0] g4 h5 (by omega) (by omega)
   rw [hw] at this
   exact Rounds.more this ih
theorem dw0_rounds {pro : List XS} {l : List (List IrS)} (hb : BlkIn pro l) (hg : ∀ r ∈ l, goodB l r) : ∀ (m b : Nat), b + m = l.length →
  Rounds Try.prog (loopB Try.f67 4) 0 (((.undef) :: (.lst .no 1 (rwL l)) :: (.undef) :: (.undef) :: (.lst .tight 0 []) :: (un 6 ++ (.slc 0 10 (preP pro l b).length) :: (.undef) :: (.lst (.tok 1 0) 1 (intsD (preQ pro l b))) :: (.int .i64 b) :: (un 163)))) [.box (daC (preP pro l b)), .fam 0 1] (.exit 8) (dvB (intsD (preQ pro l l.length)) (preP pro l l.length).length) [.fam 0 10, .box (daC (preP pro l l.length)), .fam 0 1]
 | 0, b, hm => by
  have e : b = l.length := by omega
  subst e
  have h1 := preP_len hb l.length
  have h2 := preQ_len pro l l.length
  have h3 := hb.b
  have := dw0_e l (preQ pro l l.length) (l.length : Int) (by omega) (by omega) (by rw [intsD_len]; omega) (daC (preP pro l l.length)) (preP pro l l.length).length (daC_clean _) (daC_beq _) (by omega) (by rw [rwL_len]; omega)
  rw [daC_demote] at this
  exact Rounds.last this (fun h => by cases h)
 | m + 1, b, hm => by
  have hlt : b < l.length := by omega
  have h1 := preP_len hb b
  have h2 := preQ_len pro l b
  have h3 := hb.b
  have h4 := hb.n
  have h5 := sumL_mem (List.getElem_mem hlt)
  obtain ⟨f1, f2, f3, f4, f5, f6, f7, f8, f9⟩ := dp_facts hb hlt
  have hl := LoopRun.of_rounds (show 2 ≤ 4 by decide) (du2_rounds (preP pro l b) (preP pro l (b + 1)) (preQ pro l (b + 1)) hlt f9 (by omega) h1 (goodB_blk (hg _ (List.getElem_mem hlt))) (preP_next pro hlt).symm l[b].length 0 (by omega))
  rw [List.take_zero, show blkG l[b].length b 0 [] = [] from rfl, List.append_nil, preQ_next pro hlt, ← intsD_snoc'] at hl
  have := dw0_1 l (preQ pro l b) b (by omega) (by omega) (by rw [intsD_len]; omega) (daC (preP pro l b)) (preP pro l b).length (daC_clean _) (daC_beq _) (by omega) (daC (preP pro l (b + 1))) (preP pro l (b + 1)).length (daC_clean _) f3 l[b] f4 f2 (by rw [daC_demote]; exact hl)
  rw [intsD_snoc', ← preQ_next pro hlt, f6, daC_demote] at this
  exact Rounds.more this (dw0_rounds hb hg m (b + 1) (by omega))
theorem dv_rounds {l : List (List IrS)} (hb : BlkIn [] l) (hg : ∀ r ∈ l, goodB l r) : ∀ (m b : Nat), b + m = l.length → preP [] l b = [] → preP [] l l.length ≠ [] →
  Rounds Try.prog (loopB Try.f67 4) 0 (dvT l (intsD (preQ [] l b)) b) [.fam 0 1] (.exit 8) (dvB (intsD (preQ [] l l.length)) (preP [] l l.length).length) [.fam 0 10, .box (daC (preP [] l l.length)), .fam 0 1]
 | 0, b, hm, hp, hne => by
  have e : b = l.length := by omega
  subst e
  exact absurd hp hne
 | m + 1, b, hm, hp, hne => by
  have hlt : b < l.length := by omega
  have h2 := preQ_len [] l b
  have h3 := hb.b
  have h4 := hb.n
  have h5 := sumL_mem (List.getElem_mem hlt)
  obtain ⟨f1, f2, f3, f4, f5, f6, f7, f8, f9⟩ := dp_facts hb hlt
  have hko := goodB_blk (hg _ (List.getElem_mem hlt))
  have hq := preQ_next [] hlt
  rw [hp] at hq
  have hnx := preP_next [] hlt
  rw [hp, List.nil_append] at hnx
  by_cases hz : l[b] = []
  ·have hl := LoopRun.of_rounds (show 1 ≤ 2 by decide) (dt_rounds0 (preQ [] l (b + 1)) hlt f9 hz)
   rw [hq, ← intsD_snoc'] at hl
   have := dv_0 l (preQ [] l b) b (by omega) (by omega) (by rw [intsD_len]; omega) f3 l[b] f4 f2 hl
   rw [f6, show intsD (preQ [] l b) ++ [D.int .i64 0] = intsD (preQ [] l (b + 1)) by rw [hq]; exact intsD_snoc' _ _] at this
   have hp' : preP [] l (b + 1) = [] := by rw [hnx, hz]; rfl
   exact Rounds.more this (dv_rounds hb hg m (b + 1) (by omega) hp' hne)
  ·have hl := LoopRun.of_rounds (show 1 ≤ 2 by decide) (dt_rounds (preQ [] l (b + 1)) hlt f9 (by omega) hko hz)
   rw [hq, ← intsD_snoc', ← hnx] at hl
   have := dv_1 l (preQ [] l b) b (by omega) (by omega) (by rw [intsD_len]; omega) (daC (preP [] l (b + 1))) (preP [] l (b + 1)).length (daC_clean _) f3 l[b] f4 f2 hl
   rw [f6, daC_demote, show intsD (preQ [] l b) ++ [D.int .i64 0] = intsD (preQ [] l (b + 1)) by rw [hq]; exact intsD_snoc' _ _] at this
   exact Rounds.more this (dw0_rounds hb hg m (b + 1) (by omega))
theorem dv_roundsL {l : List (List IrS)} (hb : BlkIn [] l) (hg : ∀ r ∈ l, goodB l r) (he : preP [] l l.length = []) : ∀ (m b : Nat), b + m = l.length → preP [] l b = [] →
  Rounds Try.prog (loopB Try.f67 4) 0 (dvT l (intsD (preQ [] l b)) b) [.fam 0 1] (.exit 8) (dvU (intsD (preQ [] l l.length))) [.fam 0 1]
 | 0, b, hm, hp => by
  have e : b = l.length := by omega
  subst e
  have h2 := preQ_len [] l l.length
  have h3 := hb.b
  exact Rounds.last (dv_e l (preQ [] l l.length) (l.length : Int) (by omega) (by omega) (by rw [intsD_len]; omega) (by rw [rwL_len]; omega)) (fun h => by cases h)
 | m + 1, b, hm, hp => by
  have hlt : b < l.length := by omega
  have h2 := preQ_len [] l b
  have h3 := hb.b
  obtain ⟨f1, f2, f3, f4, f5, f6, f7, f8, f9⟩ := dp_facts hb hlt
  have hko := goodB_blk (hg _ (List.getElem_mem hlt))
  have hq := preQ_next [] hlt
  rw [hp] at hq
  have hnx := preP_next [] hlt
  rw [hp, List.nil_append] at hnx
  have hp' : preP [] l (b + 1) = [] := by
   have hle : preP [] l l.length = preP [] l (b + 1) ++ allP ((b + 1 : Nat) : Int) (l.drop (b + 1)) := by
    unfold preP
    rw [List.take_of_length_le (Nat.le_refl _), List.map_nil, List.nil_append, List.nil_append, ← List.take_append_drop (b + 1) l, allP_app, List.length_take, Nat.min_eq_left (by omega)]
    simp
   rw [he] at hle
   exact (List.append_eq_nil_iff.1 hle.symm).1
  have hz : l[b] = [] := blkP_nil hko (by rw [← hnx]; exact hp')
  have hl := LoopRun.of_rounds (show 1 ≤ 2 by decide) (dt_rounds0 (preQ [] l (b + 1)) hlt f9 hz)
  rw [hq, ← intsD_snoc'] at hl
  have := dv_0 l (preQ [] l b) b (by omega) (by omega) (by rw [intsD_len]; omega) f3 l[b] f4 f2 hl
  rw [f6, show intsD (preQ [] l b) ++ [D.int .i64 0] = intsD (preQ [] l (b + 1)) by rw [hq]; exact intsD_snoc' _ _] at this
  exact Rounds.more this (dv_roundsL hb hg he m (b + 1) (by omega) hp')
section
variable {pro : List XS} {l : List (List IrS)}
theorem pd_q (hb : BlkIn pro l) (hpr : ∀ x ∈ pro, proB x = true) : LoopRun Try.prog 0 (.loop (loopB Try.f67 0)) (dqT pro l ((xsL pro).length : Int) 0) [] (.exit 0) (dqU pro l ((xsL pro).length : Int)) [] :=
 LoopRun.of_rounds (Nat.le_refl 0) (dq_rounds l pro ((xsL pro).length : Int) (by have := hb.n; omega) hpr pro.length 0 (by omega))
theorem pd_p (hb : BlkIn pro l) (hg : ∀ r ∈ l, goodB l r) : LoopRun Try.prog 0 (.loop (loopB Try.f67 1)) (dpT pro l ((xsL pro).length : Int) 0) [] (.exit 2) (dqU pro l (preN pro l l.length)) [] := by
 have := LoopRun.of_rounds (Nat.le_refl 0) (dp_rounds hb hg l.length 0 (by omega))
 have e : preN pro l 0 = ((xsL pro).length : Int) := by unfold preN; rw [xsL_len]; simp [sumL]
 rw [e] at this
 exact this
theorem pd_err (hb : BlkIn pro l) (h : ¬ Good pro l) : Ret Try.prog 67 [.lst .no 8 (xsL pro), .lst .no 1 (rwL l)] (.tup [.lst .tight 0 [], .lst .tight 0 [], .int .i64 2]) := by
 by_cases h1 : 1 ≤ l.length
 case neg => exact pd_e0_ok pro l (by rw [rwL_len]; omega)
 by_cases h64 : l.length ≤ 64
 case neg => exact pd_e1_ok pro l (by rw [rwL_len]; omega)
 have L1 : 1 ≤ ((rwL l).length : Int) := by rw [rwL_len]; omega
 have L2 : ((rwL l).length : Int) ≤ 64 := by rw [rwL_len]; omega
 have hbn := hb.n
 by_cases hpr : ∀ x ∈ pro, proB x = true
 case neg => exact pd_ep_ok pro l L1 L2 (LoopRun.of_rounds (Nat.le_refl 0) (dq_roundsE l pro ((xsL pro).length : Int) (by omega) hpr pro.length 0 (by omega) (by simp)))
 by_cases hgb : ∀ r ∈ l, goodB l r
 case pos => exact absurd ⟨h1, h64, hpr, hgb⟩ h
 have hl := LoopRun.of_rounds (Nat.le_refl 0) (dp_roundsE hb hgb l.length 0 (by omega) (by simp))
 have e : preN pro l 0 = ((xsL pro).length : Int) := by unfold preN; rw [xsL_len]; simp [sumL]
 rw [e] at hl
 exact pd_eb_ok pro l L1 L2 (pd_q hb hpr) hl
theorem preN_all : preN pro l l.length = ((pro.length + sumL l : Nat) : Int) := by unfold preN; rw [List.take_of_length_le (Nat.le_refl _)]
theorem pd_long (hb : BlkIn pro l) (hg : Good pro l) (hn : ¬ pro.length + sumL l ≤ 2000) : Ret Try.prog 67 [.lst .no 8 (xsL pro), .lst .no 1 (rwL l)] (.tup [.lst .tight 0 [], .lst .tight 0 [], .int .i64 3]) :=
 pd_n_ok pro l (by rw [rwL_len]; have := hg.l1; omega) (by rw [rwL_len]; have := hg.l64; omega) (pd_q hb hg.pro) _ (pd_p hb hg.blk) (by rw [preN_all]; omega)
theorem pd_nil (hb : BlkIn pro l) (hg : Good pro l) (hn : pro.length + sumL l ≤ 2000) (he : parF pro l = []) : Ret Try.prog 67 [.lst .no 8 (xsL pro), .lst .no 1 (rwL l)] (.tup [.lst .tight 0 [], .lst .no 1 (intsD (begF pro l)), .int .i64 0]) := by
 have hp0 : pro = [] := by
  unfold parF preP at he
  exact List.map_eq_nil_iff.1 (List.append_eq_nil_iff.1 he).1
 subst hp0
 exact pd_L_ok [] l (by rw [rwL_len]; have := hg.l1; omega) (by rw [rwL_len]; have := hg.l64; omega) (pd_q hb hg.pro) _ (pd_p hb hg.blk) (by rw [preN_all]; omega) (LoopRun.of_rounds (Nat.le_refl 0) (dr_roundsL l)) (begF [] l)
  (LoopRun.of_rounds (Nat.zero_le _) (dv_roundsL hb hg.blk he l.length 0 (by omega) (by simp [preP, allP])))
theorem pd_box (hb : BlkIn pro l) (hg : Good pro l) (hn : pro.length + sumL l ≤ 2000) (he : parF pro l ≠ []) : CallRun Try.prog 67 [.lst .no 8 (xsL pro), .lst .no 1 (rwL l)] [] (.tup [.slc 1 10 (parF pro l).length, .lst (.tok 2 0) 1 (intsD (begF pro l)), .int .i64 0]) [.dead, .box (daC (parF pro l)), .fam 0 1] := by
 have L1 : 1 ≤ ((rwL l).length : Int) := by rw [rwL_len]; have := hg.l1; omega
 have L2 : ((rwL l).length : Int) ≤ 64 := by rw [rwL_len]; have := hg.l64; omega
 by_cases hp0 : pro = []
 ·subst hp0
  exact pd_S_ok [] l L1 L2 (pd_q hb hg.pro) _ (pd_p hb hg.blk) (by rw [preN_all]; omega) (LoopRun.of_rounds (Nat.le_refl 0) (dr_roundsL l)) (begF [] l) _ _
   (LoopRun.of_rounds (show 0 ≤ 1 by decide) (dv_rounds hb hg.blk l.length 0 (by omega) (by simp [preP, allP]) he))
 ·have h4 := LoopRun.of_rounds (show 1 ≤ 3 by decide) (dw1_rounds hb hg.blk l.length 0 (by omega))
  have e0 : preP pro l 0 = pro.map inP := by simp [preP, allP]
  rw [e0, List.length_map] at h4
  exact pd_B_ok pro l L1 L2 (pd_q hb hg.pro) _ (pd_p hb hg.blk) (by rw [preN_all]; omega) (daC (pro.map inP)) pro.length (daC_clean _) (LoopRun.of_rounds (show 0 ≤ 0 by decide) (dr_roundsB l pro (by omega) hp0)) (begF pro l) _ _ (by rw [daC_demote]; exact h4)
end
theorem rdlen_ok (x : XS) (bs : List D) (e : Int) (hb : Ret Try.prog 55 [xsD x] (.tup [.lst .no 1 bs, .int .i64 e]))  : Ret Try.prog 187 ([xsD x]) (.int .i64 (bs.length : Int)) := by
 exact (Ret.of_eval (d := .int .i64 (↑(List.length bs) : Int)) mixed Try.func187 (by kernel_rfl) [.ret _ _ _ hb] (by kernel_rfl)).to (by first | rfl | (simp [wk]; done))
theorem dz_n_ok (x : XS) (y : Int) (hl : Ret Try.prog 187 [xsD x] (.int .i64 y))  : Ret Try.prog 160 ([.agg [.int .i8 x.op, .int .i8 x.w, .int .i8 x.dst, .int .i8 x.src, .int .i8 x.base, .int .i64 x.disp, .int .i64 x.imm, .int .i8 x.cc, .int .i64 (-1), .bool false]]) (.int .i64 y) := by
 exact (Ret.of_eval (d := .int .i64 y) mixed Try.func160 (by kernel_rfl) [tT, .ret _ _ _ hl] (by kernel_rfl)).to (by first | rfl | (simp [wk]; done))
theorem dz_8_ok (x : XS) (to y : Int) (t0 : 0 ≤ to) (hl : Ret Try.prog 187 [xD x.op 8 x.dst x.src x.base x.disp 0 x.cc] (.int .i64 y))  : Ret Try.prog 160 ([.agg [.int .i8 x.op, .int .i8 0, .int .i8 x.dst, .int .i8 x.src, .int .i8 x.base, .int .i64 x.disp, .int .i64 0, .int .i8 x.cc, .int .i64 to, .bool false]]) (.int .i64 y) := by
 exact (Ret.of_eval (d := .int .i64 y) mixed Try.func160 (by kernel_rfl) [tC (decide_eq_false (Int.not_lt.2 t0)), tF, .ret _ _ _ hl] (by kernel_rfl)).to (by first | rfl | (simp [wk]; done))
theorem dz_32_ok (x : XS) (to y : Int) (t0 : 0 ≤ to) (hl : Ret Try.prog 187 [xD x.op 32 x.dst x.src x.base x.disp 0 x.cc] (.int .i64 y))  : Ret Try.prog 160 ([.agg [.int .i8 x.op, .int .i8 0, .int .i8 x.dst, .int .i8 x.src, .int .i8 x.base, .int .i64 x.disp, .int .i64 0, .int .i8 x.cc, .int .i64 to, .bool true]]) (.int .i64 y) := by
 exact (Ret.of_eval (d := .int .i64 y) mixed Try.func160 (by kernel_rfl) [tC (decide_eq_false (Int.not_lt.2 t0)), tT, .ret _ _ _ hl] (by kernel_rfl)).to (by first | rfl | (simp [wk]; done))
theorem do_end (ps : List D) (o : List Int) (m k : Nat) (hps : ∀ c ∈ ps, c.clean = true) (hm : m ≤ 2000) (ho : ((intsD o).length : Int) ≤ 2001) (h : m ≤ k)  : RoundRun Try.prog (loopB Try.f130 0) ⟨[], [2, 1000001], [(3, 1)]⟩ 3 ((.slc 1 10 m) :: (D.undef) :: (D.undef) :: (.lst (.tok 3 0) 1 (intsD o)) :: (.int .i64 (↑k : Int)) :: (un 21)) [.dead, .box ps, .fam 0 1, .fam 0 1] (.exit 0) ((D.undef) :: (D.undef) :: (D.undef) :: (.lst (.tok 3 0) 1 (intsD o)) :: (un 22)) ([.dead, .box (List.map D.demote ps), .fam 0 1, .fam 0 1]) := by
 exact RoundRun.of_eval mixed [tC (by ((try simp only [sL] at *); (try unfold big at *); omega) : (decide ((↑k : Int) < (↑m : Int))) = false), .cl (ps) (by first | exact clAll rfl | exact hps)] (by kernel_rfl)
theorem do_in (ps : List D) (o : List Int) (m k : Nat) (hps : ∀ c ∈ ps, c.clean = true) (hm : m ≤ 2000) (ho : ((intsD o).length : Int) ≤ 2001) (hk : k < m) (v y : Int) (hv : (intsD o)[k]? = some (.int .i64 v)) (a0 a1 a2 a3 a4 a5 a6 a7 a8 : Int) (a9 : Bool) (hA : GetsA ps (k * 10) 10 [.int .i8 a0, .int .i8 a1, .int .i8 a2, .int .i8 a3, .int .i8 a4, .int .i64 a5, .int .i64 a6, .int .i8 a7, .int .i64 a8, .bool a9]) (hs : Ret Try.prog 160 [.agg [.int .i8 a0, .int .i8 a1, .int .i8 a2, .int .i8 a3, .int .i8 a4, .int .i64 a5, .int .i64 a6, .int .i8 a7, .int .i64 a8, .bool a9]] (.int .i64 y))  : RoundRun Try.prog (loopB Try.f130 0) ⟨[0, 4], [2, 1000001], [(3, 1)]⟩ 3 ((.slc 1 10 m) :: (D.undef) :: (D.undef) :: (.lst (.tok 3 0) 1 (intsD o)) :: (.int .i64 (↑k : Int)) :: (un 21)) [.dead, .box ps, .fam 0 1, .fam 0 1] .norm ((.slc 1 10 m) :: (D.undef) :: (D.undef) :: (.lst (.tok 3 0) 1 (intsD o ++ [.int .i64 (IntKind.i64.wrap (v + y))])) :: (.int .i64 (IntKind.i64.wrap ((↑k : Int) + (1 : Int)))) :: (un 21)) ([.dead, .box (List.map D.demote ps), .fam 0 1, .fam 0 1]) := by
 exact RoundRun.of_eval mixed [tC (by ((try simp only [sL] at *); (try unfold big at *); omega) : (decide ((↑k : Int) < (↑m : Int))) = true), tT, .get _ _ _ hv, .tst (decide ((0 : Int) ≤ (↑k : Int) ∧ (↑k : Int) < (↑m : Int))) true (by ((try simp only [sL] at *); (try unfold big at *); omega)), .getA _ _ _ _ (@gets_id (ps) (Int.toNat (↑k : Int) * (10 : Nat)) ((10 : Nat)) _ hA), .ret _ _ _ hs, .len (List.length (intsD o) + (1 : Nat)) ((2147483648 : Nat)) (by first | decide | omega | (simp; omega)), .cl (ps) (by first | exact clAll rfl | exact hps)] (by kernel_rfl)
end Go.Proofs.Ytcngafhpodeenaa
namespace Go.Ev
open Go
structure DOK (p : PaS) : Prop where
  op : p.x.op ≤ 127
  w : p.j = true → p.x.w = 8 ∨ p.x.w = 32
  im : p.j = true → p.x.imm = 0
def AllDO (l : List PaS) : Prop := ∀ p ∈ l, DOK p
theorem allDO {nb : Nat} {l : List PaS} (h : AllPa nb l) (k : AllJx l) (z : ImmZ l) : AllDO l := fun p hp => ⟨(h p hp).op, fun hj => ((k p hp).yes hj).2.1, z p hp⟩
theorem DOK.stepJ {p : PaS} (h : DOK p) (a q : List Int) (k : Nat) : DOK (stepJ a q k p) := by
 unfold Go.Ev.stepJ
 cases hj : p.j
 ·exact h
 ·simp only [if_true]
  split
  ·exact ⟨h.op, fun _ => .inr rfl, fun _ => rfl⟩
  ·exact ⟨h.op, fun _ => h.w hj, fun _ => rfl⟩
theorem AllDO.jumpL (a q : List Int) : ∀ {l : List PaS} (k : Nat), AllDO l → AllDO (jumpL a q k l)
 | [], k, h => fun p hp => by cases hp
 | x :: r, k, h => by
  intro p hp
  rcases List.mem_cons.1 hp with rfl | hp
  ·exact (h x (List.mem_cons_self ..)).stepJ a q k
  ·exact AllDO.jumpL a q (k + 1) (fun y hy => h y (List.mem_cons_of_mem _ hy)) p hp
theorem daC_at (A B : List PaS) (p : PaS) : daC (A ++ p :: B) = daC A ++ (p.dc ++ daC B) := by rw [daC_app]; rfl
theorem daC_get (A B : List PaS) (p : PaS) (n : Nat) (h : n < 10) : (daC (A ++ p :: B))[A.length * 10 + n]? = p.dc[n]? := by
 rw [daC_at, List.getElem?_append_right (by rw [daC_len]; omega), daC_len, Nat.add_sub_cancel_left, List.getElem?_append_left (by rw [PaS.dc_len]; omega)]
theorem daC_put (A B : List PaS) (p : PaS) (n : Nat) (h : n < 10) (d : D) : (daC (A ++ p :: B)).set (A.length * 10 + n) d = daC A ++ (p.dc.set n d ++ daC B) := by
 rw [daC_at, List.set_append_right _ _ (by rw [daC_len]; omega), daC_len, Nat.add_sub_cancel_left, List.set_append_left _ _ (by rw [PaS.dc_len]; omega)]
theorem daC_gets (A B : List PaS) (p : PaS) (n : Nat) (h : n ≤ 10) : GetsA (daC (A ++ p :: B)) (A.length * 10) n (p.dc.take n) := by
 refine ⟨?_, ?_⟩
 ·rw [daC_at, List.drop_append_of_le_length (by rw [daC_len]; omega), List.drop_eq_nil_of_le (by rw [daC_len]; omega), List.nil_append, List.take_append_of_le_length (by rw [PaS.dc_len]; omega)]
 ·rw [daC_len]
  simp only [List.length_append, List.length_cons]
  omega
theorem dc_j {p : PaS} (hj : p.j = true) : p.dc = [.int .i8 p.x.op, .int .i8 0, .int .i8 p.x.dst, .int .i8 p.x.src, .int .i8 p.x.base, .int .i64 p.x.disp, .int .i64 0, .int .i8 p.x.cc, .int .i64 p.to, .bool (decide (p.x.w ≠ 8))] := by
 unfold PaS.dc
 rw [if_pos hj]
theorem dc_n {p : PaS} (hj : p.j = false) : p.dc = [.int .i8 p.x.op, .int .i8 p.x.w, .int .i8 p.x.dst, .int .i8 p.x.src, .int .i8 p.x.base, .int .i64 p.x.disp, .int .i64 p.x.imm, .int .i8 p.x.cc, .int .i64 (-1), .bool false] := by
 unfold PaS.dc
 rw [if_neg (by rw [hj]; decide)]
theorem dc_imm {p : PaS} (hj : p.j = true) (v : Int) : (p.imm v).dc = p.dc := by
 rw [dc_j hj, dc_j (show (p.imm v).j = true from hj)]
 rfl
theorem daC_imm {p : PaS} (hj : p.j = true) (v : Int) (A B : List PaS) : daC (A ++ p.imm v :: B) = daC (A ++ p :: B) := by rw [daC_at, daC_at, dc_imm hj]
theorem daC_near {p : PaS} (hj : p.j = true) (A B : List PaS) : (daC (A ++ p :: B)).set (A.length * 10 + 9) (.bool true) = daC (A ++ (p.imm 0).w 32 :: B) := by
 rw [daC_put _ _ _ _ (by decide), daC_at, dc_j hj, dc_j (show ((p.imm 0).w 32).j = true from hj)]
 rfl
theorem daC_wayL (a q : List Int) : ∀ (l : List PaS) (k : Nat), daC (wayL a q k l) = daC l
 | [], k => rfl
 | p :: r, k => by
  rw [wayL, daC, daC, daC_wayL a q r]
  congr 1
  unfold stepW
  split
  ·rename_i hj
   exact dc_imm hj _
  ·rfl
end Go.Ev
namespace Go.Proofs.Ytcngafhpodeenaa
open Go Go.Ev
abbrev doT (o : List D) (m k : Nat) : List D := ((.slc 1 10 m) :: (.undef) :: (.undef) :: (.lst (.tok 3 0) 1 o) :: (.int .i64 (k : Int)) :: (un 21))
abbrev doU (o : List D) : List D := ((.undef) :: (.undef) :: (.undef) :: (.lst (.tok 3 0) 1 o) :: (un 22))
abbrev djT (qs av : List D) (more : Bool) (m k : Nat) : List D := ((.slc 1 10 m) :: (.lst (.tok 2 0) 1 qs) :: (.undef) :: (.undef) :: (.undef) :: (.lst (.tok 3 0) 1 av) :: (.bool more) :: (.int .i64 (k : Int)) :: (un 52))
abbrev djU (qs av : List D) (more : Bool) (m : Nat) : List D := ((.slc 1 10 m) :: (.lst (.tok 2 0) 1 qs) :: (.undef) :: (.undef) :: (.undef) :: (.lst (.tok 3 0) 1 av) :: (.bool more) :: (un 53))
abbrev dyT (qs : List D) (m : Nat) : List D := ((.slc 1 10 m) :: (.lst (.tok 2 0) 1 qs) :: (un 58))
abbrev dyU (av : List D) : List D := (un 4 ++ (.lst (.tok 3 0) 1 av) :: (un 55))
abbrev dS (ps : List D) : List Ob := [.dead, .box ps, .fam 0 1]
abbrev dS2 (ps : List D) : List Ob := [.dead, .box ps, .fam 0 1, .fam 0 1]
theorem offs_ok (ps o2 : List D) (m : Nat) (hm : m ≤ 2000) (hps : ∀ c ∈ ps, c.clean = true) (h0 : LoopRun Try.prog 3 (.loop (loopB Try.f130 0)) (doT [.int .i64 0] m 0) (dS2 (List.map D.demote ps)) (.exit 0) (doU o2) (dS2 ps))  : CallRun Try.prog 130 ([.slc 1 10 m]) ([.dead, .box ps, .fam 0 1]) (.lst (.tok 3 0) 1 o2) ([.dead, .box ps, .fam 0 1, .fam 0 1]) := by
 have c0 := @run_id (nat_lit 3) _ (((.slc 1 10 m) :: (uu) :: (uu) :: (.lst (.tok 3 0) 1 [.int .i64 0]) :: (.int .i64 0) :: (un 21))) ([.dead, .box (List.map D.demote ps), .fam 0 1, .fam 0 1]) _ _ _ h0
 exact CallRun.of_eval (keep := [1, 2, 3]) mixed [.head ⟨[0, 4], [2, 1000001], [(3, 1)]⟩ _ _ _ _ _ _ _ c0, .cl ps (by first | exact clAll rfl | exact hps)] (by kernel_rfl)
theorem dj_end (qs ps av : List D) (more : Bool) (m k : Nat) (hps : ∀ c ∈ ps, c.clean = true) (hm : m ≤ 2000) (hal : av.length = m + 1) (hpl : ps.length = m * 10) (h : m ≤ k)  : RoundRun Try.prog (loopB Try.f68 1) ⟨[0, 1, 5, 6], [2, 3, 1000001], []⟩ 4 ((.slc 1 10 m) :: (.lst (.tok 2 0) 1 qs) :: (uu) :: (uu) :: (uu) :: (.lst (.tok 3 0) 1 av) :: (.bool more) :: (.int .i64 (↑k : Int)) :: (un 52)) [.dead, .box ps, .fam 0 1, .fam 0 1] (.exit 2) ((.slc 1 10 m) :: (.lst (.tok 2 0) 1 qs) :: (uu) :: (uu) :: (uu) :: (.lst (.tok 3 0) 1 av) :: (.bool more) :: (un 53)) ([.dead, .box (List.map D.demote ps), .fam 0 1, .fam 0 1]) := by
 exact RoundRun.of_eval mixed [tC (by ((try simp only [sL] at *); (try unfold big at *); omega) : (decide ((↑k : Int) < (↑m : Int))) = false), .cl ps (by first | exact clAll rfl | exact hps | exact cl_set hps rfl)] (by kernel_rfl)
theorem dj_no (qs ps av : List D) (more : Bool) (m k : Nat) (hps : ∀ c ∈ ps, c.clean = true) (hm : m ≤ 2000) (hal : av.length = m + 1) (hpl : ps.length = m * 10) (hk : k < m) (ht : ps[k * 10 + 8]? = some (.int .i64 (-1)))  : RoundRun Try.prog (loopB Try.f68 1) ⟨[0, 1, 5, 6, 7], [2, 3, 1000001], []⟩ 4 ((.slc 1 10 m) :: (.lst (.tok 2 0) 1 qs) :: (uu) :: (uu) :: (uu) :: (.lst (.tok 3 0) 1 av) :: (.bool more) :: (.int .i64 (↑k : Int)) :: (un 52)) [.dead, .box ps, .fam 0 1, .fam 0 1] .norm ((.slc 1 10 m) :: (.lst (.tok 2 0) 1 qs) :: (uu) :: (uu) :: (uu) :: (.lst (.tok 3 0) 1 av) :: (.bool more) :: (.int .i64 (IntKind.i64.wrap ((↑k : Int) + 1))) :: (un 52)) ([.dead, .box (List.map D.demote ps), .fam 0 1, .fam 0 1]) := by
 exact RoundRun.of_eval mixed [tC (by ((try simp only [sL] at *); (try unfold big at *); omega) : (decide ((↑k : Int) < (↑m : Int))) = true), .tst (decide (0 ≤ (↑k : Int) ∧ (↑k : Int) < (↑m : Int))) true (by ((try simp only [sL] at *); (try unfold big at *); omega)), .get _ _ _ ht, tF, tF, tF, tF, tF, tT, tT, .cl ps (by first | exact clAll rfl | exact hps | exact cl_set hps rfl)] (by kernel_rfl)
theorem dj_nr (qs ps av : List D) (more : Bool) (m k : Nat) (hps : ∀ c ∈ ps, c.clean = true) (hm : m ≤ 2000) (hal : av.length = m + 1) (hpl : ps.length = m * 10) (hk : k < m) (to : Nat) (ht : ps[k * 10 + 8]? = some (.int .i64 (to : Int))) (hn : ps[k * 10 + 9]? = some (.bool true))  : RoundRun Try.prog (loopB Try.f68 1) ⟨[0, 1, 5, 6, 7], [2, 3, 1000001], []⟩ 4 ((.slc 1 10 m) :: (.lst (.tok 2 0) 1 qs) :: (uu) :: (uu) :: (uu) :: (.lst (.tok 3 0) 1 av) :: (.bool more) :: (.int .i64 (↑k : Int)) :: (un 52)) [.dead, .box ps, .fam 0 1, .fam 0 1] .norm ((.slc 1 10 m) :: (.lst (.tok 2 0) 1 qs) :: (uu) :: (uu) :: (uu) :: (.lst (.tok 3 0) 1 av) :: (.bool more) :: (.int .i64 (IntKind.i64.wrap ((↑k : Int) + 1))) :: (un 52)) ([.dead, .box (List.map D.demote ps), .fam 0 1, .fam 0 1]) := by
 exact RoundRun.of_eval mixed [tC (by ((try simp only [sL] at *); (try unfold big at *); omega) : (decide ((↑k : Int) < (↑m : Int))) = true), .tst (decide (0 ≤ (↑k : Int) ∧ (↑k : Int) < (↑m : Int))) true (by ((try simp only [sL] at *); (try unfold big at *); omega)), .get _ _ _ ht, tT, tT, tT, .tst (decide (0 ≤ (↑k : Int) ∧ (↑k : Int) < (↑m : Int))) true (by ((try simp only [sL] at *); (try unfold big at *); omega)), tT, tT, .get _ _ _ hn, tF, tT, .cl ps (by first | exact clAll rfl | exact hps | exact cl_set hps rfl)] (by kernel_rfl)
theorem dj_in (qs ps av : List D) (more : Bool) (m k : Nat) (hps : ∀ c ∈ ps, c.clean = true) (hm : m ≤ 2000) (hal : av.length = m + 1) (hpl : ps.length = m * 10) (hk : k < m) (to : Nat) (ht : ps[k * 10 + 8]? = some (.int .i64 (to : Int))) (hn : ps[k * 10 + 9]? = some (.bool false)) (bg : Nat) (u v : Int) (hq : qs[to]? = some (.int .i64 (bg : Int))) (hbg : bg ≤ m) (hu : av[bg]? = some (.int .i64 u)) (hv : av[Int.toNat (IntKind.i64.wrap ((k : Int) + 1))]? = some (.int .i64 v)) (u0 : 0 ≤ u) (u1 : u ≤ 100000) (v0 : 0 ≤ v) (v1 : v ≤ 100000) (d0 : -128 ≤ u - v) (d1 : u - v ≤ 127)  : RoundRun Try.prog (loopB Try.f68 1) ⟨[0, 1, 5, 6, 7], [2, 3, 1000001], []⟩ 4 ((.slc 1 10 m) :: (.lst (.tok 2 0) 1 qs) :: (uu) :: (uu) :: (uu) :: (.lst (.tok 3 0) 1 av) :: (.bool more) :: (.int .i64 (↑k : Int)) :: (un 52)) [.dead, .box ps, .fam 0 1, .fam 0 1] .norm ((.slc 1 10 m) :: (.lst (.tok 2 0) 1 qs) :: (uu) :: (uu) :: (uu) :: (.lst (.tok 3 0) 1 av) :: (.bool more) :: (.int .i64 (IntKind.i64.wrap ((↑k : Int) + 1))) :: (un 52)) ([.dead, .box (List.map D.demote ps), .fam 0 1, .fam 0 1]) := by
 exact RoundRun.of_eval mixed [tC (by ((try simp only [sL] at *); (try unfold big at *); omega) : (decide ((↑k : Int) < (↑m : Int))) = true), .tst (decide (0 ≤ (↑k : Int) ∧ (↑k : Int) < (↑m : Int))) true (by ((try simp only [sL] at *); (try unfold big at *); omega)), .get _ _ _ ht, tT, tT, tT, .tst (decide (0 ≤ (↑k : Int) ∧ (↑k : Int) < (↑m : Int))) true (by ((try simp only [sL] at *); (try unfold big at *); omega)), tT, tT, .get _ _ _ hn, tF, tF, .tst (decide (0 ≤ (↑k : Int) ∧ (↑k : Int) < (↑m : Int))) true (by ((try simp only [sL] at *); (try unfold big at *); omega)), .get _ _ _ ht, tT, .get _ _ _ hq, tT, .get _ _ _ hu, .tst (decide (0 ≤ IntKind.i64.wrap ((↑k : Int) + 1))) true (by ((try simp only [sL] at *); (try unfold big at *); omega)), .get _ _ _ hv, tC (eF (by ((try simp only [sL] at *); (try unfold big at *); omega) : (decide (IntKind.i64.wrap (u - v) < (-128))) = false)), tC (eF (by ((try simp only [sL] at *); (try unfold big at *); omega) : (decide (IntKind.i64.wrap (u - v) < (-128))) = false)), tC (by ((try simp only [sL] at *); (try unfold big at *); omega) : (decide (IntKind.i64.wrap (u - v) < (-128))) = false), tC (ltL 127 (by ((try simp only [sL] at *); (try unfold big at *); omega) : (decide (IntKind.i64.wrap (u - v) < 128)) = true)), .cl ps (by first | exact clAll rfl | exact hps | exact cl_set hps rfl)] (by kernel_rfl)
theorem dj_lo (qs ps av : List D) (more : Bool) (m k : Nat) (hps : ∀ c ∈ ps, c.clean = true) (hm : m ≤ 2000) (hal : av.length = m + 1) (hpl : ps.length = m * 10) (hk : k < m) (to : Nat) (ht : ps[k * 10 + 8]? = some (.int .i64 (to : Int))) (hn : ps[k * 10 + 9]? = some (.bool false)) (bg : Nat) (u v : Int) (hq : qs[to]? = some (.int .i64 (bg : Int))) (hbg : bg ≤ m) (hu : av[bg]? = some (.int .i64 u)) (hv : av[Int.toNat (IntKind.i64.wrap ((k : Int) + 1))]? = some (.int .i64 v)) (u0 : 0 ≤ u) (u1 : u ≤ 100000) (v0 : 0 ≤ v) (v1 : v ≤ 100000) (d0 : u - v < -128)  : RoundRun Try.prog (loopB Try.f68 1) ⟨[0, 1, 5, 6, 7], [2, 3, 1000001], []⟩ 4 ((.slc 1 10 m) :: (.lst (.tok 2 0) 1 qs) :: (uu) :: (uu) :: (uu) :: (.lst (.tok 3 0) 1 av) :: (.bool more) :: (.int .i64 (↑k : Int)) :: (un 52)) [.dead, .box ps, .fam 0 1, .fam 0 1] .norm ((.slc 1 10 m) :: (.lst (.tok 2 0) 1 qs) :: (uu) :: (uu) :: (uu) :: (.lst (.tok 3 0) 1 av) :: (.bool true) :: (.int .i64 (IntKind.i64.wrap ((↑k : Int) + 1))) :: (un 52)) ([.dead, .box (List.map D.demote (List.set ps (Int.toNat (↑k : Int) * (10 : Nat) + (9 : Nat)) (.bool true))), .fam 0 1, .fam 0 1]) := by
 exact RoundRun.of_eval mixed [tC (by ((try simp only [sL] at *); (try unfold big at *); omega) : (decide ((↑k : Int) < (↑m : Int))) = true), .tst (decide (0 ≤ (↑k : Int) ∧ (↑k : Int) < (↑m : Int))) true (by ((try simp only [sL] at *); (try unfold big at *); omega)), .get _ _ _ ht, tT, tT, tT, .tst (decide (0 ≤ (↑k : Int) ∧ (↑k : Int) < (↑m : Int))) true (by ((try simp only [sL] at *); (try unfold big at *); omega)), tT, tT, .get _ _ _ hn, tF, tF, .tst (decide (0 ≤ (↑k : Int) ∧ (↑k : Int) < (↑m : Int))) true (by ((try simp only [sL] at *); (try unfold big at *); omega)), .get _ _ _ ht, tT, .get _ _ _ hq, tT, .get _ _ _ hu, .tst (decide (0 ≤ IntKind.i64.wrap ((↑k : Int) + 1))) true (by ((try simp only [sL] at *); (try unfold big at *); omega)), .get _ _ _ hv, tC (eF (by ((try simp only [sL] at *); (try unfold big at *); omega) : (decide (IntKind.i64.wrap (u - v) < (-128))) = true)), tC (eF (by ((try simp only [sL] at *); (try unfold big at *); omega) : (decide (IntKind.i64.wrap (u - v) < (-128))) = true)), tC (by ((try simp only [sL] at *); (try unfold big at *); omega) : (decide (IntKind.i64.wrap (u - v) < (-128))) = true), tT, .tst (decide (0 ≤ (↑k : Int) ∧ (↑k : Int) < (↑m : Int))) true (by ((try simp only [sL] at *); (try unfold big at *); omega)), .putA _ _ _ _ (@put_set ps (Int.toNat (↑k : Int) * (10 : Nat) + (9 : Nat)) (.bool true) (by ((try simp only [sL] at *); (try unfold big at *); omega))), .raw, .cl (List.set ps (Int.toNat (↑k : Int) * (10 : Nat) + (9 : Nat)) (.bool true)) (by first | exact clAll rfl | exact hps | exact cl_set hps rfl)] (by kernel_rfl)
theorem dj_hi (qs ps av : List D) (more : Bool) (m k : Nat) (hps : ∀ c ∈ ps, c.clean = true) (hm : m ≤ 2000) (hal : av.length = m + 1) (hpl : ps.length = m * 10) (hk : k < m) (to : Nat) (ht : ps[k * 10 + 8]? = some (.int .i64 (to : Int))) (hn : ps[k * 10 + 9]? = some (.bool false)) (bg : Nat) (u v : Int) (hq : qs[to]? = some (.int .i64 (bg : Int))) (hbg : bg ≤ m) (hu : av[bg]? = some (.int .i64 u)) (hv : av[Int.toNat (IntKind.i64.wrap ((k : Int) + 1))]? = some (.int .i64 v)) (u0 : 0 ≤ u) (u1 : u ≤ 100000) (v0 : 0 ≤ v) (v1 : v ≤ 100000) (d0 : 127 < u - v)  : RoundRun Try.prog (loopB Try.f68 1) ⟨[0, 1, 5, 6, 7], [2, 3, 1000001], []⟩ 4 ((.slc 1 10 m) :: (.lst (.tok 2 0) 1 qs) :: (uu) :: (uu) :: (uu) :: (.lst (.tok 3 0) 1 av) :: (.bool more) :: (.int .i64 (↑k : Int)) :: (un 52)) [.dead, .box ps, .fam 0 1, .fam 0 1] .norm ((.slc 1 10 m) :: (.lst (.tok 2 0) 1 qs) :: (uu) :: (uu) :: (uu) :: (.lst (.tok 3 0) 1 av) :: (.bool true) :: (.int .i64 (IntKind.i64.wrap ((↑k : Int) + 1))) :: (un 52)) ([.dead, .box (List.map D.demote (List.set ps (Int.toNat (↑k : Int) * (10 : Nat) + (9 : Nat)) (.bool true))), .fam 0 1, .fam 0 1]) := by
 exact RoundRun.of_eval mixed [tC (by ((try simp only [sL] at *); (try unfold big at *); omega) : (decide ((↑k : Int) < (↑m : Int))) = true), .tst (decide (0 ≤ (↑k : Int) ∧ (↑k : Int) < (↑m : Int))) true (by ((try simp only [sL] at *); (try unfold big at *); omega)), .get _ _ _ ht, tT, tT, tT, .tst (decide (0 ≤ (↑k : Int) ∧ (↑k : Int) < (↑m : Int))) true (by ((try simp only [sL] at *); (try unfold big at *); omega)), tT, tT, .get _ _ _ hn, tF, tF, .tst (decide (0 ≤ (↑k : Int) ∧ (↑k : Int) < (↑m : Int))) true (by ((try simp only [sL] at *); (try unfold big at *); omega)), .get _ _ _ ht, tT, .get _ _ _ hq, tT, .get _ _ _ hu, .tst (decide (0 ≤ IntKind.i64.wrap ((↑k : Int) + 1))) true (by ((try simp only [sL] at *); (try unfold big at *); omega)), .get _ _ _ hv, tC (eF (by ((try simp only [sL] at *); (try unfold big at *); omega) : (decide (IntKind.i64.wrap (u - v) < (-128))) = false)), tC (eF (by ((try simp only [sL] at *); (try unfold big at *); omega) : (decide (IntKind.i64.wrap (u - v) < (-128))) = false)), tC (by ((try simp only [sL] at *); (try unfold big at *); omega) : (decide (IntKind.i64.wrap (u - v) < (-128))) = false), tC (ltL 127 (by ((try simp only [sL] at *); (try unfold big at *); omega) : (decide (IntKind.i64.wrap (u - v) < 128)) = false)), .tst (decide (0 ≤ (↑k : Int) ∧ (↑k : Int) < (↑m : Int))) true (by ((try simp only [sL] at *); (try unfold big at *); omega)), .putA _ _ _ _ (@put_set ps (Int.toNat (↑k : Int) * (10 : Nat) + (9 : Nat)) (.bool true) (by ((try simp only [sL] at *); (try unfold big at *); omega))), .raw, .cl (List.set ps (Int.toNat (↑k : Int) * (10 : Nat) + (9 : Nat)) (.bool true)) (by first | exact clAll rfl | exact hps | exact cl_set hps rfl)] (by kernel_rfl)
theorem rrex_ok (r m : Int) (r0 : 0 ≤ r) (r1 : r ≤ 15) (m0 : 0 ≤ m) (m1 : m ≤ 15) (wide al : Bool) (hn : needM wide r m al = true) : Ret Try.prog 108 ([.bool wide, .int .i8 r, .int .i8 m, .bool al]) (.lst .tight 1 [.int .u8 (rexB wide r m)]) := by
 cases wide
 ·rcases bft (decide (r < 8)) with h0 | h0
  ·rcases bft (decide (m < 8)) with h1 | h1
   ·cases al
    ·exact (o108 (d := .lst .tight 0 []) [tF, tC (ltL 7 h0), tC (ltL 7 h1), tT, tT, tT, tT] (by kernel_rfl)).to (by (simp only [wk, wkL, wkO, D.int.injEq, D.lst.injEq, List.cons.injEq, true_and, and_true, w_u8, w_i64, rexB, true_or]; (try simp only [decide_eq_true_eq, decide_eq_false_iff_not, needM, Bool.or_eq_true, Bool.or_eq_false_iff] at *); first | omega | (simp; omega) | (exfalso; simp at *; omega)))
    exact (o108 (d := .lst .tight 1 [.int .u8 64]) [tF, tC (ltL 7 h0), tC (ltL 7 h1), tT, tT, tT, tF] (by kernel_rfl)).to (by (simp only [wk, wkL, wkO, D.int.injEq, D.lst.injEq, List.cons.injEq, true_and, and_true, w_u8, w_i64, rexB, true_or]; (try simp only [decide_eq_true_eq, decide_eq_false_iff_not, needM, Bool.or_eq_true, Bool.or_eq_false_iff] at *); first | omega | (simp; omega) | (exfalso; simp at *; omega)))
   exact (o108 (d := .lst .tight 1 [.int .u8 65]) [tF, tC (ltL 7 h0), tC (ltL 7 h1), tF, tF, tF, tF] (by kernel_rfl)).to (by (simp only [wk, wkL, wkO, D.int.injEq, D.lst.injEq, List.cons.injEq, true_and, and_true, w_u8, w_i64, rexB, true_or]; (try simp only [decide_eq_true_eq, decide_eq_false_iff_not, needM, Bool.or_eq_true, Bool.or_eq_false_iff] at *); first | omega | (simp; omega) | (exfalso; simp at *; omega)))
  rcases bft (decide (m < 8)) with h2 | h2
  ·exact (o108 (d := .lst .tight 1 [.int .u8 68]) [tF, tC (ltL 7 h0), tC (ltL 7 h2), tF, tF, tF, tF] (by kernel_rfl)).to (by (simp only [wk, wkL, wkO, D.int.injEq, D.lst.injEq, List.cons.injEq, true_and, and_true, w_u8, w_i64, rexB, true_or]; (try simp only [decide_eq_true_eq, decide_eq_false_iff_not, needM, Bool.or_eq_true, Bool.or_eq_false_iff] at *); first | omega | (simp; omega) | (exfalso; simp at *; omega)))
  exact (o108 (d := .lst .tight 1 [.int .u8 69]) [tF, tC (ltL 7 h0), tC (ltL 7 h2), tF, tF, tF, tF] (by kernel_rfl)).to (by (simp only [wk, wkL, wkO, D.int.injEq, D.lst.injEq, List.cons.injEq, true_and, and_true, w_u8, w_i64, rexB, true_or]; (try simp only [decide_eq_true_eq, decide_eq_false_iff_not, needM, Bool.or_eq_true, Bool.or_eq_false_iff] at *); first | omega | (simp; omega) | (exfalso; simp at *; omega)))
 rcases bft (decide (r < 8)) with h3 | h3
 ·rcases bft (decide (m < 8)) with h4 | h4
  ·exact (o108 (d := .lst .tight 1 [.int .u8 72]) [tT, tC (ltL 7 h3), tC (ltL 7 h4), tF, tF, tF, tF] (by kernel_rfl)).to (by (simp only [wk, wkL, wkO, D.int.injEq, D.lst.injEq, List.cons.injEq, true_and, and_true, w_u8, w_i64, rexB, true_or]; (try simp only [decide_eq_true_eq, decide_eq_false_iff_not, needM, Bool.or_eq_true, Bool.or_eq_false_iff] at *); first | omega | (simp; omega) | (exfalso; simp at *; omega)))
  exact (o108 (d := .lst .tight 1 [.int .u8 73]) [tT, tC (ltL 7 h3), tC (ltL 7 h4), tF, tF, tF, tF] (by kernel_rfl)).to (by (simp only [wk, wkL, wkO, D.int.injEq, D.lst.injEq, List.cons.injEq, true_and, and_true, w_u8, w_i64, rexB, true_or]; (try simp only [decide_eq_true_eq, decide_eq_false_iff_not, needM, Bool.or_eq_true, Bool.or_eq_false_iff] at *); first | omega | (simp; omega) | (exfalso; simp at *; omega)))
 rcases bft (decide (m < 8)) with h5 | h5
 ·exact (o108 (d := .lst .tight 1 [.int .u8 76]) [tT, tC (ltL 7 h3), tC (ltL 7 h5), tF, tF, tF, tF] (by kernel_rfl)).to (by (simp only [wk, wkL, wkO, D.int.injEq, D.lst.injEq, List.cons.injEq, true_and, and_true, w_u8, w_i64, rexB, true_or]; (try simp only [decide_eq_true_eq, decide_eq_false_iff_not, needM, Bool.or_eq_true, Bool.or_eq_false_iff] at *); first | omega | (simp; omega) | (exfalso; simp at *; omega)))
 exact (o108 (d := .lst .tight 1 [.int .u8 77]) [tT, tC (ltL 7 h3), tC (ltL 7 h5), tF, tF, tF, tF] (by kernel_rfl)).to (by (simp only [wk, wkL, wkO, D.int.injEq, D.lst.injEq, List.cons.injEq, true_and, and_true, w_u8, w_i64, rexB, true_or]; (try simp only [decide_eq_true_eq, decide_eq_false_iff_not, needM, Bool.or_eq_true, Bool.or_eq_false_iff] at *); first | omega | (simp; omega) | (exfalso; simp at *; omega)))
theorem rrexn_ok (r m : Int) (r0 : 0 ≤ r) (r1 : r ≤ 15) (m0 : 0 ≤ m) (m1 : m ≤ 15) (wide al : Bool) (hn : needM wide r m al = false) : Ret Try.prog 108 ([.bool wide, .int .i8 r, .int .i8 m, .bool al]) (.lst .tight 1 []) := by
 cases wide
 ·rcases bft (decide (r < 8)) with h0 | h0
  ·rcases bft (decide (m < 8)) with h1 | h1
   ·cases al
    ·exact (o108 (d := .lst .tight 0 []) [tF, tC (ltL 7 h0), tC (ltL 7 h1), tT, tT, tT, tT] (by kernel_rfl)).to (by (simp [wk, wkL, wkO]; done))
    exact (o108 (d := .lst .tight 1 [.int .u8 64]) [tF, tC (ltL 7 h0), tC (ltL 7 h1), tT, tT, tT, tF] (by kernel_rfl)).to (by (exfalso; simp [needM] at *; done))
   exact (o108 (d := .lst .tight 1 [.int .u8 65]) [tF, tC (ltL 7 h0), tC (ltL 7 h1), tF, tF, tF, tF] (by kernel_rfl)).to (by (simp only [wk, wkL, wkO, D.int.injEq, D.lst.injEq, List.cons.injEq, true_and, and_true, w_u8, w_i64, rexB, true_or]; (try simp only [decide_eq_true_eq, decide_eq_false_iff_not, needM, Bool.or_eq_true, Bool.or_eq_false_iff] at *); first | omega | (simp; omega) | (exfalso; simp at *; omega)))
  rcases bft (decide (m < 8)) with h2 | h2
  ·exact (o108 (d := .lst .tight 1 [.int .u8 68]) [tF, tC (ltL 7 h0), tC (ltL 7 h2), tF, tF, tF, tF] (by kernel_rfl)).to (by (simp only [wk, wkL, wkO, D.int.injEq, D.lst.injEq, List.cons.injEq, true_and, and_true, w_u8, w_i64, rexB, true_or]; (try simp only [decide_eq_true_eq, decide_eq_false_iff_not, needM, Bool.or_eq_true, Bool.or_eq_false_iff] at *); first | omega | (simp; omega) | (exfalso; simp at *; omega)))
  exact (o108 (d := .lst .tight 1 [.int .u8 69]) [tF, tC (ltL 7 h0), tC (ltL 7 h2), tF, tF, tF, tF] (by kernel_rfl)).to (by (simp only [wk, wkL, wkO, D.int.injEq, D.lst.injEq, List.cons.injEq, true_and, and_true, w_u8, w_i64, rexB, true_or]; (try simp only [decide_eq_true_eq, decide_eq_false_iff_not, needM, Bool.or_eq_true, Bool.or_eq_false_iff] at *); first | omega | (simp; omega) | (exfalso; simp at *; omega)))
 rcases bft (decide (r < 8)) with h3 | h3
 ·rcases bft (decide (m < 8)) with h4 | h4
  ·exact (o108 (d := .lst .tight 1 [.int .u8 72]) [tT, tC (ltL 7 h3), tC (ltL 7 h4), tF, tF, tF, tF] (by kernel_rfl)).to (by (exfalso; simp [needM] at *; done))
  exact (o108 (d := .lst .tight 1 [.int .u8 73]) [tT, tC (ltL 7 h3), tC (ltL 7 h4), tF, tF, tF, tF] (by kernel_rfl)).to (by (simp only [wk, wkL, wkO, D.int.injEq, D.lst.injEq, List.cons.injEq, true_and, and_true, w_u8, w_i64, rexB, true_or]; (try simp only [decide_eq_true_eq, decide_eq_false_iff_not, needM, Bool.or_eq_true, Bool.or_eq_false_iff] at *); first | omega | (simp; omega) | (exfalso; simp at *; omega)))
 rcases bft (decide (m < 8)) with h5 | h5
 ·exact (o108 (d := .lst .tight 1 [.int .u8 76]) [tT, tC (ltL 7 h3), tC (ltL 7 h5), tF, tF, tF, tF] (by kernel_rfl)).to (by (simp only [wk, wkL, wkO, D.int.injEq, D.lst.injEq, List.cons.injEq, true_and, and_true, w_u8, w_i64, rexB, true_or]; (try simp only [decide_eq_true_eq, decide_eq_false_iff_not, needM, Bool.or_eq_true, Bool.or_eq_false_iff] at *); first | omega | (simp; omega) | (exfalso; simp at *; omega)))
 exact (o108 (d := .lst .tight 1 [.int .u8 77]) [tT, tC (ltL 7 h3), tC (ltL 7 h5), tF, tF, tF, tF] (by kernel_rfl)).to (by (simp only [wk, wkL, wkO, D.int.injEq, D.lst.injEq, List.cons.injEq, true_and, and_true, w_u8, w_i64, rexB, true_or]; (try simp only [decide_eq_true_eq, decide_eq_false_iff_not, needM, Bool.or_eq_true, Bool.or_eq_false_iff] at *); first | omega | (simp; omega) | (exfalso; simp at *; omega)))
theorem rmem4_ok (r b disp : Int) (r0 : 0 ≤ r) (r1 : r ≤ 15) (m0 : 0 ≤ b) (m1 : b ≤ 15) (h0 : -2147483648 ≤ disp) (h1 : disp ≤ 2147483647) (hb : decide (b % 8 = 4) = true) : Ret Try.prog 111 ([.int .i8 r, .int .i8 b, .int .i64 disp]) (.lst .no 1 [.int .u8 (128 + 8 * (r % 8) + b % 8), .int .u8 36, .int .u8 (disp % 256), .int .u8 (disp / 256 % 256), .int .u8 (disp / 65536 % 256), .int .u8 (disp / 16777216 % 256)]) := by
 have c0 := @rdir2_ok disp
 exact (o111 (d := .lst (.fresh 1) 1 [.int .u8 (IntKind.wrap IntKind.u8 (IntKind.i64.wrap (IntKind.i64.wrap (128 + IntKind.i64.wrap (8 * IntKind.i64.wrap (IntKind.wrap IntKind.i8 (↑(BitVec.toNat (BitVec.ofInt (8 : Nat) r &&& BitVec.ofInt (8 : Nat) 7)) : Int)))) + IntKind.i64.wrap (IntKind.wrap IntKind.i8 (↑(BitVec.toNat (BitVec.ofInt (8 : Nat) b &&& BitVec.ofInt (8 : Nat) 7)) : Int))))), .int .u8 36, .int .u8 (disp % 256), .int .u8 (disp / 256 % 256), .int .u8 (disp / 65536 % 256), .int .u8 (disp / 16777216 % 256)]) [tC (eqI 4 true (eq_of_beq (@sib_t b hb))), .len 2 2147483648 (by decide), .ret _ _ _ c0, .len 6 2147483648 (by decide)] (by kernel_rfl)).to (by simp only [wk, wkL, wkO, D.int.injEq, D.lst.injEq, List.cons.injEq, true_and, and_true, and7, w_u8, w_i8, w_i64, w_u64, true_or]; (simp; omega))
theorem rmemn_ok (r b disp : Int) (r0 : 0 ≤ r) (r1 : r ≤ 15) (m0 : 0 ≤ b) (m1 : b ≤ 15) (h0 : -2147483648 ≤ disp) (h1 : disp ≤ 2147483647) (hb : decide (b % 8 = 4) = false) : Ret Try.prog 111 ([.int .i8 r, .int .i8 b, .int .i64 disp]) (.lst .no 1 [.int .u8 (128 + 8 * (r % 8) + b % 8), .int .u8 (disp % 256), .int .u8 (disp / 256 % 256), .int .u8 (disp / 65536 % 256), .int .u8 (disp / 16777216 % 256)]) := by
 have c0 := @rdir2_ok disp
 exact (o111 (d := .lst (.fresh 1) 1 [.int .u8 (IntKind.wrap IntKind.u8 (IntKind.i64.wrap (IntKind.i64.wrap (128 + IntKind.i64.wrap (8 * IntKind.i64.wrap (IntKind.wrap IntKind.i8 (↑(BitVec.toNat (BitVec.ofInt (8 : Nat) r &&& BitVec.ofInt (8 : Nat) 7)) : Int)))) + IntKind.i64.wrap (IntKind.wrap IntKind.i8 (↑(BitVec.toNat (BitVec.ofInt (8 : Nat) b &&& BitVec.ofInt (8 : Nat) 7)) : Int))))), .int .u8 (disp % 256), .int .u8 (disp / 256 % 256), .int .u8 (disp / 65536 % 256), .int .u8 (disp / 16777216 % 256)]) [tC (@sib_f b hb), .ret _ _ _ c0, .len 5 2147483648 (by decide)] (by kernel_rfl)).to (by simp only [wk, wkL, wkO, D.int.injEq, D.lst.injEq, List.cons.injEq, true_and, and_true, and7, w_u8, w_i8, w_i64, w_u64, true_or]; (simp; omega))
def SpXR2a0 (k0_ : Int) : Prop := ∀ (w dst src base disp imm cc : Int) (d0 : 0 ≤ dst) (d1 : dst ≤ 15) (s0 : 0 ≤ src) (s1 : src ≤ 15) (b0 : 0 ≤ base) (b1 : base ≤ 15) (p0 : -2147483648 ≤ disp) (p1 : disp ≤ 2147483647) (i0 : -2147483648 ≤ imm) (i1 : imm ≤ 2147483647) (c0 : 0 ≤ cc) (c1 : cc ≤ 15) (hm : mayX k0_ w dst src base disp imm cc = true), Ret Try.prog 55 ([xD k0_ w dst src base disp imm cc]) (.tup [.lst .no 1 (bD (bytesM k0_ w dst src base disp imm cc)), .int .i64 0])
theorem rbytes_0_ok : SpXR2a0 0 := by
 intro w dst src base disp imm cc d0 d1 s0 s1 b0 b1 p0 p1 i0 i1 c0 c1 hm
 have c0 := @rmayX_ok 0 w dst src base disp imm cc
 rw [hm] at c0
 have c1 := @class_ok 0
 rcases bft (needM (w == 64) src dst false) with h2 | h2
 ·have c3 := @rrex_ok src dst s0 s1 d0 d1 (w == 64) false h2
  generalize g5 : rexB (w == 64) src dst = r4 at c3
  have c6 := @rdirect_ok src dst s0 s1 d0 d1
  generalize g8 : regsM src dst = r7 at c6
  exact (o55 (d := .tup [.lst (.fresh 1) 1 [.int .u8 r4, .int .u8 137, .int .u8 r7], .int .i64 0]) [.ret _ _ _ c0, tF, .inl, tT, tF, .ret _ _ _ c1, tT, .ret _ _ _ c3, .ret _ _ _ c6, .len 3 2147483648 (by decide)] (by kernel_rfl)).to (by (subst_vars; (try simp only [beq_dec] at *); (try simp only [beq_iff_eq] at h); (try simp only [decide_eq_true_eq, decide_eq_false_iff_not] at *); simp_all [wk, wkL, wkO, bytesM, show shapeM 0 = 1 from rfl, bD, rexM, memM, fourM, w_u8, w_i64, codeM, numM]; done))
 have c9 := @rrexn_ok src dst s0 s1 d0 d1 (w == 64) false h2
 have c10 := @rdirect_ok src dst s0 s1 d0 d1
 generalize g12 : regsM src dst = r11 at c10
 exact (o55 (d := .tup [.lst (.fresh 1) 1 [.int .u8 137, .int .u8 r11], .int .i64 0]) [.ret _ _ _ c0, tF, .inl, tT, tF, .ret _ _ _ c1, tT, .ret _ _ _ c9, .ret _ _ _ c10, .len 2 2147483648 (by decide)] (by kernel_rfl)).to (by (subst_vars; (try simp only [beq_dec] at *); (try simp only [beq_iff_eq] at h); (try simp only [decide_eq_true_eq, decide_eq_false_iff_not] at *); simp_all [wk, wkL, wkO, bytesM, show shapeM 0 = 1 from rfl, bD, rexM, memM, fourM, w_u8, w_i64, codeM, numM]; done))
theorem rbytes_2_ok : SpXR2a0 2 := by
 intro w dst src base disp imm cc d0 d1 s0 s1 b0 b1 p0 p1 i0 i1 c0 c1 hm
 have c0 := @rmayX_ok 2 w dst src base disp imm cc
 rw [hm] at c0
 have c1 := @class_ok 2
 rcases bft (needM (w == 64) src dst false) with h2 | h2
 ·have c3 := @rrex_ok src dst s0 s1 d0 d1 (w == 64) false h2
  generalize g5 : rexB (w == 64) src dst = r4 at c3
  have c6 := @rdirect_ok src dst s0 s1 d0 d1
  generalize g8 : regsM src dst = r7 at c6
  exact (o55 (d := .tup [.lst (.fresh 1) 1 [.int .u8 r4, .int .u8 1, .int .u8 r7], .int .i64 0]) [.ret _ _ _ c0, tF, .inl, tF, tT, tF, .ret _ _ _ c1, tT, .ret _ _ _ c3, .ret _ _ _ c6, .len 3 2147483648 (by decide)] (by kernel_rfl)).to (by (subst_vars; (try simp only [beq_dec] at *); (try simp only [beq_iff_eq] at h); (try simp only [decide_eq_true_eq, decide_eq_false_iff_not] at *); simp_all [wk, wkL, wkO, bytesM, show shapeM 2 = 1 from rfl, bD, rexM, memM, fourM, w_u8, w_i64, codeM, numM]; done))
 have c9 := @rrexn_ok src dst s0 s1 d0 d1 (w == 64) false h2
 have c10 := @rdirect_ok src dst s0 s1 d0 d1
 generalize g12 : regsM src dst = r11 at c10
 exact (o55 (d := .tup [.lst (.fresh 1) 1 [.int .u8 1, .int .u8 r11], .int .i64 0]) [.ret _ _ _ c0, tF, .inl, tF, tT, tF, .ret _ _ _ c1, tT, .ret _ _ _ c9, .ret _ _ _ c10, .len 2 2147483648 (by decide)] (by kernel_rfl)).to (by (subst_vars; (try simp only [beq_dec] at *); (try simp only [beq_iff_eq] at h); (try simp only [decide_eq_true_eq, decide_eq_false_iff_not] at *); simp_all [wk, wkL, wkO, bytesM, show shapeM 2 = 1 from rfl, bD, rexM, memM, fourM, w_u8, w_i64, codeM, numM]; done))
theorem rbytes_3_ok : SpXR2a0 3 := by
 intro w dst src base disp imm cc d0 d1 s0 s1 b0 b1 p0 p1 i0 i1 c0 c1 hm
 have c0 := @rmayX_ok 3 w dst src base disp imm cc
 rw [hm] at c0
 have c1 := @class_ok 3
 rcases bft (needM (w == 64) src dst false) with h2 | h2
 ·have c3 := @rrex_ok src dst s0 s1 d0 d1 (w == 64) false h2
  generalize g5 : rexB (w == 64) src dst = r4 at c3
  have c6 := @rdirect_ok src dst s0 s1 d0 d1
  generalize g8 : regsM src dst = r7 at c6
  exact (o55 (d := .tup [.lst (.fresh 1) 1 [.int .u8 r4, .int .u8 9, .int .u8 r7], .int .i64 0]) [.ret _ _ _ c0, tF, .inl, tF, tF, tT, tF, .ret _ _ _ c1, tT, .ret _ _ _ c3, .ret _ _ _ c6, .len 3 2147483648 (by decide)] (by kernel_rfl)).to (by (subst_vars; (try simp only [beq_dec] at *); (try simp only [beq_iff_eq] at h); (try simp only [decide_eq_true_eq, decide_eq_false_iff_not] at *); simp_all [wk, wkL, wkO, bytesM, show shapeM 3 = 1 from rfl, bD, rexM, memM, fourM, w_u8, w_i64, codeM, numM]; done))
 have c9 := @rrexn_ok src dst s0 s1 d0 d1 (w == 64) false h2
 have c10 := @rdirect_ok src dst s0 s1 d0 d1
 generalize g12 : regsM src dst = r11 at c10
 exact (o55 (d := .tup [.lst (.fresh 1) 1 [.int .u8 9, .int .u8 r11], .int .i64 0]) [.ret _ _ _ c0, tF, .inl, tF, tF, tT, tF, .ret _ _ _ c1, tT, .ret _ _ _ c9, .ret _ _ _ c10, .len 2 2147483648 (by decide)] (by kernel_rfl)).to (by (subst_vars; (try simp only [beq_dec] at *); (try simp only [beq_iff_eq] at h); (try simp only [decide_eq_true_eq, decide_eq_false_iff_not] at *); simp_all [wk, wkL, wkO, bytesM, show shapeM 3 = 1 from rfl, bD, rexM, memM, fourM, w_u8, w_i64, codeM, numM]; done))
theorem rbytes_4_ok : SpXR2a0 4 := by
 intro w dst src base disp imm cc d0 d1 s0 s1 b0 b1 p0 p1 i0 i1 c0 c1 hm
 have c0 := @rmayX_ok 4 w dst src base disp imm cc
 rw [hm] at c0
 have c1 := @class_ok 4
 rcases bft (needM (w == 64) src dst false) with h2 | h2
 ·have c3 := @rrex_ok src dst s0 s1 d0 d1 (w == 64) false h2
  generalize g5 : rexB (w == 64) src dst = r4 at c3
  have c6 := @rdirect_ok src dst s0 s1 d0 d1
  generalize g8 : regsM src dst = r7 at c6
  exact (o55 (d := .tup [.lst (.fresh 1) 1 [.int .u8 r4, .int .u8 33, .int .u8 r7], .int .i64 0]) [.ret _ _ _ c0, tF, .inl, tF, tF, tF, tT, tF, .ret _ _ _ c1, tT, .ret _ _ _ c3, .ret _ _ _ c6, .len 3 2147483648 (by decide)] (by kernel_rfl)).to (by (subst_vars; (try simp only [beq_dec] at *); (try simp only [beq_iff_eq] at h); (try simp only [decide_eq_true_eq, decide_eq_false_iff_not] at *); simp_all [wk, wkL, wkO, bytesM, show shapeM 4 = 1 from rfl, bD, rexM, memM, fourM, w_u8, w_i64, codeM, numM]; done))
 have c9 := @rrexn_ok src dst s0 s1 d0 d1 (w == 64) false h2
 have c10 := @rdirect_ok src dst s0 s1 d0 d1
 generalize g12 : regsM src dst = r11 at c10
 exact (o55 (d := .tup [.lst (.fresh 1) 1 [.int .u8 33, .int .u8 r11], .int .i64 0]) [.ret _ _ _ c0, tF, .inl, tF, tF, tF, tT, tF, .ret _ _ _ c1, tT, .ret _ _ _ c9, .ret _ _ _ c10, .len 2 2147483648 (by decide)] (by kernel_rfl)).to (by (subst_vars; (try simp only [beq_dec] at *); (try simp only [beq_iff_eq] at h); (try simp only [decide_eq_true_eq, decide_eq_false_iff_not] at *); simp_all [wk, wkL, wkO, bytesM, show shapeM 4 = 1 from rfl, bD, rexM, memM, fourM, w_u8, w_i64, codeM, numM]; done))
theorem rbytes_5_ok : SpXR2a0 5 := by
 intro w dst src base disp imm cc d0 d1 s0 s1 b0 b1 p0 p1 i0 i1 c0 c1 hm
 have c0 := @rmayX_ok 5 w dst src base disp imm cc
 rw [hm] at c0
 have c1 := @class_ok 5
 rcases bft (needM (w == 64) src dst false) with h2 | h2
 ·have c3 := @rrex_ok src dst s0 s1 d0 d1 (w == 64) false h2
  generalize g5 : rexB (w == 64) src dst = r4 at c3
  have c6 := @rdirect_ok src dst s0 s1 d0 d1
  generalize g8 : regsM src dst = r7 at c6
  exact (o55 (d := .tup [.lst (.fresh 1) 1 [.int .u8 r4, .int .u8 41, .int .u8 r7], .int .i64 0]) [.ret _ _ _ c0, tF, .inl, tF, tF, tF, tF, tT, tF, .ret _ _ _ c1, tT, .ret _ _ _ c3, .ret _ _ _ c6, .len 3 2147483648 (by decide)] (by kernel_rfl)).to (by (subst_vars; (try simp only [beq_dec] at *); (try simp only [beq_iff_eq] at h); (try simp only [decide_eq_true_eq, decide_eq_false_iff_not] at *); simp_all [wk, wkL, wkO, bytesM, show shapeM 5 = 1 from rfl, bD, rexM, memM, fourM, w_u8, w_i64, codeM, numM]; done))
 have c9 := @rrexn_ok src dst s0 s1 d0 d1 (w == 64) false h2
 have c10 := @rdirect_ok src dst s0 s1 d0 d1
 generalize g12 : regsM src dst = r11 at c10
 exact (o55 (d := .tup [.lst (.fresh 1) 1 [.int .u8 41, .int .u8 r11], .int .i64 0]) [.ret _ _ _ c0, tF, .inl, tF, tF, tF, tF, tT, tF, .ret _ _ _ c1, tT, .ret _ _ _ c9, .ret _ _ _ c10, .len 2 2147483648 (by decide)] (by kernel_rfl)).to (by (subst_vars; (try simp only [beq_dec] at *); (try simp only [beq_iff_eq] at h); (try simp only [decide_eq_true_eq, decide_eq_false_iff_not] at *); simp_all [wk, wkL, wkO, bytesM, show shapeM 5 = 1 from rfl, bD, rexM, memM, fourM, w_u8, w_i64, codeM, numM]; done))
theorem rbytes_6_ok : SpXR2a0 6 := by
 intro w dst src base disp imm cc d0 d1 s0 s1 b0 b1 p0 p1 i0 i1 c0 c1 hm
 have c0 := @rmayX_ok 6 w dst src base disp imm cc
 rw [hm] at c0
 have c1 := @class_ok 6
 let E1 : EL := [.ret _ _ _ c0, tF, .inl, tF, tF, tF, tF, tF, tT, tF, .ret _ _ _ c1, tT]
 rcases bft (needM (w == 64) src dst false) with h2 | h2
 ·have c3 := @rrex_ok src dst s0 s1 d0 d1 (w == 64) false h2
  generalize g5 : rexB (w == 64) src dst = r4 at c3
  have c6 := @rdirect_ok src dst s0 s1 d0 d1
  generalize g8 : regsM src dst = r7 at c6
  exact (o55 (d := .tup [.lst (.fresh 1) 1 [.int .u8 r4, .int .u8 49, .int .u8 r7], .int .i64 0]) (E1 ++ [.ret _ _ _ c3, .ret _ _ _ c6, .len 3 2147483648 (by decide)]) (by kernel_rfl)).to (by clear E1; (subst_vars; (try simp only [beq_dec] at *); (try simp only [beq_iff_eq] at h); (try simp only [decide_eq_true_eq, decide_eq_false_iff_not] at *); simp_all [wk, wkL, wkO, bytesM, show shapeM 6 = 1 from rfl, bD, rexM, memM, fourM, w_u8, w_i64, codeM, numM]; done))
 have c9 := @rrexn_ok src dst s0 s1 d0 d1 (w == 64) false h2
 have c10 := @rdirect_ok src dst s0 s1 d0 d1
 generalize g12 : regsM src dst = r11 at c10
 exact (o55 (d := .tup [.lst (.fresh 1) 1 [.int .u8 49, .int .u8 r11], .int .i64 0]) (E1 ++ [.ret _ _ _ c9, .ret _ _ _ c10, .len 2 2147483648 (by decide)]) (by kernel_rfl)).to (by clear E1; (subst_vars; (try simp only [beq_dec] at *); (try simp only [beq_iff_eq] at h); (try simp only [decide_eq_true_eq, decide_eq_false_iff_not] at *); simp_all [wk, wkL, wkO, bytesM, show shapeM 6 = 1 from rfl, bD, rexM, memM, fourM, w_u8, w_i64, codeM, numM]; done))
theorem rbytes_7_ok : SpXR2a0 7 := by
 intro w dst src base disp imm cc d0 d1 s0 s1 b0 b1 p0 p1 i0 i1 c0 c1 hm
 have c0 := @rmayX_ok 7 w dst src base disp imm cc
 rw [hm] at c0
 have c1 := @class_ok 7
 let E1 : EL := [.ret _ _ _ c0, tF, .inl, tF, tF, tF, tF, tF, tF, tT, tF, .ret _ _ _ c1, tT]
 rcases bft (needM (w == 64) src dst false) with h2 | h2
 ·have c3 := @rrex_ok src dst s0 s1 d0 d1 (w == 64) false h2
  generalize g5 : rexB (w == 64) src dst = r4 at c3
  have c6 := @rdirect_ok src dst s0 s1 d0 d1
  generalize g8 : regsM src dst = r7 at c6
  exact (o55 (d := .tup [.lst (.fresh 1) 1 [.int .u8 r4, .int .u8 57, .int .u8 r7], .int .i64 0]) (E1 ++ [.ret _ _ _ c3, .ret _ _ _ c6, .len 3 2147483648 (by decide)]) (by kernel_rfl)).to (by clear E1; (subst_vars; (try simp only [beq_dec] at *); (try simp only [beq_iff_eq] at h); (try simp only [decide_eq_true_eq, decide_eq_false_iff_not] at *); simp_all [wk, wkL, wkO, bytesM, show shapeM 7 = 1 from rfl, bD, rexM, memM, fourM, w_u8, w_i64, codeM, numM]; done))
 have c9 := @rrexn_ok src dst s0 s1 d0 d1 (w == 64) false h2
 have c10 := @rdirect_ok src dst s0 s1 d0 d1
 generalize g12 : regsM src dst = r11 at c10
 exact (o55 (d := .tup [.lst (.fresh 1) 1 [.int .u8 57, .int .u8 r11], .int .i64 0]) (E1 ++ [.ret _ _ _ c9, .ret _ _ _ c10, .len 2 2147483648 (by decide)]) (by kernel_rfl)).to (by clear E1; (subst_vars; (try simp only [beq_dec] at *); (try simp only [beq_iff_eq] at h); (try simp only [decide_eq_true_eq, decide_eq_false_iff_not] at *); simp_all [wk, wkL, wkO, bytesM, show shapeM 7 = 1 from rfl, bD, rexM, memM, fourM, w_u8, w_i64, codeM, numM]; done))
theorem rbytes_8_ok : SpXR2a0 8 := by
 intro w dst src base disp imm cc d0 d1 s0 s1 b0 b1 p0 p1 i0 i1 c0 c1 hm
 have c0 := @rmayX_ok 8 w dst src base disp imm cc
 rw [hm] at c0
 have c1 := @class_ok 8
 let E1 : EL := [.ret _ _ _ c0, tF, .inl, tF, tF, tF, tF, tF, tF, tF, tT, tF, .ret _ _ _ c1, tT]
 rcases bft (needM (w == 64) src dst false) with h2 | h2
 ·have c3 := @rrex_ok src dst s0 s1 d0 d1 (w == 64) false h2
  generalize g5 : rexB (w == 64) src dst = r4 at c3
  have c6 := @rdirect_ok src dst s0 s1 d0 d1
  generalize g8 : regsM src dst = r7 at c6
  exact (o55 (d := .tup [.lst (.fresh 1) 1 [.int .u8 r4, .int .u8 133, .int .u8 r7], .int .i64 0]) (E1 ++ [.ret _ _ _ c3, .ret _ _ _ c6, .len 3 2147483648 (by decide)]) (by kernel_rfl)).to (by clear E1; (subst_vars; (try simp only [beq_dec] at *); (try simp only [beq_iff_eq] at h); (try simp only [decide_eq_true_eq, decide_eq_false_iff_not] at *); simp_all [wk, wkL, wkO, bytesM, show shapeM 8 = 1 from rfl, bD, rexM, memM, fourM, w_u8, w_i64, codeM, numM]; done))
 have c9 := @rrexn_ok src dst s0 s1 d0 d1 (w == 64) false h2
 have c10 := @rdirect_ok src dst s0 s1 d0 d1
 generalize g12 : regsM src dst = r11 at c10
 exact (o55 (d := .tup [.lst (.fresh 1) 1 [.int .u8 133, .int .u8 r11], .int .i64 0]) (E1 ++ [.ret _ _ _ c9, .ret _ _ _ c10, .len 2 2147483648 (by decide)]) (by kernel_rfl)).to (by clear E1; (subst_vars; (try simp only [beq_dec] at *); (try simp only [beq_iff_eq] at h); (try simp only [decide_eq_true_eq, decide_eq_false_iff_not] at *); simp_all [wk, wkL, wkO, bytesM, show shapeM 8 = 1 from rfl, bD, rexM, memM, fourM, w_u8, w_i64, codeM, numM]; done))
theorem rbytes_16_ok : SpXR2a0 16 := by
 intro w dst src base disp imm cc d0 d1 s0 s1 b0 b1 p0 p1 i0 i1 c0 c1 hm
 have c0 := @rmayX_ok 16 w dst src base disp imm cc
 rw [hm] at c0
 rcases bft (needM (w == 64) dst src false) with h1 | h1
 ·have c2 := @rrex_ok dst src d0 d1 s0 s1 (w == 64) false h1
  generalize g4 : rexB (w == 64) dst src = r3 at c2
  have c5 := @rdirect_ok dst src d0 d1 s0 s1
  generalize g7 : regsM dst src = r6 at c5
  exact (o55 (d := .tup [.lst (.fresh 1) 1 [.int .u8 r3, .int .u8 15, .int .u8 175, .int .u8 r6], .int .i64 0]) ([.ret _ _ _ c0, tF, .inl] ++ List.replicate 23 tF ++ [tT, .ret _ _ _ c2, .ret _ _ _ c5, .len 4 2147483648 (by decide)]) (by kernel_rfl)).to (by (subst_vars; (try simp only [beq_dec] at *); (try simp only [beq_iff_eq] at h); (try simp only [decide_eq_true_eq, decide_eq_false_iff_not] at *); simp_all [wk, wkL, wkO, bytesM, show shapeM 16 = 2 from rfl, bD, rexM, memM, fourM, w_u8, w_i64, codeM, numM]; done))
 have c8 := @rrexn_ok dst src d0 d1 s0 s1 (w == 64) false h1
 have c9 := @rdirect_ok dst src d0 d1 s0 s1
 generalize g11 : regsM dst src = r10 at c9
 exact (o55 (d := .tup [.lst (.fresh 1) 1 [.int .u8 15, .int .u8 175, .int .u8 r10], .int .i64 0]) ([.ret _ _ _ c0, tF, .inl] ++ List.replicate 23 tF ++ [tT, .ret _ _ _ c8, .ret _ _ _ c9, .len 3 2147483648 (by decide)]) (by kernel_rfl)).to (by (subst_vars; (try simp only [beq_dec] at *); (try simp only [beq_iff_eq] at h); (try simp only [decide_eq_true_eq, decide_eq_false_iff_not] at *); simp_all [wk, wkL, wkO, bytesM, show shapeM 16 = 2 from rfl, bD, rexM, memM, fourM, w_u8, w_i64, codeM, numM]; done))
theorem rbytes_25_ok : SpXR2a0 25 := by
 intro w dst src base disp imm cc d0 d1 s0 s1 b0 b1 p0 p1 i0 i1 c0 c1 hm
 have c0 := @rmayX_ok 25 w dst src base disp imm cc
 rw [hm] at c0
 have c1 := @class_ok 25
 have c2 := @class_ok 25
 have c3 := @class_ok 25
 have c4 := @class_ok 25
 let E1 : EL := ([.ret _ _ _ c0, tF, .inl] ++ List.replicate 24 tF ++ [.ret _ _ _ c1, tF, tF, .ret _ _ _ c2, tF, .ret _ _ _ c3, tF, .ret _ _ _ c4, tF, tT])
 rcases bft (needM (w == 64) dst src false) with h5 | h5
 ·have c6 := @rrex_ok dst src d0 d1 s0 s1 (w == 64) false h5
  generalize g8 : rexB (w == 64) dst src = r7 at c6
  have c9 := @rdirect_ok dst src d0 d1 s0 s1
  generalize g11 : regsM dst src = r10 at c9
  exact (o55 (d := .tup [.lst (.fresh 1) 1 [.int .u8 r7, .int .u8 15, .int .u8 (IntKind.wrap IntKind.u8 (IntKind.i64.wrap (64 + IntKind.wrap IntKind.i64 cc))), .int .u8 r10], .int .i64 0]) (E1 ++ [.ret _ _ _ c6, .ret _ _ _ c9, .len 4 2147483648 (by decide)]) (by kernel_rfl)).to (by clear E1; (subst_vars; (try simp only [beq_dec] at *); (try simp only [beq_iff_eq] at h); (try simp only [decide_eq_true_eq, decide_eq_false_iff_not] at *); simp_all [wk, wkL, wkO, bytesM, show shapeM 25 = 6 from rfl, bD, rexM, memM, fourM, w_u8, w_i64]; omega))
 have c12 := @rrexn_ok dst src d0 d1 s0 s1 (w == 64) false h5
 have c13 := @rdirect_ok dst src d0 d1 s0 s1
 generalize g15 : regsM dst src = r14 at c13
 exact (o55 (d := .tup [.lst (.fresh 1) 1 [.int .u8 15, .int .u8 (IntKind.wrap IntKind.u8 (IntKind.i64.wrap (64 + IntKind.wrap IntKind.i64 cc))), .int .u8 r14], .int .i64 0]) (E1 ++ [.ret _ _ _ c12, .ret _ _ _ c13, .len 3 2147483648 (by decide)]) (by kernel_rfl)).to (by clear E1; (subst_vars; (try simp only [beq_dec] at *); (try simp only [beq_iff_eq] at h); (try simp only [decide_eq_true_eq, decide_eq_false_iff_not] at *); simp_all [wk, wkL, wkO, bytesM, show shapeM 25 = 6 from rfl, bD, rexM, memM, fourM, w_u8, w_i64]; omega))
theorem rbytes_1_ok (w dst src base disp imm cc : Int) (d0 : 0 ≤ dst) (d1 : dst ≤ 15) (s0 : 0 ≤ src) (s1 : src ≤ 15) (b0 : 0 ≤ base) (b1 : base ≤ 15) (p0 : -2147483648 ≤ disp) (p1 : disp ≤ 2147483647) (i0 : -2147483648 ≤ imm) (i1 : imm ≤ 2147483647) (c0 : 0 ≤ cc) (c1 : cc ≤ 15) (hw : w = 32 ∨ w = 64) (hm : mayX 1 w dst src base disp imm cc = true) : Ret Try.prog 55 ([xD 1 w dst src base disp imm cc]) (.tup [.lst .no 1 (bD (bytesM 1 w dst src base disp imm cc)), .int .i64 0]) := by
 have c0 := @rmayX_ok 1 w dst src base disp imm cc
 rw [hm] at c0
 have c1 := @class_ok 1
 let E1 : EL := ([.ret _ _ _ c0, tF, .inl] ++ List.replicate 24 tF ++ [.ret _ _ _ c1, tF, tT])
 rcases bft (needM (w == 64) 0 dst false) with h2 | h2
 ·have c3 := @rrex_ok 0 dst (by decide) (by decide) d0 d1 (w == 64) false h2
  generalize g5 : rexB (w == 64) 0 dst = r4 at c3
  by_cases h6 : w = 64
  ·subst h6
   have c7 := @rdirect_ok 0 dst (by decide) (by decide) d0 d1
   generalize g9 : regsM 0 dst = r8 at c7
   have c10 := @rdir2_ok imm
   exact (o55 (d := .tup [.lst (.fresh 1) 1 [.int .u8 r4, .int .u8 199, .int .u8 r8, .int .u8 (imm % 256), .int .u8 (imm / 256 % 256), .int .u8 (imm / 65536 % 256), .int .u8 (imm / 16777216 % 256)], .int .i64 0]) (E1 ++ [.ret _ _ _ c3, tT, .ret _ _ _ c7, .len 3 2147483648 (by decide), .ret _ _ _ c10, .len 7 2147483648 (by decide)]) (by kernel_rfl)).to (by clear E1; ((try simp only [and7]); subst_vars; (try simp only [beq_dec] at *); (try simp only [beq_iff_eq] at h); (try simp only [decide_eq_true_eq, decide_eq_false_iff_not] at *); simp_all [wk, wkL, wkO, bytesM, show shapeM 1 = 3 from rfl, bD, rexM, memM, fourM, w_u8, w_i64, w_i8, codeM, numM]; done))
  have c11 := @rdir2_ok imm
  exact (o55 (d := .tup [.lst (.fresh 1) 1 [.int .u8 r4, .int .u8 (IntKind.wrap IntKind.u8 (IntKind.i64.wrap (184 + IntKind.i64.wrap (IntKind.wrap IntKind.i8 (↑(BitVec.toNat (BitVec.ofInt (8 : Nat) dst &&& BitVec.ofInt (8 : Nat) 7)) : Int))))), .int .u8 (imm % 256), .int .u8 (imm / 256 % 256), .int .u8 (imm / 65536 % 256), .int .u8 (imm / 16777216 % 256)], .int .i64 0]) (E1 ++ [.ret _ _ _ c3, tC (neOf h6), .len 2 2147483648 (by decide), .ret _ _ _ c11, .len 6 2147483648 (by decide)]) (by kernel_rfl)).to (by clear E1; ((try simp only [and7]); subst_vars; (try simp only [beq_dec] at *); (try simp only [beq_iff_eq] at h); (try simp only [decide_eq_true_eq, decide_eq_false_iff_not] at *); simp_all [wk, wkL, wkO, bytesM, show shapeM 1 = 3 from rfl, bD, rexM, memM, fourM, w_u8, w_i64, w_i8]; omega))
 have c12 := @rrexn_ok 0 dst (by decide) (by decide) d0 d1 (w == 64) false h2
 by_cases h13 : w = 64
 ·subst h13
  have c14 := @rdirect_ok 0 dst (by decide) (by decide) d0 d1
  generalize g16 : regsM 0 dst = r15 at c14
  have c17 := @rdir2_ok imm
  exact (o55 (d := .tup [.lst (.fresh 1) 1 [.int .u8 199, .int .u8 r15, .int .u8 (imm % 256), .int .u8 (imm / 256 % 256), .int .u8 (imm / 65536 % 256), .int .u8 (imm / 16777216 % 256)], .int .i64 0]) (E1 ++ [.ret _ _ _ c12, tT, .ret _ _ _ c14, .len 2 2147483648 (by decide), .ret _ _ _ c17, .len 6 2147483648 (by decide)]) (by kernel_rfl)).to (by clear E1; ((try simp only [and7]); subst_vars; (try simp only [beq_dec] at *); (try simp only [beq_iff_eq] at h); (try simp only [decide_eq_true_eq, decide_eq_false_iff_not] at *); simp_all [wk, wkL, wkO, bytesM, show shapeM 1 = 3 from rfl, bD, rexM, memM, fourM, w_u8, w_i64, w_i8, codeM, numM]; done))
 have c18 := @rdir2_ok imm
 exact (o55 (d := .tup [.lst (.fresh 1) 1 [.int .u8 (IntKind.wrap IntKind.u8 (IntKind.i64.wrap (184 + IntKind.i64.wrap (IntKind.wrap IntKind.i8 (↑(BitVec.toNat (BitVec.ofInt (8 : Nat) dst &&& BitVec.ofInt (8 : Nat) 7)) : Int))))), .int .u8 (imm % 256), .int .u8 (imm / 256 % 256), .int .u8 (imm / 65536 % 256), .int .u8 (imm / 16777216 % 256)], .int .i64 0]) (E1 ++ [.ret _ _ _ c12, tC (neOf h13), .len 1 2147483648 (by decide), .ret _ _ _ c18, .len 5 2147483648 (by decide)]) (by kernel_rfl)).to (by clear E1; ((try simp only [and7]); subst_vars; (try simp only [beq_dec] at *); (try simp only [beq_iff_eq] at h); (try simp only [decide_eq_true_eq, decide_eq_false_iff_not] at *); simp_all [wk, wkL, wkO, bytesM, show shapeM 1 = 3 from rfl, bD, rexM, memM, fourM, w_u8, w_i64, w_i8]; omega))
def SpXR2b0 (k0_ : Int) : Prop := ∀ (w dst src base disp imm cc : Int) (d0 : 0 ≤ dst) (d1 : dst ≤ 15) (s0 : 0 ≤ src) (s1 : src ≤ 15) (b0 : 0 ≤ base) (b1 : base ≤ 15) (p0 : -2147483648 ≤ disp) (p1 : disp ≤ 2147483647) (i0 : -2147483648 ≤ imm) (i1 : imm ≤ 2147483647) (c0 : 0 ≤ cc) (c1 : cc ≤ 15) (hm : mayX k0_ w dst src base disp imm cc = true), Ret Try.prog 55 ([xD k0_ w dst src base disp imm cc]) (.tup [.lst .no 1 (bD (bytesM k0_ w dst src base disp imm cc)), .int .i64 0])
theorem rbytes_9_ok : SpXR2b0 9 := by
 intro w dst src base disp imm cc d0 d1 s0 s1 b0 b1 p0 p1 i0 i1 c0 c1 hm
 have c0 := @rmayX_ok 9 w dst src base disp imm cc
 rw [hm] at c0
 have c1 := @class_ok 9
 have c2 := @class_ok 9
 let E1 : EL := ([.ret _ _ _ c0, tF, .inl] ++ List.replicate 8 tF ++ [tT, tT, tF, .ret _ _ _ c1, tF, tF, .ret _ _ _ c2, tT])
 rcases bft (needM (w == 64) 0 dst false) with h3 | h3
 ·have c4 := @rrex_ok 0 dst (by decide) (by decide) d0 d1 (w == 64) false h3
  generalize g6 : rexB (w == 64) 0 dst = r5 at c4
  have c7 := @rdirect_ok 0 dst (by decide) (by decide) d0 d1
  generalize g9 : regsM 0 dst = r8 at c7
  have c10 := @rdir2_ok imm
  exact (o55 (d := .tup [.lst (.fresh 1) 1 [.int .u8 r5, .int .u8 129, .int .u8 r8, .int .u8 (imm % 256), .int .u8 (imm / 256 % 256), .int .u8 (imm / 65536 % 256), .int .u8 (imm / 16777216 % 256)], .int .i64 0]) (E1 ++ [.ret _ _ _ c4, tF, .len 2 2147483648 (by decide), .ret _ _ _ c7, .len 3 2147483648 (by decide), .ret _ _ _ c10, .len 7 2147483648 (by decide)]) (by kernel_rfl)).to (by clear E1; ((try simp only [and7]); subst_vars; (try simp only [beq_dec] at *); (try simp only [beq_iff_eq] at h); (try simp only [decide_eq_true_eq, decide_eq_false_iff_not] at *); simp_all [wk, wkL, wkO, bytesM, show shapeM 9 = 3 from rfl, bD, rexM, memM, fourM, w_u8, w_i64, w_i8, codeM, numM]; done))
 have c11 := @rrexn_ok 0 dst (by decide) (by decide) d0 d1 (w == 64) false h3
 have c12 := @rdirect_ok 0 dst (by decide) (by decide) d0 d1
 generalize g14 : regsM 0 dst = r13 at c12
 have c15 := @rdir2_ok imm
 exact (o55 (d := .tup [.lst (.fresh 1) 1 [.int .u8 129, .int .u8 r13, .int .u8 (imm % 256), .int .u8 (imm / 256 % 256), .int .u8 (imm / 65536 % 256), .int .u8 (imm / 16777216 % 256)], .int .i64 0]) (E1 ++ [.ret _ _ _ c11, tF, .len 1 2147483648 (by decide), .ret _ _ _ c12, .len 2 2147483648 (by decide), .ret _ _ _ c15, .len 6 2147483648 (by decide)]) (by kernel_rfl)).to (by clear E1; ((try simp only [and7]); subst_vars; (try simp only [beq_dec] at *); (try simp only [beq_iff_eq] at h); (try simp only [decide_eq_true_eq, decide_eq_false_iff_not] at *); simp_all [wk, wkL, wkO, bytesM, show shapeM 9 = 3 from rfl, bD, rexM, memM, fourM, w_u8, w_i64, w_i8, codeM, numM]; done))
theorem rbytes_10_ok : SpXR2b0 10 := by
 intro w dst src base disp imm cc d0 d1 s0 s1 b0 b1 p0 p1 i0 i1 c0 c1 hm
 have c0 := @rmayX_ok 10 w dst src base disp imm cc
 rw [hm] at c0
 have c1 := @class_ok 10
 have c2 := @class_ok 10
 let E1 : EL := ([.ret _ _ _ c0, tF, .inl] ++ List.replicate 10 tF ++ [tT, tF, .ret _ _ _ c1, tF, tF, .ret _ _ _ c2, tT])
 rcases bft (needM (w == 64) 0 dst false) with h3 | h3
 ·have c4 := @rrex_ok 0 dst (by decide) (by decide) d0 d1 (w == 64) false h3
  generalize g6 : rexB (w == 64) 0 dst = r5 at c4
  have c7 := @rdirect_ok 1 dst (by decide) (by decide) d0 d1
  generalize g9 : regsM 1 dst = r8 at c7
  have c10 := @rdir2_ok imm
  exact (o55 (d := .tup [.lst (.fresh 1) 1 [.int .u8 r5, .int .u8 129, .int .u8 r8, .int .u8 (imm % 256), .int .u8 (imm / 256 % 256), .int .u8 (imm / 65536 % 256), .int .u8 (imm / 16777216 % 256)], .int .i64 0]) (E1 ++ [.ret _ _ _ c4, tF, .len 2 2147483648 (by decide), .ret _ _ _ c7, .len 3 2147483648 (by decide), .ret _ _ _ c10, .len 7 2147483648 (by decide)]) (by kernel_rfl)).to (by clear E1; ((try simp only [and7]); subst_vars; (try simp only [beq_dec] at *); (try simp only [beq_iff_eq] at h); (try simp only [decide_eq_true_eq, decide_eq_false_iff_not] at *); simp_all [wk, wkL, wkO, bytesM, show shapeM 10 = 3 from rfl, bD, rexM, memM, fourM, w_u8, w_i64, w_i8, codeM, numM]; done))
 have c11 := @rrexn_ok 0 dst (by decide) (by decide) d0 d1 (w == 64) false h3
 have c12 := @rdirect_ok 1 dst (by decide) (by decide) d0 d1
 generalize g14 : regsM 1 dst = r13 at c12
 have c15 := @rdir2_ok imm
 exact (o55 (d := .tup [.lst (.fresh 1) 1 [.int .u8 129, .int .u8 r13, .int .u8 (imm % 256), .int .u8 (imm / 256 % 256), .int .u8 (imm / 65536 % 256), .int .u8 (imm / 16777216 % 256)], .int .i64 0]) (E1 ++ [.ret _ _ _ c11, tF, .len 1 2147483648 (by decide), .ret _ _ _ c12, .len 2 2147483648 (by decide), .ret _ _ _ c15, .len 6 2147483648 (by decide)]) (by kernel_rfl)).to (by clear E1; ((try simp only [and7]); subst_vars; (try simp only [beq_dec] at *); (try simp only [beq_iff_eq] at h); (try simp only [decide_eq_true_eq, decide_eq_false_iff_not] at *); simp_all [wk, wkL, wkO, bytesM, show shapeM 10 = 3 from rfl, bD, rexM, memM, fourM, w_u8, w_i64, w_i8, codeM, numM]; done))
theorem rbytes_11_ok : SpXR2b0 11 := by
 intro w dst src base disp imm cc d0 d1 s0 s1 b0 b1 p0 p1 i0 i1 c0 c1 hm
 have c0 := @rmayX_ok 11 w dst src base disp imm cc
 rw [hm] at c0
 have c1 := @class_ok 11
 have c2 := @class_ok 11
 let E1 : EL := ([.ret _ _ _ c0, tF, .inl] ++ List.replicate 11 tF ++ [tT, tT, tF, .ret _ _ _ c1, tF, tF, .ret _ _ _ c2, tT])
 rcases bft (needM (w == 64) 0 dst false) with h3 | h3
 ·have c4 := @rrex_ok 0 dst (by decide) (by decide) d0 d1 (w == 64) false h3
  generalize g6 : rexB (w == 64) 0 dst = r5 at c4
  have c7 := @rdirect_ok 4 dst (by decide) (by decide) d0 d1
  generalize g9 : regsM 4 dst = r8 at c7
  have c10 := @rdir2_ok imm
  exact (o55 (d := .tup [.lst (.fresh 1) 1 [.int .u8 r5, .int .u8 129, .int .u8 r8, .int .u8 (imm % 256), .int .u8 (imm / 256 % 256), .int .u8 (imm / 65536 % 256), .int .u8 (imm / 16777216 % 256)], .int .i64 0]) (E1 ++ [.ret _ _ _ c4, tF, .len 2 2147483648 (by decide), .ret _ _ _ c7, .len 3 2147483648 (by decide), .ret _ _ _ c10, .len 7 2147483648 (by decide)]) (by kernel_rfl)).to (by clear E1; ((try simp only [and7]); subst_vars; (try simp only [beq_dec] at *); (try simp only [beq_iff_eq] at h); (try simp only [decide_eq_true_eq, decide_eq_false_iff_not] at *); simp_all [wk, wkL, wkO, bytesM, show shapeM 11 = 3 from rfl, bD, rexM, memM, fourM, w_u8, w_i64, w_i8, codeM, numM]; done))
 have c11 := @rrexn_ok 0 dst (by decide) (by decide) d0 d1 (w == 64) false h3
 have c12 := @rdirect_ok 4 dst (by decide) (by decide) d0 d1
 generalize g14 : regsM 4 dst = r13 at c12
 have c15 := @rdir2_ok imm
 exact (o55 (d := .tup [.lst (.fresh 1) 1 [.int .u8 129, .int .u8 r13, .int .u8 (imm % 256), .int .u8 (imm / 256 % 256), .int .u8 (imm / 65536 % 256), .int .u8 (imm / 16777216 % 256)], .int .i64 0]) (E1 ++ [.ret _ _ _ c11, tF, .len 1 2147483648 (by decide), .ret _ _ _ c12, .len 2 2147483648 (by decide), .ret _ _ _ c15, .len 6 2147483648 (by decide)]) (by kernel_rfl)).to (by clear E1; ((try simp only [and7]); subst_vars; (try simp only [beq_dec] at *); (try simp only [beq_iff_eq] at h); (try simp only [decide_eq_true_eq, decide_eq_false_iff_not] at *); simp_all [wk, wkL, wkO, bytesM, show shapeM 11 = 3 from rfl, bD, rexM, memM, fourM, w_u8, w_i64, w_i8, codeM, numM]; done))
theorem rbytes_12_ok : SpXR2b0 12 := by
 intro w dst src base disp imm cc d0 d1 s0 s1 b0 b1 p0 p1 i0 i1 c0 c1 hm
 have c0 := @rmayX_ok 12 w dst src base disp imm cc
 rw [hm] at c0
 have c1 := @class_ok 12
 have c2 := @class_ok 12
 let E1 : EL := ([.ret _ _ _ c0, tF, .inl] ++ List.replicate 14 tF ++ [tT, tT, tF, .ret _ _ _ c1, tF, tF, .ret _ _ _ c2, tT])
 rcases bft (needM (w == 64) 0 dst false) with h3 | h3
 ·have c4 := @rrex_ok 0 dst (by decide) (by decide) d0 d1 (w == 64) false h3
  generalize g6 : rexB (w == 64) 0 dst = r5 at c4
  have c7 := @rdirect_ok 5 dst (by decide) (by decide) d0 d1
  generalize g9 : regsM 5 dst = r8 at c7
  have c10 := @rdir2_ok imm
  exact (o55 (d := .tup [.lst (.fresh 1) 1 [.int .u8 r5, .int .u8 129, .int .u8 r8, .int .u8 (imm % 256), .int .u8 (imm / 256 % 256), .int .u8 (imm / 65536 % 256), .int .u8 (imm / 16777216 % 256)], .int .i64 0]) (E1 ++ [.ret _ _ _ c4, tF, .len 2 2147483648 (by decide), .ret _ _ _ c7, .len 3 2147483648 (by decide), .ret _ _ _ c10, .len 7 2147483648 (by decide)]) (by kernel_rfl)).to (by clear E1; ((try simp only [and7]); subst_vars; (try simp only [beq_dec] at *); (try simp only [beq_iff_eq] at h); (try simp only [decide_eq_true_eq, decide_eq_false_iff_not] at *); simp_all [wk, wkL, wkO, bytesM, show shapeM 12 = 3 from rfl, bD, rexM, memM, fourM, w_u8, w_i64, w_i8, codeM, numM]; done))
 have c11 := @rrexn_ok 0 dst (by decide) (by decide) d0 d1 (w == 64) false h3
 have c12 := @rdirect_ok 5 dst (by decide) (by decide) d0 d1
 generalize g14 : regsM 5 dst = r13 at c12
 have c15 := @rdir2_ok imm
 exact (o55 (d := .tup [.lst (.fresh 1) 1 [.int .u8 129, .int .u8 r13, .int .u8 (imm % 256), .int .u8 (imm / 256 % 256), .int .u8 (imm / 65536 % 256), .int .u8 (imm / 16777216 % 256)], .int .i64 0]) (E1 ++ [.ret _ _ _ c11, tF, .len 1 2147483648 (by decide), .ret _ _ _ c12, .len 2 2147483648 (by decide), .ret _ _ _ c15, .len 6 2147483648 (by decide)]) (by kernel_rfl)).to (by clear E1; ((try simp only [and7]); subst_vars; (try simp only [beq_dec] at *); (try simp only [beq_iff_eq] at h); (try simp only [decide_eq_true_eq, decide_eq_false_iff_not] at *); simp_all [wk, wkL, wkO, bytesM, show shapeM 12 = 3 from rfl, bD, rexM, memM, fourM, w_u8, w_i64, w_i8, codeM, numM]; done))
theorem rbytes_13_ok : SpXR2b0 13 := by
 intro w dst src base disp imm cc d0 d1 s0 s1 b0 b1 p0 p1 i0 i1 c0 c1 hm
 have c0 := @rmayX_ok 13 w dst src base disp imm cc
 rw [hm] at c0
 have c1 := @class_ok 13
 have c2 := @class_ok 13
 let E1 : EL := ([.ret _ _ _ c0, tF, .inl] ++ List.replicate 17 tF ++ [tT, tT, tF, .ret _ _ _ c1, tF, tF, .ret _ _ _ c2, tT])
 rcases bft (needM (w == 64) 0 dst false) with h3 | h3
 ·have c4 := @rrex_ok 0 dst (by decide) (by decide) d0 d1 (w == 64) false h3
  generalize g6 : rexB (w == 64) 0 dst = r5 at c4
  have c7 := @rdirect_ok 6 dst (by decide) (by decide) d0 d1
  generalize g9 : regsM 6 dst = r8 at c7
  have c10 := @rdir2_ok imm
  exact (o55 (d := .tup [.lst (.fresh 1) 1 [.int .u8 r5, .int .u8 129, .int .u8 r8, .int .u8 (imm % 256), .int .u8 (imm / 256 % 256), .int .u8 (imm / 65536 % 256), .int .u8 (imm / 16777216 % 256)], .int .i64 0]) (E1 ++ [.ret _ _ _ c4, tF, .len 2 2147483648 (by decide), .ret _ _ _ c7, .len 3 2147483648 (by decide), .ret _ _ _ c10, .len 7 2147483648 (by decide)]) (by kernel_rfl)).to (by clear E1; ((try simp only [and7]); subst_vars; (try simp only [beq_dec] at *); (try simp only [beq_iff_eq] at h); (try simp only [decide_eq_true_eq, decide_eq_false_iff_not] at *); simp_all [wk, wkL, wkO, bytesM, show shapeM 13 = 3 from rfl, bD, rexM, memM, fourM, w_u8, w_i64, w_i8, codeM, numM]; done))
 have c11 := @rrexn_ok 0 dst (by decide) (by decide) d0 d1 (w == 64) false h3
 have c12 := @rdirect_ok 6 dst (by decide) (by decide) d0 d1
 generalize g14 : regsM 6 dst = r13 at c12
 have c15 := @rdir2_ok imm
 exact (o55 (d := .tup [.lst (.fresh 1) 1 [.int .u8 129, .int .u8 r13, .int .u8 (imm % 256), .int .u8 (imm / 256 % 256), .int .u8 (imm / 65536 % 256), .int .u8 (imm / 16777216 % 256)], .int .i64 0]) (E1 ++ [.ret _ _ _ c11, tF, .len 1 2147483648 (by decide), .ret _ _ _ c12, .len 2 2147483648 (by decide), .ret _ _ _ c15, .len 6 2147483648 (by decide)]) (by kernel_rfl)).to (by clear E1; ((try simp only [and7]); subst_vars; (try simp only [beq_dec] at *); (try simp only [beq_iff_eq] at h); (try simp only [decide_eq_true_eq, decide_eq_false_iff_not] at *); simp_all [wk, wkL, wkO, bytesM, show shapeM 13 = 3 from rfl, bD, rexM, memM, fourM, w_u8, w_i64, w_i8, codeM, numM]; done))
theorem rbytes_14_ok : SpXR2b0 14 := by
 intro w dst src base disp imm cc d0 d1 s0 s1 b0 b1 p0 p1 i0 i1 c0 c1 hm
 have c0 := @rmayX_ok 14 w dst src base disp imm cc
 rw [hm] at c0
 have c1 := @class_ok 14
 have c2 := @class_ok 14
 let E1 : EL := ([.ret _ _ _ c0, tF, .inl] ++ List.replicate 19 tF ++ [tT, tT, tF, .ret _ _ _ c1, tF, tF, .ret _ _ _ c2, tT])
 rcases bft (needM (w == 64) 0 dst false) with h3 | h3
 ·have c4 := @rrex_ok 0 dst (by decide) (by decide) d0 d1 (w == 64) false h3
  generalize g6 : rexB (w == 64) 0 dst = r5 at c4
  have c7 := @rdirect_ok 7 dst (by decide) (by decide) d0 d1
  generalize g9 : regsM 7 dst = r8 at c7
  have c10 := @rdir2_ok imm
  exact (o55 (d := .tup [.lst (.fresh 1) 1 [.int .u8 r5, .int .u8 129, .int .u8 r8, .int .u8 (imm % 256), .int .u8 (imm / 256 % 256), .int .u8 (imm / 65536 % 256), .int .u8 (imm / 16777216 % 256)], .int .i64 0]) (E1 ++ [.ret _ _ _ c4, tF, .len 2 2147483648 (by decide), .ret _ _ _ c7, .len 3 2147483648 (by decide), .ret _ _ _ c10, .len 7 2147483648 (by decide)]) (by kernel_rfl)).to (by clear E1; ((try simp only [and7]); subst_vars; (try simp only [beq_dec] at *); (try simp only [beq_iff_eq] at h); (try simp only [decide_eq_true_eq, decide_eq_false_iff_not] at *); simp_all [wk, wkL, wkO, bytesM, show shapeM 14 = 3 from rfl, bD, rexM, memM, fourM, w_u8, w_i64, w_i8, codeM, numM]; done))
 have c11 := @rrexn_ok 0 dst (by decide) (by decide) d0 d1 (w == 64) false h3
 have c12 := @rdirect_ok 7 dst (by decide) (by decide) d0 d1
 generalize g14 : regsM 7 dst = r13 at c12
 have c15 := @rdir2_ok imm
 exact (o55 (d := .tup [.lst (.fresh 1) 1 [.int .u8 129, .int .u8 r13, .int .u8 (imm % 256), .int .u8 (imm / 256 % 256), .int .u8 (imm / 65536 % 256), .int .u8 (imm / 16777216 % 256)], .int .i64 0]) (E1 ++ [.ret _ _ _ c11, tF, .len 1 2147483648 (by decide), .ret _ _ _ c12, .len 2 2147483648 (by decide), .ret _ _ _ c15, .len 6 2147483648 (by decide)]) (by kernel_rfl)).to (by clear E1; ((try simp only [and7]); subst_vars; (try simp only [beq_dec] at *); (try simp only [beq_iff_eq] at h); (try simp only [decide_eq_true_eq, decide_eq_false_iff_not] at *); simp_all [wk, wkL, wkO, bytesM, show shapeM 14 = 3 from rfl, bD, rexM, memM, fourM, w_u8, w_i64, w_i8, codeM, numM]; done))
theorem rbytes_15_ok : SpXR2b0 15 := by
 intro w dst src base disp imm cc d0 d1 s0 s1 b0 b1 p0 p1 i0 i1 c0 c1 hm
 have c0 := @rmayX_ok 15 w dst src base disp imm cc
 rw [hm] at c0
 have c1 := @class_ok 15
 have c2 := @class_ok 15
 let E1 : EL := ([.ret _ _ _ c0, tF, .inl] ++ List.replicate 9 tF ++ [tT, tF, .ret _ _ _ c1, tF, tF, .ret _ _ _ c2, tT])
 rcases bft (needM (w == 64) 0 dst false) with h3 | h3
 ·have c4 := @rrex_ok 0 dst (by decide) (by decide) d0 d1 (w == 64) false h3
  generalize g6 : rexB (w == 64) 0 dst = r5 at c4
  have c7 := @rdirect_ok 0 dst (by decide) (by decide) d0 d1
  generalize g9 : regsM 0 dst = r8 at c7
  have c10 := @rdir2_ok imm
  exact (o55 (d := .tup [.lst (.fresh 1) 1 [.int .u8 r5, .int .u8 247, .int .u8 r8, .int .u8 (imm % 256), .int .u8 (imm / 256 % 256), .int .u8 (imm / 65536 % 256), .int .u8 (imm / 16777216 % 256)], .int .i64 0]) (E1 ++ [.ret _ _ _ c4, tT, .len 2 2147483648 (by decide), .ret _ _ _ c7, .len 3 2147483648 (by decide), .ret _ _ _ c10, .len 7 2147483648 (by decide)]) (by kernel_rfl)).to (by clear E1; ((try simp only [and7]); subst_vars; (try simp only [beq_dec] at *); (try simp only [beq_iff_eq] at h); (try simp only [decide_eq_true_eq, decide_eq_false_iff_not] at *); simp_all [wk, wkL, wkO, bytesM, show shapeM 15 = 3 from rfl, bD, rexM, memM, fourM, w_u8, w_i64, w_i8, codeM, numM]; done))
 have c11 := @rrexn_ok 0 dst (by decide) (by decide) d0 d1 (w == 64) false h3
 have c12 := @rdirect_ok 0 dst (by decide) (by decide) d0 d1
 generalize g14 : regsM 0 dst = r13 at c12
 have c15 := @rdir2_ok imm
 exact (o55 (d := .tup [.lst (.fresh 1) 1 [.int .u8 247, .int .u8 r13, .int .u8 (imm % 256), .int .u8 (imm / 256 % 256), .int .u8 (imm / 65536 % 256), .int .u8 (imm / 16777216 % 256)], .int .i64 0]) (E1 ++ [.ret _ _ _ c11, tT, .len 1 2147483648 (by decide), .ret _ _ _ c12, .len 2 2147483648 (by decide), .ret _ _ _ c15, .len 6 2147483648 (by decide)]) (by kernel_rfl)).to (by clear E1; ((try simp only [and7]); subst_vars; (try simp only [beq_dec] at *); (try simp only [beq_iff_eq] at h); (try simp only [decide_eq_true_eq, decide_eq_false_iff_not] at *); simp_all [wk, wkL, wkO, bytesM, show shapeM 15 = 3 from rfl, bD, rexM, memM, fourM, w_u8, w_i64, w_i8, codeM, numM]; done))
end Go.Proofs.Ytcngafhpodeenaa
