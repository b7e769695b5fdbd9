/- Contracts and plain laws that a statement's proof leans on (texts merged: LR10, LR11, LB4, LB5, LB5B, LB6, LB7, LB8, LB8A, LB9, LB10, LB10A, LB11, LB7A, LB7C). -/
import Derived.Test.YtcngafhpodeenaaP05
import Derived.Test.YtcngafhpodeenaaP08
import Derived.Test.YtcngafhpodeenaaP10
import Derived.Test.YtcngafhpodeenaaP11
set_option linter.unusedVariables false
set_option linter.unusedSimpArgs false
set_option maxRecDepth 100000
set_option maxHeartbeats 8000000
namespace Go.Proofs.Ytcngafhpodeenaa
open Go Go.Ev
theorem blk_next (A : List PaS) (b : Int) {r : List IrS} {i : Nat} (h : i < r.length) : A ++ blkG r.length b 0 (r.take (i + 1)) = (A ++ blkG r.length b 0 (r.take i)) ++ stepP r.length b i r[i] := by
 rw [List.take_succ_eq_append_getElem h, blkG_snoc, List.length_take, Nat.min_eq_left (by omega), Nat.zero_add, List.append_assoc]
theorem du1_rounds (A Z : List PaS) {l : List (List IrS)} (q : List Int) {b : Nat} (hb : b < l.length) (hb2 : b ≤ 1000) (hl : l[b].length ≤ 2500) (hA : A.length ≤ 2500) (hk : blkOK l[b]) (hZ : A ++ blkP l[b] b = Z) : ∀ (m i : Nat), i + m = l[b].length →
  Rounds Try.prog (loopB Try.f67 5) 1 (du1T l (intsD q) b i (A ++ blkG l[b].length b 0 (l[b].take i)).length) [.dead, .box (daC (A ++ blkG l[b].length b 0 (l[b].take i))), .fam 0 1] (.exit 10) (du1U l (intsD q) b Z.length) [.dead, .box (daC Z), .fam 0 1]
 | 0, i, hi => by
  have e : l[b].take i = l[b] := List.take_of_length_le (by omega)
  have hG := blkG_len l[b].length (b : Int) l[b] 0
  have hZl : Z.length ≤ 5000 := by rw [← hZ, List.length_append]; unfold blkP; omega
  have := (du_e l q b i (by omega) (by omega) (by omega) (by omega) l[b] (by rw [Int.toNat_natCast]; exact rwL_get l b hb) (by rw [irL_len]; omega) (daC Z) Z.length (daC_clean _) (daC_beq _) hZl (by rw [irL_len]; omega)).1
  rw [e, show A ++ blkG l[b].length b 0 l[b] = Z from hZ]
  rw [daC_demote] at this
  exact Rounds.last this (fun h => by cases h)
 | m + 1, i, hi => by
  have hlt : i < l[b].length := by omega
  have ih := du1_rounds A Z q hb hb2 hl hA hk hZ m (i + 1) (by omega)
  have hG := blkG_len l[b].length (b : Int) (l[b].take i) 0
  rw [List.length_take] at hG
  have hX : (A ++ blkG l[b].length b 0 (l[b].take i)).length ≤ 5000 := by rw [List.length_append]; omega
  rw [blk_next A b hlt] at ih
  generalize A ++ blkG l[b].length b 0 (l[b].take i) = X at ih hX ⊢
  have g1 : (rwL l)[Int.toNat (b : Int)]? = some (.lst .no 13 (irL l[b])) := by rw [Int.toNat_natCast]; exact rwL_get l b hb
  have g2 : ((irL l[b]).length : Int) ≤ 100000 := by rw [irL_len]; omega
  have g3 : (i : Int) < ((irL l[b]).length : Int) := by rw [irL_len]; omega
  have g4 : (irL l[b])[Int.toNat (i : Int)]? = some (IrS.d l[b][i]) := by rw [Int.toNat_natCast]; exact irL_get _ i hlt
  have hw : IntKind.i64.wrap ((i : Int) + 1) = ((i + 1 : Nat) : Int) := by rw [w_i64]; omega
  have hr := irL_len l[b]
  rcases hk l[b][i] (List.getElem_mem hlt) with h0 | h4 | h5
  ·have := (du_x l q b i (by omega) (by omega) (by omega) (by omega) l[b] g1 g2 (daC X) X.length (daC_clean _) (daC_beq _) hX g3 l[b][i] g4 h0).1
   rw [show stepP l[b].length b i l[b][i] = [inP l[b][i].x] by unfold stepP; rw [if_pos h0], List.length_append, List.length_singleton, daC_snoc] at ih
   rw [hw, List.map_append, daC_demote] at this
   exact Rounds.more this ih
  ·have := (du_j l q b i (by omega) (by omega) (by omega) (by omega) l[b] g1 g2 (daC X) X.length (daC_clean _) (daC_beq _) hX g3 l[b][i] g4 h4).1
   rw [show stepP l[b].length b i l[b][i] = [jcP l[b][i].cc l[b][i].to] by unfold stepP; rw [if_neg (by omega), if_pos h4], List.length_append, List.length_singleton, daC_snoc] at ih
   rw [hw, List.map_append, daC_demote] at this
   exact Rounds.more this ih
  ·by_cases hs : i = 0 ∨ i + 1 < l[b].length ∨ l[b][i].to ≠ (b : Int) + 1
   ·rw [show stepP l[b].length b i l[b][i] = [jmP l[b][i].to] by unfold stepP; rw [if_neg (by omega), if_neg (by omega), if_pos hs], List.length_append, List.length_singleton, daC_snoc] at ih
    by_cases c1 : i + 1 < l[b].length
    ·have := (du_g1 l q b i (by omega) (by omega) (by omega) (by omega) l[b] g1 g2 (daC X) X.length (daC_clean _) (daC_beq _) hX g3 l[b][i] g4 h5 (by omega)).1
     rw [hw, List.map_append, daC_demote] at this
     exact Rounds.more this ih
    ·by_cases c2 : l[b].length ≤ 1
     ·have := (du_g2 l q b i (by omega) (by omega) (by omega) (by omega) l[b] g1 g2 (daC X) X.length (daC_clean _) (daC_beq _) hX g3 l[b][i] g4 h5 (by omega) (by omega)).1
      rw [hw, List.map_append, daC_demote] at this
      exact Rounds.more this ih
     ·have := (du_g3 l q b i (by omega) (by omega) (by omega) (by omega) l[b] g1 g2 (daC X) X.length (daC_clean _) (daC_beq _) hX g3 l[b][i] g4 h5 (by omega) (by omega) (by omega)).1
      rw [hw, List.map_append, daC_demote] at this
      exact Rounds.more this ih
   ·have := (du_s l q b i (by omega) (by omega) (by omega) (by omega) l[b] g1 g2 (daC X) X.length (daC_clean _) (daC_beq _) hX g3 l[b][i] g4 h5 (by omega) (by omega) (by omega)).1
    rw [show stepP l[b].length b i l[b][i] = [] by unfold stepP; rw [if_neg (by omega), if_neg (by omega), if_neg hs], List.append_nil] at ih
    rw [hw, daC_demote] at this
    exact Rounds.more this ih
theorem du2_rounds (A Z : List PaS) {l : List (List IrS)} (q : List Int) {b : Nat} (hb : b < l.length) (hb2 : b ≤ 1000) (hl : l[b].length ≤ 2500) (hA : A.length ≤ 2500) (hk : blkOK l[b]) (hZ : A ++ blkP l[b] b = Z) : ∀ (m i : Nat), i + m = l[b].length →
  Rounds Try.prog (loopB Try.f67 5) 2 (du2T l (intsD q) b i (A ++ blkG l[b].length b 0 (l[b].take i)).length) [.dead, .dead, .box (daC (A ++ blkG l[b].length b 0 (l[b].take i))), .fam 0 1] (.exit 10) (du2U l (intsD q) b Z.length) [.dead, .dead, .box (daC Z), .fam 0 1]
 | 0, i, hi => by
  have e : l[b].take i = l[b] := List.take_of_length_le (by omega)
  have hG := blkG_len l[b].length (b : Int) l[b] 0
  have hZl : Z.length ≤ 5000 := by rw [← hZ, List.length_append]; unfold blkP; omega
  have := (du_e l q b i (by omega) (by omega) (by omega) (by omega) l[b] (by rw [Int.toNat_natCast]; exact rwL_get l b hb) (by rw [irL_len]; omega) (daC Z) Z.length (daC_clean _) (daC_beq _) hZl (by rw [irL_len]; omega)).2.1
  rw [e, show A ++ blkG l[b].length b 0 l[b] = Z from hZ]
  rw [daC_demote] at this
  exact Rounds.last this (fun h => by cases h)
 | m + 1, i, hi => by
  have hlt : i < l[b].length := by omega
  have ih := du2_rounds A Z q hb hb2 hl hA hk hZ m (i + 1) (by omega)
  have hG := blkG_len l[b].length (b : Int) (l[b].take i) 0
  rw [List.length_take] at hG
  have hX : (A ++ blkG l[b].length b 0 (l[b].take i)).length ≤ 5000 := by rw [List.length_append]; omega
  rw [blk_next A b hlt] at ih
  generalize A ++ blkG l[b].length b 0 (l[b].take i) = X at ih hX ⊢
  have g1 : (rwL l)[Int.toNat (b : Int)]? = some (.lst .no 13 (irL l[b])) := by rw [Int.toNat_natCast]; exact rwL_get l b hb
  have g2 : ((irL l[b]).length : Int) ≤ 100000 := by rw [irL_len]; omega
  have g3 : (i : Int) < ((irL l[b]).length : Int) := by rw [irL_len]; omega
  have g4 : (irL l[b])[Int.toNat (i : Int)]? = some (IrS.d l[b][i]) := by rw [Int.toNat_natCast]; exact irL_get _ i hlt
  have hw : IntKind.i64.wrap ((i : Int) + 1) = ((i + 1 : Nat) : Int) := by rw [w_i64]; omega
  have hr := irL_len l[b]
  rcases hk l[b][i] (List.getElem_mem hlt) with h0 | h4 | h5
  ·have := (du_x l q b i (by omega) (by omega) (by omega) (by omega) l[b] g1 g2 (daC X) X.length (daC_clean _) (daC_beq _) hX g3 l[b][i] g4 h0).2.1
   rw [show stepP l[b].length b i l[b][i] = [inP l[b][i].x] by unfold stepP; rw [if_pos h0], List.length_append, List.length_singleton, daC_snoc] at ih
   rw [hw, List.map_append, daC_demote] at this
   exact Rounds.more this ih
  ·have := (du_j l q b i (by omega) (by omega) (by omega) (by omega) l[b] g1 g2 (daC X) X.length (daC_clean _) (daC_beq _) hX g3 l[b][i] g4 h4).2.1
   rw [show stepP l[b].length b i l[b][i] = [jcP l[b][i].cc l[b][i].to] by unfold stepP; rw [if_neg (by omega), if_pos h4], List.length_append, List.length_singleton, daC_snoc] at ih
   rw [hw, List.map_append, daC_demote] at this
   exact Rounds.more this ih
  ·by_cases hs : i = 0 ∨ i + 1 < l[b].length ∨ l[b][i].to ≠ (b : Int) + 1
   ·rw [show stepP l[b].length b i l[b][i] = [jmP l[b][i].to] by unfold stepP; rw [if_neg (by omega), if_neg (by omega), if_pos hs], List.length_append, List.length_singleton, daC_snoc] at ih
    by_cases c1 : i + 1 < l[b].length
    ·have := (du_g1 l q b i (by omega) (by omega) (by omega) (by omega) l[b] g1 g2 (daC X) X.length (daC_clean _) (daC_beq _) hX g3 l[b][i] g4 h5 (by omega)).2.1
     rw [hw, List.map_append, daC_demote] at this
     exact Rounds.more this ih
    ·by_cases c2 : l[b].length ≤ 1
     ·have := (du_g2 l q b i (by omega) (by omega) (by omega) (by omega) l[b] g1 g2 (daC X) X.length (daC_clean _) (daC_beq _) hX g3 l[b][i] g4 h5 (by omega) (by omega)).2.1
      rw [hw, List.map_append, daC_demote] at this
      exact Rounds.more this ih
     ·have := (du_g3 l q b i (by omega) (by omega) (by omega) (by omega) l[b] g1 g2 (daC X) X.length (daC_clean _) (daC_beq _) hX g3 l[b][i] g4 h5 (by omega) (by omega) (by omega)).2.1
      rw [hw, List.map_append, daC_demote] at this
      exact Rounds.more this ih
   ·have := (du_s l q b i (by omega) (by omega) (by omega) (by omega) l[b] g1 g2 (daC X) X.length (daC_clean _) (daC_beq _) hX g3 l[b][i] g4 h5 (by omega) (by omega) (by omega)).2.1
    rw [show stepP l[b].length b i l[b][i] = [] by unfold stepP; rw [if_neg (by omega), if_neg (by omega), if_neg hs], List.append_nil] at ih
    rw [hw, daC_demote] at this
    exact Rounds.more this ih
theorem du3_rounds (A Z : List PaS) {l : List (List IrS)} (q : List Int) {b : Nat} (hb : b < l.length) (hb2 : b ≤ 1000) (hl : l[b].length ≤ 2500) (hA : A.length ≤ 2500) (hk : blkOK l[b]) (hZ : A ++ blkP l[b] b = Z) : ∀ (m i : Nat), i + m = l[b].length →
  Rounds Try.prog (loopB Try.f67 5) 3 (du3T l (intsD q) b i (A ++ blkG l[b].length b 0 (l[b].take i)).length) [.dead, .dead, .dead, .box (daC (A ++ blkG l[b].length b 0 (l[b].take i))), .fam 0 1] (.exit 10) (du3U l (intsD q) b Z.length) [.dead, .dead, .dead, .box (daC Z), .fam 0 1]
 | 0, i, hi => by
  have e : l[b].take i = l[b] := List.take_of_length_le (by omega)
  have hG := blkG_len l[b].length (b : Int) l[b] 0
  have hZl : Z.length ≤ 5000 := by rw [← hZ, List.length_append]; unfold blkP; omega
  have := (du_e l q b i (by omega) (by omega) (by omega) (by omega) l[b] (by rw [Int.toNat_natCast]; exact rwL_get l b hb) (by rw [irL_len]; omega) (daC Z) Z.length (daC_clean _) (daC_beq _) hZl (by rw [irL_len]; omega)).2.2
  rw [e, show A ++ blkG l[b].length b 0 l[b] = Z from hZ]
  rw [daC_demote] at this
  exact Rounds.last this (fun h => by cases h)
 | m + 1, i, hi => by
  have hlt : i < l[b].length := by omega
  have ih := du3_rounds A Z q hb hb2 hl hA hk hZ m (i + 1) (by omega)
  have hG := blkG_len l[b].length (b : Int) (l[b].take i) 0
  rw [List.length_take] at hG
  have hX : (A ++ blkG l[b].length b 0 (l[b].take i)).length ≤ 5000 := by rw [List.length_append]; omega
  rw [blk_next A b hlt] at ih
  generalize A ++ blkG l[b].length b 0 (l[b].take i) = X at ih hX ⊢
  have g1 : (rwL l)[Int.toNat (b : Int)]? = some (.lst .no 13 (irL l[b])) := by rw [Int.toNat_natCast]; exact rwL_get l b hb
  have g2 : ((irL l[b]).length : Int) ≤ 100000 := by rw [irL_len]; omega
  have g3 : (i : Int) < ((irL l[b]).length : Int) := by rw [irL_len]; omega
  have g4 : (irL l[b])[Int.toNat (i : Int)]? = some (IrS.d l[b][i]) := by rw [Int.toNat_natCast]; exact irL_get _ i hlt
  have hw : IntKind.i64.wrap ((i : Int) + 1) = ((i + 1 : Nat) : Int) := by rw [w_i64]; omega
  have hr := irL_len l[b]
  rcases hk l[b][i] (List.getElem_mem hlt) with h0 | h4 | h5
  ·have := (du_x l q b i (by omega) (by omega) (by omega) (by omega) l[b] g1 g2 (daC X) X.length (daC_clean _) (daC_beq _) hX g3 l[b][i] g4 h0).2.2
   rw [show stepP l[b].length b i l[b][i] = [inP l[b][i].x] by unfold stepP; rw [if_pos h0], List.length_append, List.length_singleton, daC_snoc] at ih
   rw [hw, List.map_append, daC_demote] at this
   exact Rounds.more this ih
  ·have := (du_j l q b i (by omega) (by omega) (by omega) (by omega) l[b] g1 g2 (daC X) X.length (daC_clean _) (daC_beq _) hX g3 l[b][i] g4 h4).2.2
   rw [show stepP l[b].length b i l[b][i] = [jcP l[b][i].cc l[b][i].to] by unfold stepP; rw [if_neg (by omega), if_pos h4], List.length_append, List.length_singleton, daC_snoc] at ih
   rw [hw, List.map_append, daC_demote] at this
   exact Rounds.more this ih
  ·by_cases hs : i = 0 ∨ i + 1 < l[b].length ∨ l[b][i].to ≠ (b : Int) + 1
   ·rw [show stepP l[b].length b i l[b][i] = [jmP l[b][i].to] by unfold stepP; rw [if_neg (by omega), if_neg (by omega), if_pos hs], List.length_append, List.length_singleton, daC_snoc] at ih
    by_cases c1 : i + 1 < l[b].length
    ·have := (du_g1 l q b i (by omega) (by omega) (by omega) (by omega) l[b] g1 g2 (daC X) X.length (daC_clean _) (daC_beq _) hX g3 l[b][i] g4 h5 (by omega)).2.2
     rw [hw, List.map_append, daC_demote] at this
     exact Rounds.more this ih
    ·by_cases c2 : l[b].length ≤ 1
     ·have := (du_g2 l q b i (by omega) (by omega) (by omega) (by omega) l[b] g1 g2 (daC X) X.length (daC_clean _) (daC_beq _) hX g3 l[b][i] g4 h5 (by omega) (by omega)).2.2
      rw [hw, List.map_append, daC_demote] at this
      exact Rounds.more this ih
     ·have := (du_g3 l q b i (by omega) (by omega) (by omega) (by omega) l[b] g1 g2 (daC X) X.length (daC_clean _) (daC_beq _) hX g3 l[b][i] g4 h5 (by omega) (by omega) (by omega)).2.2
      rw [hw, List.map_append, daC_demote] at this
      exact Rounds.more this ih
   ·have := (du_s l q b i (by omega) (by omega) (by omega) (by omega) l[b] g1 g2 (daC X) X.length (daC_clean _) (daC_beq _) hX g3 l[b][i] g4 h5 (by omega) (by omega) (by omega)).2.2
    rw [show stepP l[b].length b i l[b][i] = [] by unfold stepP; rw [if_neg (by omega), if_neg (by omega), if_neg hs], List.append_nil] at ih
    rw [hw, daC_demote] at this
    exact Rounds.more this ih
theorem dw1_rounds {pro : List XS} {l : List (List IrS)} (hb : BlkIn pro l) (hg : ∀ r ∈ l, goodB l r) : ∀ (m b : Nat), b + m = l.length →
  Rounds Try.prog (loopB Try.f67 4) 1 (dwT l (intsD (preQ pro l b)) b (preP pro l b).length) [.dead, .box (daC (preP pro l b)), .fam 0 1] (.exit 8) (dwU (intsD (preQ pro l l.length)) (preP pro l l.length).length) [.dead, .box (daC (preP pro l l.length)), .fam 0 1]
 | 0, b, hm => by
  have e : b = l.length := by omega
  subst e
  have h1 := preP_len hb l.length
  have h2 := preQ_len pro l l.length
  have h3 := hb.b
  have := dw1_e l (preQ pro l l.length) (l.length : Int) (by omega) (by omega) (by rw [intsD_len]; omega) (daC (preP pro l l.length)) (preP pro l l.length).length (daC_clean _) (daC_beq _) (by omega) (by rw [rwL_len]; omega)
  rw [daC_demote] at this
  exact Rounds.last this (fun h => by cases h)
 | m + 1, b, hm => by
  have hlt : b < l.length := by omega
  have h1 := preP_len hb b
  have h2 := preQ_len pro l b
  have h3 := hb.b
  have h4 := hb.n
  have h5 := sumL_mem (List.getElem_mem hlt)
  obtain ⟨f1, f2, f3, f4, f5, f6, f7, f8, f9⟩ := dp_facts hb hlt
  have hl := LoopRun.of_rounds (show 3 ≤ 5 by decide) (du3_rounds (preP pro l b) (preP pro l (b + 1)) (preQ pro l (b + 1)) hlt f9 (by omega) h1 (goodB_blk (hg _ (List.getElem_mem hlt))) (preP_next pro hlt).symm l[b].length 0 (by omega))
  rw [List.take_zero, show blkG l[b].length b 0 [] = [] from rfl, List.append_nil, preQ_next pro hlt, ← intsD_snoc'] at hl
  have := dw1_1 l (preQ pro l b) b (by omega) (by omega) (by rw [intsD_len]; omega) (daC (preP pro l b)) (preP pro l b).length (daC_clean _) (daC_beq _) (by omega) (daC (preP pro l (b + 1))) (preP pro l (b + 1)).length (daC_clean _) f3 l[b] f4 f2 (by rw [daC_demote]; exact hl)
  rw [intsD_snoc', ← preQ_next pro hlt, f6, daC_demote] at this
  exact Rounds.more this (dw1_rounds hb hg m (b + 1) (by omega))
theorem pa_e0_ok (pro : List XS) (l : List (List IrS)) (h : ((rwL l).length : Int) = 0)  : Ret Try.prog 64 ([.lst .no 8 (xsL pro), .lst .no 1 (rwL l)]) (.tup [.lst .tight 0 [], .lst .tight 0 [], .int .i64 2]) := by
 exact (o64 (d := .tup [.lst .tight 0 [], .lst .tight 0 [], .int .i64 2]) (List.replicate 3 (tC (eF (eqI 0 true (by ((try simp only [sL] at *); (try unfold big at *); omega) : (↑(List.length (rwL l)) : Int) = 0)))) ++ [tC (eqI 0 true (by ((try simp only [sL] at *); (try unfold big at *); omega) : (↑(List.length (rwL l)) : Int) = 0)), tT]) (by kernel_rfl)).to (by first | (simp [wk, wkL, wkO]; done) | exact ⟨⟨rfl, .inl rfl, trivial, .inr rfl⟩, ⟨rfl, .inl rfl, trivial, .inr rfl⟩, rfl, trivial⟩ | exact ⟨⟨rfl, .inl rfl, rfl, .inr rfl⟩, ⟨rfl, .inl rfl, trivial, .inr rfl⟩, rfl, trivial⟩)
theorem pa_e1_ok (pro : List XS) (l : List (List IrS)) (h : 64 < ((rwL l).length : Int))  : Ret Try.prog 64 ([.lst .no 8 (xsL pro), .lst .no 1 (rwL l)]) (.tup [.lst .tight 0 [], .lst .tight 0 [], .int .i64 2]) := by
 exact (o64 (d := .tup [.lst .tight 0 [], .lst .tight 0 [], .int .i64 2]) (List.replicate 3 (tC (eF (eqG 0 (decide_eq_false (by omega : ¬ (↑(List.length (rwL l)) : Int) < 65))))) ++ [tC (eqG 0 (decide_eq_false (by omega : ¬ (↑(List.length (rwL l)) : Int) < 65))), tC (ltL 64 (decide_eq_false (by omega : ¬ (↑(List.length (rwL l)) : Int) < 65)))]) (by kernel_rfl)).to (by first | (simp [wk, wkL, wkO]; done) | exact ⟨⟨rfl, .inl rfl, trivial, .inr rfl⟩, ⟨rfl, .inl rfl, trivial, .inr rfl⟩, rfl, trivial⟩ | exact ⟨⟨rfl, .inl rfl, rfl, .inr rfl⟩, ⟨rfl, .inl rfl, trivial, .inr rfl⟩, rfl, trivial⟩)
theorem pa_ep_ok (pro : List XS) (l : List (List IrS)) (hl0 : 1 ≤ ((rwL l).length : Int)) (hl1 : ((rwL l).length : Int) ≤ 64) (hx0 : LoopRun Try.prog 0 (.loop (loopB Try.f64 0)) (prT l pro [] ((xsL pro).length : Int) 0) [.fam 0 10] .ret ckE [])  : Ret Try.prog 64 ([.lst .no 8 (xsL pro), .lst .no 1 (rwL l)]) (.tup [.lst .tight 0 [], .lst .tight 0 [], .int .i64 2]) := by
 have c0 := @run_id (nat_lit 0) _ (((uu) :: (.lst .no 1 (rwL l)) :: (uu) :: (uu) :: (.lst (.tok 0 0) 10 []) :: (.lst .tight 0 []) :: (uu) :: (.int .i64 (↑(List.length (xsL pro)) : Int)) :: (un 15 ++ (.lst .no 8 (xsL pro)) :: (.int .i64 (↑(List.length (xsL pro)) : Int)) :: (.int .i64 0) :: (un 62)))) ([.fam 0 10]) _ _ _ hx0
 exact (o64 (d := .tup [.lst .tight 0 [], .lst .tight 0 [], .int .i64 2]) (List.replicate 3 (tC (eF (eqG 0 (decide_eq_false (Int.not_lt.2 hl0))))) ++ [tC (eqG 0 (decide_eq_false (Int.not_lt.2 hl0))), tC (ltL 64 (decide_eq_true (Int.lt_add_one_of_le hl1))), .head ⟨[1, 5, 7, 23, 24, 25], [], [(4, 10)]⟩ _ _ _ _ _ _ _ c0]) (by kernel_rfl)).to (by first | (simp [wk, wkL, wkO]; done) | exact ⟨⟨rfl, .inl rfl, trivial, .inr rfl⟩, ⟨rfl, .inl rfl, trivial, .inr rfl⟩, rfl, trivial⟩ | exact ⟨⟨rfl, .inl rfl, rfl, .inr rfl⟩, ⟨rfl, .inl rfl, trivial, .inr rfl⟩, rfl, trivial⟩)
theorem pa_eb_ok (pro : List XS) (l : List (List IrS)) (hl0 : 1 ≤ ((rwL l).length : Int)) (hl1 : ((rwL l).length : Int) ≤ 64) (p0 p : List PaS) (q : List Int) (n : Int) (hx0 : LoopRun Try.prog 0 (.loop (loopB Try.f64 0)) (prT l pro [] ((xsL pro).length : Int) 0) [.fam 0 10] (.exit 0) (prU l p0 ((xsL pro).length : Int)) [.fam 0 10]) (hx1 : LoopRun Try.prog 1 (.loop (loopB Try.f64 1)) (ptT l p0 [] ((xsL pro).length : Int) 0) ptS .ret ckE [.dead])  : Ret Try.prog 64 ([.lst .no 8 (xsL pro), .lst .no 1 (rwL l)]) (.tup [.lst .tight 0 [], .lst .tight 0 [], .int .i64 2]) := by
 have c0 := @run_id (nat_lit 0) _ (((uu) :: (.lst .no 1 (rwL l)) :: (uu) :: (uu) :: (.lst (.tok 0 0) 10 []) :: (.lst .tight 0 []) :: (uu) :: (.int .i64 (↑(List.length (xsL pro)) : Int)) :: (un 15 ++ (.lst .no 8 (xsL pro)) :: (.int .i64 (↑(List.length (xsL pro)) : Int)) :: (.int .i64 0) :: (un 62)))) ([.fam 0 10]) _ _ _ hx0
 have c1 := @run_id (nat_lit 1) _ (((uu) :: (.lst .no 1 (rwL l)) :: (uu) :: (uu) :: (.lst (.tok 1 0) 10 (paL p0)) :: (.lst (.tok 2 0) 1 []) :: (uu) :: (.int .i64 (↑(List.length (xsL pro)) : Int)) :: (un 35 ++ (.int .i64 (↑(List.length (rwL l)) : Int)) :: (.int .i64 0) :: (un 43)))) ([.dead, .fam 0 10, .fam 0 1]) _ _ _ hx1
 exact (o64 (d := .tup [.lst .tight 0 [], .lst .tight 0 [], .int .i64 2]) (List.replicate 3 (tC (eF (eqG 0 (decide_eq_false (Int.not_lt.2 hl0))))) ++ [tC (eqG 0 (decide_eq_false (Int.not_lt.2 hl0))), tC (ltL 64 (decide_eq_true (Int.lt_add_one_of_le hl1))), .head ⟨[1, 5, 7, 23, 24, 25], [], [(4, 10)]⟩ _ _ _ _ _ _ _ c0, .head ⟨[1, 7, 43, 44], [], [(4, 10), (5, 1)]⟩ _ _ _ _ _ _ _ c1]) (by kernel_rfl)).to (by first | (simp [wk, wkL, wkO]; done) | exact ⟨⟨rfl, .inl rfl, trivial, .inr rfl⟩, ⟨rfl, .inl rfl, trivial, .inr rfl⟩, rfl, trivial⟩ | exact ⟨⟨rfl, .inl rfl, rfl, .inr rfl⟩, ⟨rfl, .inl rfl, trivial, .inr rfl⟩, rfl, trivial⟩)
theorem pa_n3L_ok (pro : List XS) (l : List (List IrS)) (hl0 : 1 ≤ ((rwL l).length : Int)) (hl1 : ((rwL l).length : Int) ≤ 64) (p0 p : List PaS) (q : List Int) (n : Int) (hx0 : LoopRun Try.prog 0 (.loop (loopB Try.f64 0)) (prT l pro [] ((xsL pro).length : Int) 0) [.fam 0 10] (.exit 0) (prU l p0 ((xsL pro).length : Int)) [.fam 0 10]) (hx1 : LoopRun Try.prog 1 (.loop (loopB Try.f64 1)) (ptT l p0 [] ((xsL pro).length : Int) 0) ptS (.exit 2) (ptU p q n) ptS) (h : 2000 < n)  : Ret Try.prog 64 ([.lst .no 8 (xsL pro), .lst .no 1 (rwL l)]) (.tup [.lst .tight 0 [], .lst .tight 0 [], .int .i64 3]) := by
 have c0 := @run_id (nat_lit 0) _ (((uu) :: (.lst .no 1 (rwL l)) :: (uu) :: (uu) :: (.lst (.tok 0 0) 10 []) :: (.lst .tight 0 []) :: (uu) :: (.int .i64 (↑(List.length (xsL pro)) : Int)) :: (un 15 ++ (.lst .no 8 (xsL pro)) :: (.int .i64 (↑(List.length (xsL pro)) : Int)) :: (.int .i64 0) :: (un 62)))) ([.fam 0 10]) _ _ _ hx0
 have c1 := @run_id (nat_lit 1) _ (((uu) :: (.lst .no 1 (rwL l)) :: (uu) :: (uu) :: (.lst (.tok 1 0) 10 (paL p0)) :: (.lst (.tok 2 0) 1 []) :: (uu) :: (.int .i64 (↑(List.length (xsL pro)) : Int)) :: (un 35 ++ (.int .i64 (↑(List.length (rwL l)) : Int)) :: (.int .i64 0) :: (un 43)))) ([.dead, .fam 0 10, .fam 0 1]) _ _ _ hx1
 exact (o64 (d := .tup [.lst .tight 0 [], .lst .tight 0 [], .int .i64 3]) (List.replicate 3 (tC (eF (eqG 0 (decide_eq_false (Int.not_lt.2 hl0))))) ++ [tC (eqG 0 (decide_eq_false (Int.not_lt.2 hl0))), tC (ltL 64 (decide_eq_true (Int.lt_add_one_of_le hl1))), .head ⟨[1, 5, 7, 23, 24, 25], [], [(4, 10)]⟩ _ _ _ _ _ _ _ c0, .head ⟨[1, 7, 43, 44], [], [(4, 10), (5, 1)]⟩ _ _ _ _ _ _ _ c1, tC (ltL 2000 (decide_eq_false (by omega : ¬ n < 2001)))]) (by kernel_rfl)).to (by first | (simp [wk, wkL, wkO]; done) | exact ⟨⟨rfl, .inl rfl, trivial, .inr rfl⟩, ⟨rfl, .inl rfl, trivial, .inr rfl⟩, rfl, trivial⟩ | exact ⟨⟨rfl, .inl rfl, rfl, .inr rfl⟩, ⟨rfl, .inl rfl, trivial, .inr rfl⟩, rfl, trivial⟩)
theorem pa_L_ok (pro : List XS) (l : List (List IrS)) (hl0 : 1 ≤ ((rwL l).length : Int)) (hl1 : ((rwL l).length : Int) ≤ 64) (p0 p : List PaS) (q : List Int) (n : Int) (hx0 : LoopRun Try.prog 0 (.loop (loopB Try.f64 0)) (prT l pro [] ((xsL pro).length : Int) 0) [.fam 0 10] (.exit 0) (prU l p0 ((xsL pro).length : Int)) [.fam 0 10]) (hx1 : LoopRun Try.prog 1 (.loop (loopB Try.f64 1)) (ptT l p0 [] ((xsL pro).length : Int) 0) ptS (.exit 2) (ptU p q n) ptS) (h : n ≤ 2000)  : Ret Try.prog 64 ([.lst .no 8 (xsL pro), .lst .no 1 (rwL l)]) (.tup [.lst .no 10 (paL p), .lst .no 1 (intsD q), .int .i64 0]) := by
 have c0 := @run_id (nat_lit 0) _ (((uu) :: (.lst .no 1 (rwL l)) :: (uu) :: (uu) :: (.lst (.tok 0 0) 10 []) :: (.lst .tight 0 []) :: (uu) :: (.int .i64 (↑(List.length (xsL pro)) : Int)) :: (un 15 ++ (.lst .no 8 (xsL pro)) :: (.int .i64 (↑(List.length (xsL pro)) : Int)) :: (.int .i64 0) :: (un 62)))) ([.fam 0 10]) _ _ _ hx0
 have c1 := @run_id (nat_lit 1) _ (((uu) :: (.lst .no 1 (rwL l)) :: (uu) :: (uu) :: (.lst (.tok 1 0) 10 (paL p0)) :: (.lst (.tok 2 0) 1 []) :: (uu) :: (.int .i64 (↑(List.length (xsL pro)) : Int)) :: (un 35 ++ (.int .i64 (↑(List.length (rwL l)) : Int)) :: (.int .i64 0) :: (un 43)))) ([.dead, .fam 0 10, .fam 0 1]) _ _ _ hx1
 exact (o64 (d := .tup [.lst (.fresh 10) 10 (paL p), .lst (.fresh 1) 1 (intsD q), .int .i64 0]) (List.replicate 3 (tC (eF (eqG 0 (decide_eq_false (Int.not_lt.2 hl0))))) ++ [tC (eqG 0 (decide_eq_false (Int.not_lt.2 hl0))), tC (ltL 64 (decide_eq_true (Int.lt_add_one_of_le hl1))), .head ⟨[1, 5, 7, 23, 24, 25], [], [(4, 10)]⟩ _ _ _ _ _ _ _ c0, .head ⟨[1, 7, 43, 44], [], [(4, 10), (5, 1)]⟩ _ _ _ _ _ _ _ c1, tC (ltL 2000 (decide_eq_true (Int.lt_add_one_of_le h)))]) (by kernel_rfl)).to (by first | (simp [wk, wkL, wkO]; done) | exact ⟨⟨rfl, .inl rfl, trivial, .inr rfl⟩, ⟨rfl, .inl rfl, trivial, .inr rfl⟩, rfl, trivial⟩ | exact ⟨⟨rfl, .inl rfl, rfl, .inr rfl⟩, ⟨rfl, .inl rfl, trivial, .inr rfl⟩, rfl, trivial⟩)
theorem pa_S_ok (pro : List XS) (l : List (List IrS)) (hl0 : 1 ≤ ((rwL l).length : Int)) (hl1 : ((rwL l).length : Int) ≤ 64) (p0 p : List PaS) (q : List Int) (n : Int) (hx0 : LoopRun Try.prog 0 (.loop (loopB Try.f64 0)) (prT l pro [] ((xsL pro).length : Int) 0) [.fam 0 10] (.exit 0) (prU l p0 ((xsL pro).length : Int)) [.fam 0 10]) (hx1 : LoopRun Try.prog 1 (.loop (loopB Try.f64 1)) (ptT l p0 [] ((xsL pro).length : Int) 0) ptS (.exit 2) (ptV p.length q n) (ptB p)) (h : n ≤ 2000)  : CallRun Try.prog 64 ([.lst .no 8 (xsL pro), .lst .no 1 (rwL l)]) ([]) (.tup [.slc 1 10 p.length, .lst (.tok 2 0) 1 (intsD q), .int .i64 0]) ([.dead, .box (paC p), .fam 0 1]) := by
 have c0 := @run_id (nat_lit 0) _ (((uu) :: (.lst .no 1 (rwL l)) :: (uu) :: (uu) :: (.lst (.tok 0 0) 10 []) :: (.lst .tight 0 []) :: (uu) :: (.int .i64 (↑(List.length (xsL pro)) : Int)) :: (un 15 ++ (.lst .no 8 (xsL pro)) :: (.int .i64 (↑(List.length (xsL pro)) : Int)) :: (.int .i64 0) :: (un 62)))) ([.fam 0 10]) _ _ _ hx0
 have c1 := @run_id (nat_lit 1) _ (((uu) :: (.lst .no 1 (rwL l)) :: (uu) :: (uu) :: (.lst (.tok 1 0) 10 (paL p0)) :: (.lst (.tok 2 0) 1 []) :: (uu) :: (.int .i64 (↑(List.length (xsL pro)) : Int)) :: (un 35 ++ (.int .i64 (↑(List.length (rwL l)) : Int)) :: (.int .i64 0) :: (un 43)))) ([.dead, .fam 0 10, .fam 0 1]) _ _ _ hx1
 exact CallRun.of_eval (keep := [1, 2]) mixed [tC (eF (eqG 0 (decide_eq_false (Int.not_lt.2 hl0)))), tC (eF (eqG 0 (decide_eq_false (Int.not_lt.2 hl0)))), tC (eF (eqG 0 (decide_eq_false (Int.not_lt.2 hl0)))), tC (eqG 0 (decide_eq_false (Int.not_lt.2 hl0))), tC (ltL 64 (decide_eq_true (Int.lt_add_one_of_le hl1))), .head ⟨[1, 5, 7, 23, 24, 25], [], [(4, 10)]⟩ _ _ _ _ _ _ _ c0, .head ⟨[1, 7, 43, 44], [], [(4, 10), (5, 1)]⟩ _ _ _ _ _ _ _ c1, tC (ltL 2000 (decide_eq_true (Int.lt_add_one_of_le h)))] (by kernel_rfl)
theorem rk_end (ps av : List D) (m k : Nat) (hps : ∀ c ∈ ps, c.clean = true) (has : ∀ c ∈ av, c.clean = true) (hm : m ≤ 2000) (hal : av.length = m + 1) (hpl : ps.length = m * 10) (h : m ≤ k)  : RoundRun Try.prog (loopB Try.f127 0) ⟨[], [2, 3, 5, 1000001, 1000004], []⟩ 6 ((.ptr false 3 0) :: (.ptr false 5 0) :: (uu) :: (uu) :: (.int .i64 (↑m : Int)) :: (.int .i64 (↑k : Int)) :: (un 18)) [.dead, .box ps, .fam 0 1, .box [.slc 1 10 m], .box av, .box [.slc 4 1 (m + (1 : Nat))]] (.exit 0) (un 24) ([.dead, .box (List.map D.demote ps), .fam 0 1, .box [.slc 1 10 m], .box (List.map D.demote av), .box [.slc 4 1 (m + (1 : Nat))]]) := by
 exact RoundRun.of_eval mixed [tC (by ((try simp only [sL] at *); (try unfold big at *); omega) : (decide ((↑k : Int) < (↑m : Int))) = false), .cl ps (by first | exact clAll rfl | exact hps | exact has | exact cl_set has rfl | exact cl_set hps rfl | exact cl_set (cl_set hps rfl) rfl), .cl av (by first | exact clAll rfl | exact hps | exact has | exact cl_set has rfl | exact cl_set hps rfl | exact cl_set (cl_set hps rfl) rfl)] (by kernel_rfl)
theorem rk_in (ps av : List D) (m k : Nat) (hps : ∀ c ∈ ps, c.clean = true) (has : ∀ c ∈ av, c.clean = true) (hm : m ≤ 2000) (hal : av.length = m + 1) (hpl : ps.length = m * 10) (hk : k < m) (v y : Int) (x : XS) (hv : av[k * 1]? = some (.int .i64 v)) (hA : GetsA ps (k * 10) 8 [.int .i8 x.op, .int .i8 x.w, .int .i8 x.dst, .int .i8 x.src, .int .i8 x.base, .int .i64 x.disp, .int .i64 x.imm, .int .i8 x.cc]) (hl : Ret Try.prog 22 [xsD x] (.int .i64 y))  : RoundRun Try.prog (loopB Try.f127 0) ⟨[0, 1, 4, 5], [2, 3, 5, 1000001, 1000004], []⟩ 6 ((.ptr false 3 0) :: (.ptr false 5 0) :: (uu) :: (uu) :: (.int .i64 (↑m : Int)) :: (.int .i64 (↑k : Int)) :: (un 18)) [.dead, .box ps, .fam 0 1, .box [.slc 1 10 m], .box av, .box [.slc 4 1 (m + (1 : Nat))]] .norm ((.ptr false 3 0) :: (.ptr false 5 0) :: (uu) :: (uu) :: (.int .i64 (↑m : Int)) :: (.int .i64 (IntKind.i64.wrap ((↑k : Int) + 1))) :: (un 18)) ([.dead, .box (List.map D.demote ps), .fam 0 1, .box [.slc 1 10 m], .box (List.map D.demote (List.set av (Int.toNat (IntKind.i64.wrap ((↑k : Int) + 1)) * (1 : Nat)) (.int .i64 (IntKind.i64.wrap (v + y))))), .box [.slc 4 1 (m + (1 : Nat))]]) := by
 exact RoundRun.of_eval mixed [tC (by ((try simp only [sL] at *); (try unfold big at *); omega) : (decide ((↑k : Int) < (↑m : Int))) = true), .tst (decide (0 ≤ (↑k : Int) ∧ (↑k : Int) < (↑(m + (1 : Nat)) : Int))) true (by ((try simp only [sL] at *); (try unfold big at *); omega)), .get _ _ _ hv, .tst (decide (0 ≤ (↑k : Int) ∧ (↑k : Int) < (↑m : Int))) true (by ((try simp only [sL] at *); (try unfold big at *); omega)), .getA _ _ _ _ (@gets_id ps (Int.toNat (↑k : Int) * (10 : Nat) + (0 : Nat)) ((8 : Nat)) _ hA), .ret _ _ _ hl, .tst (decide (0 ≤ IntKind.i64.wrap ((↑k : Int) + 1) ∧ IntKind.i64.wrap ((↑k : Int) + 1) < (↑(m + (1 : Nat)) : Int))) true (by ((try simp only [sL] at *); (try unfold big at *); omega)), .putA _ _ _ _ (@put_set av (Int.toNat (IntKind.i64.wrap ((↑k : Int) + 1)) * (1 : Nat)) (.int .i64 (IntKind.i64.wrap (v + y))) (by ((try simp only [sL] at *); (try unfold big at *); omega))), .raw, .cl ps (by first | exact clAll rfl | exact hps | exact has | exact cl_set has rfl | exact cl_set hps rfl | exact cl_set (cl_set hps rfl) rfl), .cl (List.set av (Int.toNat (IntKind.i64.wrap ((↑k : Int) + 1)) * (1 : Nat)) (.int .i64 (IntKind.i64.wrap (v + y)))) (by first | exact clAll rfl | exact hps | exact has | exact cl_set has rfl | exact cl_set hps rfl | exact cl_set (cl_set hps rfl) rfl)] (by kernel_rfl)
theorem jr_end (qs ps av : List D) (m k : Nat) (hps : ∀ c ∈ ps, c.clean = true) (has : ∀ c ∈ av, c.clean = true) (hm : m ≤ 2000) (hal : av.length = m + 1) (hpl : ps.length = m * 10) (more : Bool) (h : m ≤ k)  : RoundRun Try.prog (loopB Try.f65 1) ⟨[1, 2, 5, 6, 7], [2, 3, 5, 1000001, 1000004], []⟩ 6 ((uu) :: (.lst (.tok 2 0) 1 qs) :: (.ptr false 3 0) :: (uu) :: (uu) :: (.ptr false 5 0) :: (D.fn (Fn.func (127 : FuncId)) [] [.ptr false 3 0, .ptr false 5 0]) :: (.bool more) :: (un 13 ++ (.int .i64 (↑m : Int)) :: (.int .i64 (↑k : Int)) :: (un 89))) [.dead, .box ps, .fam 0 1, .box [.slc 1 10 m], .box av, .box [.slc 4 1 (m + (1 : Nat))]] (.exit 2) ((uu) :: (.lst (.tok 2 0) 1 qs) :: (.ptr false 3 0) :: (uu) :: (uu) :: (.ptr false 5 0) :: (D.fn (Fn.func (127 : FuncId)) [] [.ptr false 3 0, .ptr false 5 0]) :: (.bool more) :: (un 104)) ([.dead, .box (List.map D.demote ps), .fam 0 1, .box [.slc 1 10 m], .box (List.map D.demote av), .box [.slc 4 1 (m + (1 : Nat))]]) := by
 exact RoundRun.of_eval mixed [tC (by ((try simp only [sL] at *); (try unfold big at *); omega) : (decide ((↑k : Int) < (↑m : Int))) = false), .cl ps (by first | exact clAll rfl | exact hps | exact has | exact cl_set has rfl | exact cl_set hps rfl | exact cl_set (cl_set hps rfl) rfl), .cl av (by first | exact clAll rfl | exact hps | exact has | exact cl_set has rfl | exact cl_set hps rfl | exact cl_set (cl_set hps rfl) rfl)] (by kernel_rfl)
theorem jr_no (qs ps av : List D) (m k : Nat) (hps : ∀ c ∈ ps, c.clean = true) (has : ∀ c ∈ av, c.clean = true) (hm : m ≤ 2000) (hal : av.length = m + 1) (hpl : ps.length = m * 10) (more : Bool) (hk : k < m) (hj : ps[k * 10 + 8]? = some (.bool false))  : RoundRun Try.prog (loopB Try.f65 1) ⟨[1, 2, 5, 6, 7, 21, 22], [2, 3, 5, 1000001, 1000004], []⟩ 6 ((uu) :: (.lst (.tok 2 0) 1 qs) :: (.ptr false 3 0) :: (uu) :: (uu) :: (.ptr false 5 0) :: (D.fn (Fn.func (127 : FuncId)) [] [.ptr false 3 0, .ptr false 5 0]) :: (.bool more) :: (un 13 ++ (.int .i64 (↑m : Int)) :: (.int .i64 (↑k : Int)) :: (un 89))) [.dead, .box ps, .fam 0 1, .box [.slc 1 10 m], .box av, .box [.slc 4 1 (m + (1 : Nat))]] .norm ((uu) :: (.lst (.tok 2 0) 1 qs) :: (.ptr false 3 0) :: (uu) :: (uu) :: (.ptr false 5 0) :: (D.fn (Fn.func (127 : FuncId)) [] [.ptr false 3 0, .ptr false 5 0]) :: (.bool more) :: (un 13 ++ (.int .i64 (↑m : Int)) :: (.int .i64 (IntKind.i64.wrap ((↑k : Int) + 1))) :: (un 89))) ([.dead, .box (List.map D.demote ps), .fam 0 1, .box [.slc 1 10 m], .box (List.map D.demote av), .box [.slc 4 1 (m + (1 : Nat))]]) := by
 exact RoundRun.of_eval mixed [tC (by ((try simp only [sL] at *); (try unfold big at *); omega) : (decide ((↑k : Int) < (↑m : Int))) = true), .tst (decide (0 ≤ (↑k : Int) ∧ (↑k : Int) < (↑m : Int))) true (by ((try simp only [sL] at *); (try unfold big at *); omega)), .get _ _ _ hj, tT, .cl ps (by first | exact clAll rfl | exact hps | exact has | exact cl_set has rfl | exact cl_set hps rfl | exact cl_set (cl_set hps rfl) rfl), .cl av (by first | exact clAll rfl | exact hps | exact has | exact cl_set has rfl | exact cl_set hps rfl | exact cl_set (cl_set hps rfl) rfl)] (by kernel_rfl)
theorem jr_w (qs ps av : List D) (m k : Nat) (hps : ∀ c ∈ ps, c.clean = true) (has : ∀ c ∈ av, c.clean = true) (hm : m ≤ 2000) (hal : av.length = m + 1) (hpl : ps.length = m * 10) (more : Bool) (hk : k < m) (hj : ps[k * 10 + 8]? = some (.bool true)) (to bg : Nat) (u v w : Int) (hto : (ps.set (k * 10 + 6) (.int .i64 0))[k * 10 + 9]? = some (.int .i64 (to : Int))) (hq : qs[to]? = some (.int .i64 (bg : Int))) (hbg : bg ≤ m) (hu : av[bg * 1]? = some (.int .i64 u)) (hv : av[Int.toNat (IntKind.i64.wrap ((k : Int) + 1)) * 1]? = some (.int .i64 v)) (u0 : 0 ≤ u) (u1 : u ≤ 100000) (v0 : 0 ≤ v) (v1 : v ≤ 100000) (hw : (ps.set (k * 10 + 6) (.int .i64 0))[k * 10 + 1]? = some (.int .i8 w)) (h8 : w ≠ 8)  : RoundRun Try.prog (loopB Try.f65 1) ⟨[1, 2, 5, 6, 7, 21, 22], [2, 3, 5, 1000001, 1000004], []⟩ 6 ((uu) :: (.lst (.tok 2 0) 1 qs) :: (.ptr false 3 0) :: (uu) :: (uu) :: (.ptr false 5 0) :: (D.fn (Fn.func (127 : FuncId)) [] [.ptr false 3 0, .ptr false 5 0]) :: (.bool more) :: (un 13 ++ (.int .i64 (↑m : Int)) :: (.int .i64 (↑k : Int)) :: (un 89))) [.dead, .box ps, .fam 0 1, .box [.slc 1 10 m], .box av, .box [.slc 4 1 (m + (1 : Nat))]] .norm ((uu) :: (.lst (.tok 2 0) 1 qs) :: (.ptr false 3 0) :: (uu) :: (uu) :: (.ptr false 5 0) :: (D.fn (Fn.func (127 : FuncId)) [] [.ptr false 3 0, .ptr false 5 0]) :: (.bool more) :: (un 13 ++ (.int .i64 (↑m : Int)) :: (.int .i64 (IntKind.i64.wrap ((↑k : Int) + 1))) :: (un 89))) ([.dead, .box (List.map D.demote (List.set ps (Int.toNat (↑k : Int) * (10 : Nat) + (0 : Nat) + (6 : Nat)) (.int .i64 0))), .fam 0 1, .box [.slc 1 10 m], .box (List.map D.demote av), .box [.slc 4 1 (m + (1 : Nat))]]) := by
 exact RoundRun.of_eval mixed ([tC (by ((try simp only [sL] at *); (try unfold big at *); omega) : (decide ((↑k : Int) < (↑m : Int))) = true), .tst (decide (0 ≤ (↑k : Int) ∧ (↑k : Int) < (↑m : Int))) true (by ((try simp only [sL] at *); (try unfold big at *); omega)), .get _ _ _ hj, tF, .putA _ _ _ _ (@put_set ps (Int.toNat (↑k : Int) * (10 : Nat) + (0 : Nat) + (6 : Nat)) (.int .i64 0) (by ((try simp only [sL] at *); (try unfold big at *); omega))), .raw, .get _ _ _ hto, tT, .get _ _ _ hq, .tst (decide (0 ≤ (↑bg : Int) ∧ (↑bg : Int) < (↑(m + (1 : Nat)) : Int))) true (by ((try simp only [sL] at *); (try unfold big at *); omega)), .get _ _ _ hu, .tst (decide (0 ≤ IntKind.i64.wrap ((↑k : Int) + 1) ∧ IntKind.i64.wrap ((↑k : Int) + 1) < (↑(m + (1 : Nat)) : Int))) true (by ((try simp only [sL] at *); (try unfold big at *); omega)), .get _ _ _ hv, .get _ _ _ hw] ++ List.replicate 4 (tC (eT (by ((try simp only [sL] at *); (try unfold big at *); omega) : (w == 8) = false))) ++ [tC (by ((try simp only [sL] at *); (try unfold big at *); omega) : (w == 8) = false), tF, .cl (List.set ps (Int.toNat (↑k : Int) * (10 : Nat) + (0 : Nat) + (6 : Nat)) (.int .i64 0)) (by first | exact clAll rfl | exact hps | exact has | exact cl_set has rfl | exact cl_set hps rfl | exact cl_set (cl_set hps rfl) rfl), .cl av (by first | exact clAll rfl | exact hps | exact has | exact cl_set has rfl | exact cl_set hps rfl | exact cl_set (cl_set hps rfl) rfl)]) (by kernel_rfl)
theorem jr_in (qs ps av : List D) (m k : Nat) (hps : ∀ c ∈ ps, c.clean = true) (has : ∀ c ∈ av, c.clean = true) (hm : m ≤ 2000) (hal : av.length = m + 1) (hpl : ps.length = m * 10) (more : Bool) (hk : k < m) (hj : ps[k * 10 + 8]? = some (.bool true)) (to bg : Nat) (u v w : Int) (hto : (ps.set (k * 10 + 6) (.int .i64 0))[k * 10 + 9]? = some (.int .i64 (to : Int))) (hq : qs[to]? = some (.int .i64 (bg : Int))) (hbg : bg ≤ m) (hu : av[bg * 1]? = some (.int .i64 u)) (hv : av[Int.toNat (IntKind.i64.wrap ((k : Int) + 1)) * 1]? = some (.int .i64 v)) (u0 : 0 ≤ u) (u1 : u ≤ 100000) (v0 : 0 ≤ v) (v1 : v ≤ 100000) (hw : (ps.set (k * 10 + 6) (.int .i64 0))[k * 10 + 1]? = some (.int .i8 w)) (h8 : w = 8) (d0 : -128 ≤ u - v) (d1 : u - v ≤ 127)  : RoundRun Try.prog (loopB Try.f65 1) ⟨[1, 2, 5, 6, 7, 21, 22], [2, 3, 5, 1000001, 1000004], []⟩ 6 ((uu) :: (.lst (.tok 2 0) 1 qs) :: (.ptr false 3 0) :: (uu) :: (uu) :: (.ptr false 5 0) :: (D.fn (Fn.func (127 : FuncId)) [] [.ptr false 3 0, .ptr false 5 0]) :: (.bool more) :: (un 13 ++ (.int .i64 (↑m : Int)) :: (.int .i64 (↑k : Int)) :: (un 89))) [.dead, .box ps, .fam 0 1, .box [.slc 1 10 m], .box av, .box [.slc 4 1 (m + (1 : Nat))]] .norm ((uu) :: (.lst (.tok 2 0) 1 qs) :: (.ptr false 3 0) :: (uu) :: (uu) :: (.ptr false 5 0) :: (D.fn (Fn.func (127 : FuncId)) [] [.ptr false 3 0, .ptr false 5 0]) :: (.bool more) :: (un 13 ++ (.int .i64 (↑m : Int)) :: (.int .i64 (IntKind.i64.wrap ((↑k : Int) + 1))) :: (un 89))) ([.dead, .box (List.map D.demote (List.set ps (Int.toNat (↑k : Int) * (10 : Nat) + (0 : Nat) + (6 : Nat)) (.int .i64 0))), .fam 0 1, .box [.slc 1 10 m], .box (List.map D.demote av), .box [.slc 4 1 (m + (1 : Nat))]]) := by
 exact RoundRun.of_eval mixed ([tC (by ((try simp only [sL] at *); (try unfold big at *); omega) : (decide ((↑k : Int) < (↑m : Int))) = true), .tst (decide (0 ≤ (↑k : Int) ∧ (↑k : Int) < (↑m : Int))) true (by ((try simp only [sL] at *); (try unfold big at *); omega)), .get _ _ _ hj, tF, .putA _ _ _ _ (@put_set ps (Int.toNat (↑k : Int) * (10 : Nat) + (0 : Nat) + (6 : Nat)) (.int .i64 0) (by ((try simp only [sL] at *); (try unfold big at *); omega))), .raw, .get _ _ _ hto, tT, .get _ _ _ hq, .tst (decide (0 ≤ (↑bg : Int) ∧ (↑bg : Int) < (↑(m + (1 : Nat)) : Int))) true (by ((try simp only [sL] at *); (try unfold big at *); omega)), .get _ _ _ hu, .tst (decide (0 ≤ IntKind.i64.wrap ((↑k : Int) + 1) ∧ IntKind.i64.wrap ((↑k : Int) + 1) < (↑(m + (1 : Nat)) : Int))) true (by ((try simp only [sL] at *); (try unfold big at *); omega)), .get _ _ _ hv, .get _ _ _ hw] ++ List.replicate 3 (tC (eT (eqI 8 true (by ((try simp only [sL] at *); (try unfold big at *); omega) : w = 8)))) ++ [tC (eF (by ((try simp only [sL] at *); (try unfold big at *); omega) : (decide (IntKind.i64.wrap (u - v) < (-128))) = false)), tC (eF (by ((try simp only [sL] at *); (try unfold big at *); omega) : (decide (IntKind.i64.wrap (u - v) < (-128))) = false)), tC (eT (eqI 8 true (by ((try simp only [sL] at *); (try unfold big at *); omega) : w = 8))), tC (by ((try simp only [sL] at *); (try unfold big at *); omega) : (decide (IntKind.i64.wrap (u - v) < (-128))) = false), tC (eqI 8 true (by ((try simp only [sL] at *); (try unfold big at *); omega) : w = 8)), tC (ltL 127 (by ((try simp only [sL] at *); (try unfold big at *); omega) : (decide (IntKind.i64.wrap (u - v) < 128)) = true)), .cl (List.set ps (Int.toNat (↑k : Int) * (10 : Nat) + (0 : Nat) + (6 : Nat)) (.int .i64 0)) (by first | exact clAll rfl | exact hps | exact has | exact cl_set has rfl | exact cl_set hps rfl | exact cl_set (cl_set hps rfl) rfl), .cl av (by first | exact clAll rfl | exact hps | exact has | exact cl_set has rfl | exact cl_set hps rfl | exact cl_set (cl_set hps rfl) rfl)]) (by kernel_rfl)
theorem jr_lo (qs ps av : List D) (m k : Nat) (hps : ∀ c ∈ ps, c.clean = true) (has : ∀ c ∈ av, c.clean = true) (hm : m ≤ 2000) (hal : av.length = m + 1) (hpl : ps.length = m * 10) (more : Bool) (hk : k < m) (hj : ps[k * 10 + 8]? = some (.bool true)) (to bg : Nat) (u v w : Int) (hto : (ps.set (k * 10 + 6) (.int .i64 0))[k * 10 + 9]? = some (.int .i64 (to : Int))) (hq : qs[to]? = some (.int .i64 (bg : Int))) (hbg : bg ≤ m) (hu : av[bg * 1]? = some (.int .i64 u)) (hv : av[Int.toNat (IntKind.i64.wrap ((k : Int) + 1)) * 1]? = some (.int .i64 v)) (u0 : 0 ≤ u) (u1 : u ≤ 100000) (v0 : 0 ≤ v) (v1 : v ≤ 100000) (hw : (ps.set (k * 10 + 6) (.int .i64 0))[k * 10 + 1]? = some (.int .i8 w)) (h8 : w = 8) (d0 : u - v < -128)  : RoundRun Try.prog (loopB Try.f65 1) ⟨[1, 2, 5, 6, 7, 21, 22], [2, 3, 5, 1000001, 1000004], []⟩ 6 ((uu) :: (.lst (.tok 2 0) 1 qs) :: (.ptr false 3 0) :: (uu) :: (uu) :: (.ptr false 5 0) :: (D.fn (Fn.func (127 : FuncId)) [] [.ptr false 3 0, .ptr false 5 0]) :: (.bool more) :: (un 13 ++ (.int .i64 (↑m : Int)) :: (.int .i64 (↑k : Int)) :: (un 89))) [.dead, .box ps, .fam 0 1, .box [.slc 1 10 m], .box av, .box [.slc 4 1 (m + (1 : Nat))]] .norm ((uu) :: (.lst (.tok 2 0) 1 qs) :: (.ptr false 3 0) :: (uu) :: (uu) :: (.ptr false 5 0) :: (D.fn (Fn.func (127 : FuncId)) [] [.ptr false 3 0, .ptr false 5 0]) :: (.bool true) :: (un 13 ++ (.int .i64 (↑m : Int)) :: (.int .i64 (IntKind.i64.wrap ((↑k : Int) + 1))) :: (un 89))) ([.dead, .box (List.map D.demote (List.set (List.set ps (Int.toNat (↑k : Int) * (10 : Nat) + (0 : Nat) + (6 : Nat)) (.int .i64 0)) (Int.toNat (↑k : Int) * (10 : Nat) + (0 : Nat) + (1 : Nat)) (.int .i8 32))), .fam 0 1, .box [.slc 1 10 m], .box (List.map D.demote av), .box [.slc 4 1 (m + (1 : Nat))]]) := by
 exact RoundRun.of_eval mixed ([tC (by ((try simp only [sL] at *); (try unfold big at *); omega) : (decide ((↑k : Int) < (↑m : Int))) = true), .tst (decide (0 ≤ (↑k : Int) ∧ (↑k : Int) < (↑m : Int))) true (by ((try simp only [sL] at *); (try unfold big at *); omega)), .get _ _ _ hj, tF, .putA _ _ _ _ (@put_set ps (Int.toNat (↑k : Int) * (10 : Nat) + (0 : Nat) + (6 : Nat)) (.int .i64 0) (by ((try simp only [sL] at *); (try unfold big at *); omega))), .raw, .get _ _ _ hto, tT, .get _ _ _ hq, .tst (decide (0 ≤ (↑bg : Int) ∧ (↑bg : Int) < (↑(m + (1 : Nat)) : Int))) true (by ((try simp only [sL] at *); (try unfold big at *); omega)), .get _ _ _ hu, .tst (decide (0 ≤ IntKind.i64.wrap ((↑k : Int) + 1) ∧ IntKind.i64.wrap ((↑k : Int) + 1) < (↑(m + (1 : Nat)) : Int))) true (by ((try simp only [sL] at *); (try unfold big at *); omega)), .get _ _ _ hv, .get _ _ _ hw] ++ List.replicate 3 (tC (eT (eqI 8 true (by ((try simp only [sL] at *); (try unfold big at *); omega) : w = 8)))) ++ [tC (eF (by ((try simp only [sL] at *); (try unfold big at *); omega) : (decide (IntKind.i64.wrap (u - v) < (-128))) = true)), tC (eF (by ((try simp only [sL] at *); (try unfold big at *); omega) : (decide (IntKind.i64.wrap (u - v) < (-128))) = true)), tC (eT (eqI 8 true (by ((try simp only [sL] at *); (try unfold big at *); omega) : w = 8))), tC (by ((try simp only [sL] at *); (try unfold big at *); omega) : (decide (IntKind.i64.wrap (u - v) < (-128))) = true), tC (eqI 8 true (by ((try simp only [sL] at *); (try unfold big at *); omega) : w = 8)), tT, .putA _ _ _ _ (@put_set (List.set ps (Int.toNat (↑k : Int) * (10 : Nat) + (0 : Nat) + (6 : Nat)) (.int .i64 0)) (Int.toNat (↑k : Int) * (10 : Nat) + (0 : Nat) + (1 : Nat)) (.int .i8 32) (by ((try simp only [sL] at *); (try unfold big at *); omega))), .raw, .cl (List.set (List.set ps (Int.toNat (↑k : Int) * (10 : Nat) + (0 : Nat) + (6 : Nat)) (.int .i64 0)) (Int.toNat (↑k : Int) * (10 : Nat) + (0 : Nat) + (1 : Nat)) (.int .i8 32)) (by first | exact clAll rfl | exact hps | exact has | exact cl_set has rfl | exact cl_set hps rfl | exact cl_set (cl_set hps rfl) rfl), .cl av (by first | exact clAll rfl | exact hps | exact has | exact cl_set has rfl | exact cl_set hps rfl | exact cl_set (cl_set hps rfl) rfl)]) (by kernel_rfl)
theorem jr_hi (qs ps av : List D) (m k : Nat) (hps : ∀ c ∈ ps, c.clean = true) (has : ∀ c ∈ av, c.clean = true) (hm : m ≤ 2000) (hal : av.length = m + 1) (hpl : ps.length = m * 10) (more : Bool) (hk : k < m) (hj : ps[k * 10 + 8]? = some (.bool true)) (to bg : Nat) (u v w : Int) (hto : (ps.set (k * 10 + 6) (.int .i64 0))[k * 10 + 9]? = some (.int .i64 (to : Int))) (hq : qs[to]? = some (.int .i64 (bg : Int))) (hbg : bg ≤ m) (hu : av[bg * 1]? = some (.int .i64 u)) (hv : av[Int.toNat (IntKind.i64.wrap ((k : Int) + 1)) * 1]? = some (.int .i64 v)) (u0 : 0 ≤ u) (u1 : u ≤ 100000) (v0 : 0 ≤ v) (v1 : v ≤ 100000) (hw : (ps.set (k * 10 + 6) (.int .i64 0))[k * 10 + 1]? = some (.int .i8 w)) (h8 : w = 8) (d0 : 127 < u - v)  : RoundRun Try.prog (loopB Try.f65 1) ⟨[1, 2, 5, 6, 7, 21, 22], [2, 3, 5, 1000001, 1000004], []⟩ 6 ((uu) :: (.lst (.tok 2 0) 1 qs) :: (.ptr false 3 0) :: (uu) :: (uu) :: (.ptr false 5 0) :: (D.fn (Fn.func (127 : FuncId)) [] [.ptr false 3 0, .ptr false 5 0]) :: (.bool more) :: (un 13 ++ (.int .i64 (↑m : Int)) :: (.int .i64 (↑k : Int)) :: (un 89))) [.dead, .box ps, .fam 0 1, .box [.slc 1 10 m], .box av, .box [.slc 4 1 (m + (1 : Nat))]] .norm ((uu) :: (.lst (.tok 2 0) 1 qs) :: (.ptr false 3 0) :: (uu) :: (uu) :: (.ptr false 5 0) :: (D.fn (Fn.func (127 : FuncId)) [] [.ptr false 3 0, .ptr false 5 0]) :: (.bool true) :: (un 13 ++ (.int .i64 (↑m : Int)) :: (.int .i64 (IntKind.i64.wrap ((↑k : Int) + 1))) :: (un 89))) ([.dead, .box (List.map D.demote (List.set (List.set ps (Int.toNat (↑k : Int) * (10 : Nat) + (0 : Nat) + (6 : Nat)) (.int .i64 0)) (Int.toNat (↑k : Int) * (10 : Nat) + (0 : Nat) + (1 : Nat)) (.int .i8 32))), .fam 0 1, .box [.slc 1 10 m], .box (List.map D.demote av), .box [.slc 4 1 (m + (1 : Nat))]]) := by
 exact RoundRun.of_eval mixed ([tC (by ((try simp only [sL] at *); (try unfold big at *); omega) : (decide ((↑k : Int) < (↑m : Int))) = true), .tst (decide (0 ≤ (↑k : Int) ∧ (↑k : Int) < (↑m : Int))) true (by ((try simp only [sL] at *); (try unfold big at *); omega)), .get _ _ _ hj, tF, .putA _ _ _ _ (@put_set ps (Int.toNat (↑k : Int) * (10 : Nat) + (0 : Nat) + (6 : Nat)) (.int .i64 0) (by ((try simp only [sL] at *); (try unfold big at *); omega))), .raw, .get _ _ _ hto, tT, .get _ _ _ hq, .tst (decide (0 ≤ (↑bg : Int) ∧ (↑bg : Int) < (↑(m + (1 : Nat)) : Int))) true (by ((try simp only [sL] at *); (try unfold big at *); omega)), .get _ _ _ hu, .tst (decide (0 ≤ IntKind.i64.wrap ((↑k : Int) + 1) ∧ IntKind.i64.wrap ((↑k : Int) + 1) < (↑(m + (1 : Nat)) : Int))) true (by ((try simp only [sL] at *); (try unfold big at *); omega)), .get _ _ _ hv, .get _ _ _ hw] ++ List.replicate 3 (tC (eT (eqI 8 true (by ((try simp only [sL] at *); (try unfold big at *); omega) : w = 8)))) ++ [tC (eF (by ((try simp only [sL] at *); (try unfold big at *); omega) : (decide (IntKind.i64.wrap (u - v) < (-128))) = false)), tC (eF (by ((try simp only [sL] at *); (try unfold big at *); omega) : (decide (IntKind.i64.wrap (u - v) < (-128))) = false)), tC (eT (eqI 8 true (by ((try simp only [sL] at *); (try unfold big at *); omega) : w = 8))), tC (by ((try simp only [sL] at *); (try unfold big at *); omega) : (decide (IntKind.i64.wrap (u - v) < (-128))) = false), tC (eqI 8 true (by ((try simp only [sL] at *); (try unfold big at *); omega) : w = 8)), tC (ltL 127 (by ((try simp only [sL] at *); (try unfold big at *); omega) : (decide (IntKind.i64.wrap (u - v) < 128)) = false)), .putA _ _ _ _ (@put_set (List.set ps (Int.toNat (↑k : Int) * (10 : Nat) + (0 : Nat) + (6 : Nat)) (.int .i64 0)) (Int.toNat (↑k : Int) * (10 : Nat) + (0 : Nat) + (1 : Nat)) (.int .i8 32) (by ((try simp only [sL] at *); (try unfold big at *); omega))), .raw, .cl (List.set (List.set ps (Int.toNat (↑k : Int) * (10 : Nat) + (0 : Nat) + (6 : Nat)) (.int .i64 0)) (Int.toNat (↑k : Int) * (10 : Nat) + (0 : Nat) + (1 : Nat)) (.int .i8 32)) (by first | exact clAll rfl | exact hps | exact has | exact cl_set has rfl | exact cl_set hps rfl | exact cl_set (cl_set hps rfl) rfl), .cl av (by first | exact clAll rfl | exact hps | exact has | exact cl_set has rfl | exact cl_set hps rfl | exact cl_set (cl_set hps rfl) rfl)]) (by kernel_rfl)
theorem fr_end (qs ps av : List D) (m k : Nat) (hps : ∀ c ∈ ps, c.clean = true) (has : ∀ c ∈ av, c.clean = true) (hm : m ≤ 2000) (hal : av.length = m + 1) (hpl : ps.length = m * 10) (h : m ≤ k)  : RoundRun Try.prog (loopB Try.f65 2) ⟨[5], [2, 3, 5, 1000001, 1000004], []⟩ 6 ((uu) :: (.lst (.tok 2 0) 1 qs) :: (.ptr false 3 0) :: (uu) :: (uu) :: (.ptr false 5 0) :: (un 71 ++ (.int .i64 (↑m : Int)) :: (.int .i64 (↑k : Int)) :: (un 33))) [.dead, .box ps, .fam 0 1, .box [.slc 1 10 m], .box av, .box [.slc 4 1 (m + (1 : Nat))]] (.exit 4) (un 5 ++ (.ptr false 5 0) :: (un 106)) ([.dead, .box (List.map D.demote ps), .fam 0 1, .box [.slc 1 10 m], .box (List.map D.demote av), .box [.slc 4 1 (m + (1 : Nat))]]) := by
 exact RoundRun.of_eval mixed [tC (by ((try simp only [sL] at *); (try unfold big at *); omega) : (decide ((↑k : Int) < (↑m : Int))) = false), .cl ps (by first | exact clAll rfl | exact hps | exact has | exact cl_set has rfl | exact cl_set hps rfl | exact cl_set (cl_set hps rfl) rfl), .cl av (by first | exact clAll rfl | exact hps | exact has | exact cl_set has rfl | exact cl_set hps rfl | exact cl_set (cl_set hps rfl) rfl)] (by kernel_rfl)
theorem fr_no (qs ps av : List D) (m k : Nat) (hps : ∀ c ∈ ps, c.clean = true) (has : ∀ c ∈ av, c.clean = true) (hm : m ≤ 2000) (hal : av.length = m + 1) (hpl : ps.length = m * 10) (hk : k < m) (hj : ps[k * 10 + 8]? = some (.bool false))  : RoundRun Try.prog (loopB Try.f65 2) ⟨[1, 2, 5, 77, 78], [2, 3, 5, 1000001, 1000004], []⟩ 6 ((uu) :: (.lst (.tok 2 0) 1 qs) :: (.ptr false 3 0) :: (uu) :: (uu) :: (.ptr false 5 0) :: (un 71 ++ (.int .i64 (↑m : Int)) :: (.int .i64 (↑k : Int)) :: (un 33))) [.dead, .box ps, .fam 0 1, .box [.slc 1 10 m], .box av, .box [.slc 4 1 (m + (1 : Nat))]] .norm ((uu) :: (.lst (.tok 2 0) 1 qs) :: (.ptr false 3 0) :: (uu) :: (uu) :: (.ptr false 5 0) :: (un 71 ++ (.int .i64 (↑m : Int)) :: (.int .i64 (IntKind.i64.wrap ((↑k : Int) + 1))) :: (un 33))) ([.dead, .box (List.map D.demote ps), .fam 0 1, .box [.slc 1 10 m], .box (List.map D.demote av), .box [.slc 4 1 (m + (1 : Nat))]]) := by
 exact RoundRun.of_eval mixed [tC (by ((try simp only [sL] at *); (try unfold big at *); omega) : (decide ((↑k : Int) < (↑m : Int))) = true), .tst (decide (0 ≤ (↑k : Int) ∧ (↑k : Int) < (↑m : Int))) true (by ((try simp only [sL] at *); (try unfold big at *); omega)), .get _ _ _ hj, tF, .cl ps (by first | exact clAll rfl | exact hps | exact has | exact cl_set has rfl | exact cl_set hps rfl | exact cl_set (cl_set hps rfl) rfl), .cl av (by first | exact clAll rfl | exact hps | exact has | exact cl_set has rfl | exact cl_set hps rfl | exact cl_set (cl_set hps rfl) rfl)] (by kernel_rfl)
theorem fr_y (qs ps av : List D) (m k : Nat) (hps : ∀ c ∈ ps, c.clean = true) (has : ∀ c ∈ av, c.clean = true) (hm : m ≤ 2000) (hal : av.length = m + 1) (hpl : ps.length = m * 10) (hk : k < m) (hj : ps[k * 10 + 8]? = some (.bool true)) (to bg : Nat) (u v w : Int) (hto : ps[k * 10 + 9]? = some (.int .i64 (to : Int))) (hq : qs[to]? = some (.int .i64 (bg : Int))) (hbg : bg ≤ m) (hu : av[bg * 1]? = some (.int .i64 u)) (hv : av[Int.toNat (IntKind.i64.wrap ((k : Int) + 1)) * 1]? = some (.int .i64 v)) (u0 : 0 ≤ u) (u1 : u ≤ 100000) (v0 : 0 ≤ v) (v1 : v ≤ 100000)  : RoundRun Try.prog (loopB Try.f65 2) ⟨[1, 2, 5, 77, 78], [2, 3, 5, 1000001, 1000004], []⟩ 6 ((uu) :: (.lst (.tok 2 0) 1 qs) :: (.ptr false 3 0) :: (uu) :: (uu) :: (.ptr false 5 0) :: (un 71 ++ (.int .i64 (↑m : Int)) :: (.int .i64 (↑k : Int)) :: (un 33))) [.dead, .box ps, .fam 0 1, .box [.slc 1 10 m], .box av, .box [.slc 4 1 (m + (1 : Nat))]] .norm ((uu) :: (.lst (.tok 2 0) 1 qs) :: (.ptr false 3 0) :: (uu) :: (uu) :: (.ptr false 5 0) :: (un 71 ++ (.int .i64 (↑m : Int)) :: (.int .i64 (IntKind.i64.wrap ((↑k : Int) + 1))) :: (un 33))) ([.dead, .box (List.map D.demote (List.set ps (Int.toNat (↑k : Int) * (10 : Nat) + (0 : Nat) + (6 : Nat)) (.int .i64 (IntKind.i64.wrap (u - v))))), .fam 0 1, .box [.slc 1 10 m], .box (List.map D.demote av), .box [.slc 4 1 (m + (1 : Nat))]]) := by
 exact RoundRun.of_eval mixed [tC (by ((try simp only [sL] at *); (try unfold big at *); omega) : (decide ((↑k : Int) < (↑m : Int))) = true), .tst (decide (0 ≤ (↑k : Int) ∧ (↑k : Int) < (↑m : Int))) true (by ((try simp only [sL] at *); (try unfold big at *); omega)), .get _ _ _ hj, tT, .get _ _ _ hto, tT, .get _ _ _ hq, .tst (decide (0 ≤ (↑bg : Int) ∧ (↑bg : Int) < (↑(m + (1 : Nat)) : Int))) true (by ((try simp only [sL] at *); (try unfold big at *); omega)), .get _ _ _ hu, .tst (decide (0 ≤ IntKind.i64.wrap ((↑k : Int) + 1) ∧ IntKind.i64.wrap ((↑k : Int) + 1) < (↑(m + (1 : Nat)) : Int))) true (by ((try simp only [sL] at *); (try unfold big at *); omega)), .get _ _ _ hv, .putA _ _ _ _ (@put_set ps (Int.toNat (↑k : Int) * (10 : Nat) + (0 : Nat) + (6 : Nat)) (.int .i64 (IntKind.i64.wrap (u - v))) (by ((try simp only [sL] at *); (try unfold big at *); omega))), .raw, .cl (List.set ps (Int.toNat (↑k : Int) * (10 : Nat) + (0 : Nat) + (6 : Nat)) (.int .i64 (IntKind.i64.wrap (u - v)))) (by first | exact clAll rfl | exact hps | exact has | exact cl_set has rfl | exact cl_set hps rfl | exact cl_set (cl_set hps rfl) rfl), .cl av (by first | exact clAll rfl | exact hps | exact has | exact cl_set has rfl | exact cl_set hps rfl | exact cl_set (cl_set hps rfl) rfl)] (by kernel_rfl)
abbrev rxS (m : Nat) (ps av : List D) : List Ob := [.dead, .box ps, .fam 0 1, .box [.slc 1 10 m], .box av, .box [.slc 4 1 (m + 1)]]
abbrev rxF : D := .fn (.func 127) [] [.ptr false 3 0, .ptr false 5 0]
abbrev rkT (m k : Nat) : List D := ((.ptr false 3 0) :: (.ptr false 5 0) :: (.undef) :: (.undef) :: (.int .i64 (m : Int)) :: (.int .i64 (k : Int)) :: (un 18))
abbrev rkU : List D := (un 24)
abbrev jrT (qs : List D) (more : Bool) (m k : Nat) : List D := ((.undef) :: (.lst (.tok 2 0) 1 qs) :: (.ptr false 3 0) :: (.undef) :: (.undef) :: (.ptr false 5 0) :: (rxF) :: (.bool more) :: (un 13 ++ (.int .i64 (m : Int)) :: (.int .i64 (k : Int)) :: (un 89)))
abbrev jrU (qs : List D) (more : Bool) : List D := ((.undef) :: (.lst (.tok 2 0) 1 qs) :: (.ptr false 3 0) :: (.undef) :: (.undef) :: (.ptr false 5 0) :: (rxF) :: (.bool more) :: (un 104))
abbrev ryT (qs : List D) : List D := ((.undef) :: (.lst (.tok 2 0) 1 qs) :: (.ptr false 3 0) :: (.undef) :: (.undef) :: (.ptr false 5 0) :: (rxF) :: (un 105))
abbrev ryU (qs : List D) : List D := ((.undef) :: (.lst (.tok 2 0) 1 qs) :: (.ptr false 3 0) :: (.undef) :: (.undef) :: (.ptr false 5 0) :: (un 106))
abbrev frT (qs : List D) (m k : Nat) : List D := ((.undef) :: (.lst (.tok 2 0) 1 qs) :: (.ptr false 3 0) :: (.undef) :: (.undef) :: (.ptr false 5 0) :: (un 71 ++ (.int .i64 (m : Int)) :: (.int .i64 (k : Int)) :: (un 33)))
abbrev frU : List D := (un 5 ++ (.ptr false 5 0) :: (un 106))
theorem run_id2 {n0 : Nat} {c : Code} {t : List D} {ps av : List D} {m : Nat} {ex : Ex} {t' : List D} {s' : List Ob} (hp : ps.map D.demote = ps) (ha : av.map D.demote = av) (h : LoopRun Try.prog n0 c t (rxS m ps av) ex t' s') : LoopRun Try.prog n0 c t (rxS m (ps.map D.demote) (av.map D.demote)) ex t' s' := by rw [hp, ha]; exact h
theorem ry_more (qs ps av ps2 av2 : List D) (m : Nat) (hm : m ≤ 2000) (hps : ∀ c ∈ ps, c.clean = true) (has : ∀ c ∈ av, c.clean = true) (hps2 : ∀ c ∈ ps2, c.clean = true) (has2 : ∀ c ∈ av2, c.clean = true) (dps : ps.map D.demote = ps) (dav : av.map D.demote = av) (dav2 : av2.map D.demote = av2) (hk1 : LoopRun Try.prog 6 (.loop (loopB Try.f127 0)) (rkT m 0) (rxS m ps av) (.exit 0) rkU (rxS m ps av2)) (hj1 : LoopRun Try.prog 6 (.loop (loopB Try.f65 1)) (jrT qs false m 0) (rxS m ps av2) (.exit 2) (jrU qs true) (rxS m ps2 av2))  : RoundRun Try.prog (loopB Try.f65 0) ⟨[1, 2, 5, 6], [2, 3, 5, 1000001, 1000004], []⟩ 6 ((D.undef) :: (.lst (.tok 2 0) 1 qs) :: (.ptr false 3 0) :: (D.undef) :: (D.undef) :: (.ptr false 5 0) :: (rxF) :: (un 105)) [.dead, .box ps, .fam 0 1, .box [.slc 1 10 m], .box av, .box [.slc 4 1 (m + (1 : Nat))]] .norm ((D.undef) :: (.lst (.tok 2 0) 1 qs) :: (.ptr false 3 0) :: (D.undef) :: (D.undef) :: (.ptr false 5 0) :: (D.fn (Fn.func (127 : FuncId)) [] [.ptr false 3 0, .ptr false 5 0]) :: (un 105)) ([.dead, .box (List.map D.demote ps2), .fam 0 1, .box [.slc 1 10 m], .box (List.map D.demote av2), .box [.slc 4 1 (m + (1 : Nat))]]) := by
 have c0 := @run_id2 (nat_lit 6) _ (((.ptr false 3 0) :: (.ptr false 5 0) :: (D.undef) :: (D.undef) :: (.int .i64 (↑m : Int)) :: (.int .i64 0) :: (un 18))) (ps) (av) (m) _ _ _ dps dav hk1
 have c1 := @run_id2 (nat_lit 6) _ (((D.undef) :: (.lst (.tok 2 0) 1 qs) :: (.ptr false 3 0) :: (D.undef) :: (D.undef) :: (.ptr false 5 0) :: (D.fn (Fn.func 127) [] [.ptr false 3 0, .ptr false 5 0]) :: (.bool false) :: (un 13 ++ (.int .i64 (↑m : Int)) :: (.int .i64 0) :: (un 89)))) (ps) (av2) (m) _ _ _ dps dav2 hj1
 exact RoundRun.of_eval mixed [.inl, .head ⟨[0, 1, 4, 5], [2, 3, 5, 1000001, 1000004], []⟩ _ _ _ _ _ _ _ c0, .cl (ps) (by first | exact clAll rfl | exact hps | exact has | exact hps2 | exact has2), .cl (av) (by first | exact clAll rfl | exact hps | exact has | exact hps2 | exact has2), .head ⟨[1, 2, 5, 6, 7, 21, 22], [2, 3, 5, 1000001, 1000004], []⟩ _ _ _ _ _ _ _ c1, .cl (ps) (by first | exact clAll rfl | exact hps | exact has | exact hps2 | exact has2), .cl (av2) (by first | exact clAll rfl | exact hps | exact has | exact hps2 | exact has2), tF, .cl (ps2) (by first | exact clAll rfl | exact hps | exact has | exact hps2 | exact has2), .cl (av2) (by first | exact clAll rfl | exact hps | exact has | exact hps2 | exact has2)] (by kernel_rfl)
theorem ry_end (qs ps av ps2 av2 : List D) (m : Nat) (hm : m ≤ 2000) (hps : ∀ c ∈ ps, c.clean = true) (has : ∀ c ∈ av, c.clean = true) (hps2 : ∀ c ∈ ps2, c.clean = true) (has2 : ∀ c ∈ av2, c.clean = true) (dps : ps.map D.demote = ps) (dav : av.map D.demote = av) (dav2 : av2.map D.demote = av2) (hk1 : LoopRun Try.prog 6 (.loop (loopB Try.f127 0)) (rkT m 0) (rxS m ps av) (.exit 0) rkU (rxS m ps av2)) (hj1 : LoopRun Try.prog 6 (.loop (loopB Try.f65 1)) (jrT qs false m 0) (rxS m ps av2) (.exit 2) (jrU qs false) (rxS m ps2 av2))  : RoundRun Try.prog (loopB Try.f65 0) ⟨[1, 2, 5], [2, 3, 5, 1000001, 1000004], []⟩ 6 ((D.undef) :: (.lst (.tok 2 0) 1 qs) :: (.ptr false 3 0) :: (D.undef) :: (D.undef) :: (.ptr false 5 0) :: (rxF) :: (un 105)) [.dead, .box ps, .fam 0 1, .box [.slc 1 10 m], .box av, .box [.slc 4 1 (m + (1 : Nat))]] (.exit 0) ((D.undef) :: (.lst (.tok 2 0) 1 qs) :: (.ptr false 3 0) :: (D.undef) :: (D.undef) :: (.ptr false 5 0) :: (un 106)) ([.dead, .box (List.map D.demote ps2), .fam 0 1, .box [.slc 1 10 m], .box (List.map D.demote av2), .box [.slc 4 1 (m + (1 : Nat))]]) := by
 have c0 := @run_id2 (nat_lit 6) _ (((.ptr false 3 0) :: (.ptr false 5 0) :: (D.undef) :: (D.undef) :: (.int .i64 (↑m : Int)) :: (.int .i64 0) :: (un 18))) (ps) (av) (m) _ _ _ dps dav hk1
 have c1 := @run_id2 (nat_lit 6) _ (((D.undef) :: (.lst (.tok 2 0) 1 qs) :: (.ptr false 3 0) :: (D.undef) :: (D.undef) :: (.ptr false 5 0) :: (D.fn (Fn.func 127) [] [.ptr false 3 0, .ptr false 5 0]) :: (.bool false) :: (un 13 ++ (.int .i64 (↑m : Int)) :: (.int .i64 0) :: (un 89)))) (ps) (av2) (m) _ _ _ dps dav2 hj1
 exact RoundRun.of_eval mixed [.inl, .head ⟨[0, 1, 4, 5], [2, 3, 5, 1000001, 1000004], []⟩ _ _ _ _ _ _ _ c0, .cl (ps) (by first | exact clAll rfl | exact hps | exact has | exact hps2 | exact has2), .cl (av) (by first | exact clAll rfl | exact hps | exact has | exact hps2 | exact has2), .head ⟨[1, 2, 5, 6, 7, 21, 22], [2, 3, 5, 1000001, 1000004], []⟩ _ _ _ _ _ _ _ c1, .cl (ps) (by first | exact clAll rfl | exact hps | exact has | exact hps2 | exact has2), .cl (av2) (by first | exact clAll rfl | exact hps | exact has | exact hps2 | exact has2), tT, .cl (ps2) (by first | exact clAll rfl | exact hps | exact has | exact hps2 | exact has2), .cl (av2) (by first | exact clAll rfl | exact hps | exact has | exact hps2 | exact has2)] (by kernel_rfl)
theorem relax_ok (qs ps ps1 ps2 av1 av2 : List D) (m : Nat) (hm : m ≤ 2000) (hmk : decide ((0 : Int) ≤ IntKind.i64.wrap ((m : Int) + 1) ∧ IntKind.i64.wrap ((m : Int) + 1) = IntKind.i64.wrap ((m : Int) + 1) ∧ IntKind.i64.wrap ((m : Int) + 1) ≤ 2147483648) = true) (hps : ∀ c ∈ ps, c.clean = true) (hps1 : ∀ c ∈ ps1, c.clean = true) (has1 : ∀ c ∈ av1, c.clean = true) (hr : LoopRun Try.prog 6 (.loop (loopB Try.f65 0)) (ryT qs) [.dead, .box (List.map D.demote ps), .fam 0 1, .box [.slc 1 10 m], .box (List.map D.demote (List.replicate (Int.toNat (IntKind.i64.wrap ((m : Int) + 1))) (.int .i64 0))), .box [.slc 4 1 (Int.toNat (IntKind.i64.wrap ((m : Int) + 1)))]] (.exit 0) (ryU qs) [.dead, .box ps1, .fam 0 1, .box [.slc 1 10 m], .box av1, .box [.slc 4 1 (Int.toNat (IntKind.i64.wrap ((m : Int) + 1)))]]) (hf : LoopRun Try.prog 6 (.loop (loopB Try.f65 2)) (frT qs m 0) [.dead, .box (List.map D.demote ps1), .fam 0 1, .box [.slc 1 10 m], .box (List.map D.demote av1), .box [.slc 4 1 (Int.toNat (IntKind.i64.wrap ((m : Int) + 1)))]] (.exit 4) frU [.dead, .box ps2, .fam 0 1, .box [.slc 1 10 m], .box av2, .box [.slc 4 1 (Int.toNat (IntKind.i64.wrap ((m : Int) + 1)))]])  : CallRun Try.prog 65 ([.slc 1 10 m, .lst (.tok 2 0) 1 qs]) ([.dead, .box ps, .fam 0 1]) (.slc 4 1 (Int.toNat (IntKind.i64.wrap ((m : Int) + 1)))) ([.dead, .box ps2, .dead, .dead, .box av2, .dead]) := by
 have c0 := @run_id (nat_lit 6) _ (((D.undef) :: (.lst (.tok 2 0) 1 qs) :: (.ptr false 3 0) :: (D.undef) :: (D.undef) :: (.ptr false 5 0) :: (D.fn (Fn.func 127) [] [.ptr false 3 0, .ptr false 5 0]) :: (un 105))) ([.dead, .box (List.map D.demote ps), .fam 0 1, .box [.slc 1 10 m], .box (List.map D.demote (repD (Int.toNat (IntKind.i64.wrap ((↑m : Int) + (1 : Int)))) [valD (Value.int IntKind.i64 (0 : Int))])), .box [.slc 4 1 (Int.toNat (IntKind.i64.wrap ((↑m : Int) + (1 : Int))))]]) _ _ _ hr
 have c1 := @run_id (nat_lit 6) _ (((D.undef) :: (.lst (.tok 2 0) 1 qs) :: (.ptr false 3 0) :: (D.undef) :: (D.undef) :: (.ptr false 5 0) :: (un 71 ++ (.int .i64 (↑m : Int)) :: (.int .i64 0) :: (un 33)))) ([.dead, .box (List.map D.demote ps1), .fam 0 1, .box [.slc 1 10 m], .box (List.map D.demote av1), .box [.slc 4 1 (Int.toNat (IntKind.i64.wrap ((↑m : Int) + (1 : Int))))]]) _ _ _ hf
 exact CallRun.of_eval (keep := [1, 4]) mixed [tC (v := true) hmk, .raw, .head ⟨[1, 2, 5, 6], [2, 3, 5, 1000001, 1000004], []⟩ _ _ _ _ _ _ _ c0, .cl (ps) (by first | exact clAll rfl | exact hps | exact hps1 | exact has1 | (intro c hc; rw [List.eq_of_mem_replicate hc]; rfl)), .cl (repD (Int.toNat (IntKind.i64.wrap ((↑m : Int) + (1 : Int)))) [valD (Value.int IntKind.i64 (0 : Int))]) (by first | exact clAll rfl | exact hps | exact hps1 | exact has1 | (intro c hc; rw [List.eq_of_mem_replicate hc]; rfl)), .head ⟨[1, 2, 5, 77, 78], [2, 3, 5, 1000001, 1000004], []⟩ _ _ _ _ _ _ _ c1, .cl (ps1) (by first | exact clAll rfl | exact hps | exact hps1 | exact has1 | (intro c hc; rw [List.eq_of_mem_replicate hc]; rfl)), .cl (av1) (by first | exact clAll rfl | exact hps | exact hps1 | exact has1 | (intro c hc; rw [List.eq_of_mem_replicate hc]; rfl))] (by kernel_rfl)
theorem cd_end (cs : List Int) (qs ps av : List D) (m k : Nat) (hps : ∀ c ∈ ps, c.clean = true) (has : ∀ c ∈ av, c.clean = true) (hm : m ≤ 2000) (dps : ps.map D.demote = ps) (dav : av.map D.demote = av) (hcs : ((bD cs).length : Int) ≤ 50000) (h : m ≤ k)  : RoundRun Try.prog (loopB Try.f26 0) ⟨[5, 8, 9], [1000001, 1000004], [(4, 1)]⟩ 6 (un 4 ++ (.lst (.tok 6 0) 1 (bD cs)) :: (.lst .tight 0 []) :: (D.undef) :: (D.undef) :: (.lst (.tok 2 0) 1 qs) :: (.slc 4 1 (m + (1 : Nat))) :: (un 25 ++ (.slc 1 10 m) :: (.int .i64 (↑m : Int)) :: (.int .i64 (↑k : Int)) :: (un 30))) [.dead, .box ps, .dead, .dead, .box av, .dead, .fam 0 1] (.exit 0) (un 4 ++ (.lst (.tok 6 0) 1 (bD cs)) :: (.lst .tight 0 []) :: (D.undef) :: (D.undef) :: (.lst (.tok 2 0) 1 qs) :: (.slc 4 1 (m + (1 : Nat))) :: (un 58)) ([.dead, .box (List.map D.demote ps), .dead, .dead, .box (List.map D.demote av), .dead, .fam 0 1]) := by
 exact RoundRun.of_eval mixed [tC (by ((try simp only [sL] at *); (try unfold big at *); omega) : (decide ((↑k : Int) < (↑m : Int))) = false), .cl (ps) (by first | exact clAll rfl | exact hps | exact has), .cl (av) (by first | exact clAll rfl | exact hps | exact has)] (by kernel_rfl)
theorem cd_in (cs : List Int) (qs ps av : List D) (m k : Nat) (hps : ∀ c ∈ ps, c.clean = true) (has : ∀ c ∈ av, c.clean = true) (hm : m ≤ 2000) (dps : ps.map D.demote = ps) (dav : av.map D.demote = av) (hcs : ((bD cs).length : Int) ≤ 50000) (hk : k < m) (x : XS) (j : Bool) (to : Int) (c : List Int) (hA : GetsA ps (k * 10) 10 [.int .i8 x.op, .int .i8 x.w, .int .i8 x.dst, .int .i8 x.src, .int .i8 x.base, .int .i64 x.disp, .int .i64 x.imm, .int .i8 x.cc, .bool j, .int .i64 to]) (hc : ((bD c).length : Int) ≤ 11) (hb : Ret Try.prog 21 [xsD x] (.tup [.lst .no 1 (bD c), .int .i64 0]))  : RoundRun Try.prog (loopB Try.f26 0) ⟨[5, 8, 9, 35, 36, 37], [1000001, 1000004], [(4, 1)]⟩ 6 (un 4 ++ (.lst (.tok 6 0) 1 (bD cs)) :: (.lst .tight 0 []) :: (D.undef) :: (D.undef) :: (.lst (.tok 2 0) 1 qs) :: (.slc 4 1 (m + (1 : Nat))) :: (un 25 ++ (.slc 1 10 m) :: (.int .i64 (↑m : Int)) :: (.int .i64 (↑k : Int)) :: (un 30))) [.dead, .box ps, .dead, .dead, .box av, .dead, .fam 0 1] .norm (un 4 ++ (.lst (.tok 6 0) 1 (bD cs ++ bD c)) :: (.lst .tight 0 []) :: (D.undef) :: (D.undef) :: (.lst (.tok 2 0) 1 qs) :: (.slc 4 1 (m + (1 : Nat))) :: (un 25 ++ (.slc 1 10 m) :: (.int .i64 (↑m : Int)) :: (.int .i64 (IntKind.i64.wrap ((↑k : Int) + (1 : Int)))) :: (un 30))) ([.dead, .box (List.map D.demote ps), .dead, .dead, .box (List.map D.demote av), .dead, .fam 0 1]) := by
 exact RoundRun.of_eval mixed ([tC (by ((try simp only [sL] at *); (try unfold big at *); omega) : (decide ((↑k : Int) < (↑m : Int))) = true), .tst (decide ((0 : Int) ≤ (↑k : Int) ∧ (↑k : Int) < (↑m : Int))) true (by ((try simp only [sL] at *); (try unfold big at *); omega)), .getA _ _ _ _ (@gets_id (ps) (Int.toNat (↑k : Int) * (10 : Nat)) ((10 : Nat)) _ hA), .ret _ _ _ hb, .inl, .go 64, tT, tT, .get ([.lst .no 1 (bD cs), .lst .no 1 (bD c)]) 0 (.lst .no 1 (bD cs)) rfl, .len ((0 : Nat) + List.length (bD cs)) ((2147483648 : Nat)) (by first | decide | omega | (simp; omega)), tT, tT, .get ([.lst .no 1 (bD cs), .lst .no 1 (bD c)]) 1 (.lst .no 1 (bD c)) rfl, .len (List.length (bD cs) + List.length (bD c)) ((2147483648 : Nat)) (by first | decide | omega | (simp; omega)), tF, .cl (ps) (by first | exact clAll rfl | exact hps | exact has)] ++ [.cl (av) (by first | exact clAll rfl | exact hps | exact has)]) (by kernel_rfl)
theorem at_end (cs qs av : List D) (a : List Int) (m n k : Nat) (has : ∀ c ∈ av, c.clean = true) (hm : m ≤ 2000) (hn : n ≤ 1000) (dav : av.map D.demote = av) (ha : ((intsD a).length : Int) ≤ 1000) (h : n ≤ k)  : RoundRun Try.prog (loopB Try.f26 1) ⟨[4], [6], [(5, 1)]⟩ 7 (un 4 ++ (.lst (.tok 6 0) 1 cs) :: (.lst (.tok 7 0) 1 (intsD a)) :: (D.undef) :: (D.undef) :: (D.undef) :: (.slc 4 1 (m + (1 : Nat))) :: (un 42 ++ (.lst (.tok 2 0) 1 qs) :: (.int .i64 (↑n : Int)) :: (.int .i64 (↑k : Int)) :: (un 13))) [.dead, .dead, .dead, .dead, .box av, .dead, .fam 0 1, .fam 0 1] (.exit 2) (un 4 ++ (.lst (.tok 6 0) 1 cs) :: (.lst (.tok 7 0) 1 (intsD a)) :: (un 62)) ([.dead, .dead, .dead, .dead, .dead, .dead, .fam 0 1, .fam 0 1]) := by
 exact RoundRun.of_eval mixed [tC (by ((try simp only [sL] at *); (try unfold big at *); omega) : (decide ((↑k : Int) < (↑n : Int))) = false)] (by kernel_rfl)
theorem at_in (cs qs av : List D) (a : List Int) (m n k : Nat) (has : ∀ c ∈ av, c.clean = true) (hm : m ≤ 2000) (hn : n ≤ 1000) (dav : av.map D.demote = av) (ha : ((intsD a).length : Int) ≤ 1000) (hk : k < n) (bg : Nat) (u : Int) (hq : qs[k]? = some (.int .i64 (bg : Int))) (hbg : bg ≤ m) (hu : av[bg * 1]? = some (.int .i64 u))  : RoundRun Try.prog (loopB Try.f26 1) ⟨[4, 9, 52, 53, 54], [1000004, 6], [(5, 1)]⟩ 7 (un 4 ++ (.lst (.tok 6 0) 1 cs) :: (.lst (.tok 7 0) 1 (intsD a)) :: (D.undef) :: (D.undef) :: (D.undef) :: (.slc 4 1 (m + (1 : Nat))) :: (un 42 ++ (.lst (.tok 2 0) 1 qs) :: (.int .i64 (↑n : Int)) :: (.int .i64 (↑k : Int)) :: (un 13))) [.dead, .dead, .dead, .dead, .box av, .dead, .fam 0 1, .fam 0 1] .norm (un 4 ++ (.lst (.tok 6 0) 1 cs) :: (.lst (.tok 7 0) 1 (intsD a ++ [.int .i64 u])) :: (D.undef) :: (D.undef) :: (D.undef) :: (.slc 4 1 (m + (1 : Nat))) :: (un 42 ++ (.lst (.tok 2 0) 1 qs) :: (.int .i64 (↑n : Int)) :: (.int .i64 (IntKind.i64.wrap ((↑k : Int) + (1 : Int)))) :: (un 13))) ([.dead, .dead, .dead, .dead, .box (List.map D.demote av), .dead, .fam 0 1, .fam 0 1]) := by
 exact RoundRun.of_eval mixed [tC (by ((try simp only [sL] at *); (try unfold big at *); omega) : (decide ((↑k : Int) < (↑n : Int))) = true), tT, .get _ _ _ hq, .tst (decide ((0 : Int) ≤ (↑bg : Int) ∧ (↑bg : Int) < (↑(m + (1 : Nat)) : Int))) true (by ((try simp only [sL] at *); (try unfold big at *); omega)), .get _ _ _ hu, .len (List.length (intsD a) + (1 : Nat)) ((2147483648 : Nat)) (by first | decide | omega | (simp; omega)), .cl (av) (by first | exact clAll rfl | exact hps | exact has)] (by kernel_rfl)
theorem callid_ok {f : FuncId} {ar : List D} {s : List Ob} {d : D} {s' : List Ob} (h : CallRun Try.prog f ar s d s') : CallRun Try.prog f ar s d s' := h
abbrev cdT (qs : List D) (cs : List Int) (m k : Nat) : List D := (un 4 ++ (.lst (.tok 6 0) 1 (bD cs)) :: (.lst .tight 0 []) :: (.undef) :: (.undef) :: (.lst (.tok 2 0) 1 qs) :: (.slc 4 1 (m + 1)) :: (un 25 ++ (.slc 1 10 m) :: (.int .i64 (m : Int)) :: (.int .i64 (k : Int)) :: (un 30)))
abbrev cdU (qs : List D) (cs : List Int) (m : Nat) : List D := (un 4 ++ (.lst (.tok 6 0) 1 (bD cs)) :: (.lst .tight 0 []) :: (.undef) :: (.undef) :: (.lst (.tok 2 0) 1 qs) :: (.slc 4 1 (m + 1)) :: (un 58))
abbrev atT (cs qs : List D) (a : List Int) (m n k : Nat) : List D := (un 4 ++ (.lst (.tok 6 0) 1 cs) :: (.lst (.tok 7 0) 1 (intsD a)) :: (.undef) :: (.undef) :: (.undef) :: (.slc 4 1 (m + 1)) :: (un 42 ++ (.lst (.tok 2 0) 1 qs) :: (.int .i64 (n : Int)) :: (.int .i64 (k : Int)) :: (un 13)))
abbrev atU (cs : List D) (a : List Int) : List D := (un 4 ++ (.lst (.tok 6 0) 1 cs) :: (.lst (.tok 7 0) 1 (intsD a)) :: (un 62))
abbrev ruS (ps av : List D) : List Ob := [.dead, .box ps, .dead, .dead, .box av, .dead, .fam 0 1]
abbrev ruA (av : List D) : List Ob := [.dead, .dead, .dead, .dead, .box av, .dead, .fam 0 1, .fam 0 1]
abbrev ruE : List Ob := [.dead, .dead, .dead, .dead, .dead, .dead, .fam 0 1, .fam 0 1]
theorem run_err_ok (pro : List XS) (l : List (List IrS)) (e : Int) (he : e ≠ 0) (hp : Ret Try.prog 64 [.lst .no 8 (xsL pro), .lst .no 1 (rwL l)] (.tup [.lst .tight 0 [], .lst .tight 0 [], .int .i64 e]))  : Ret Try.prog 26 ([.lst .no 8 (xsL pro), .lst .no 1 (rwL l)]) (.tup [.lst .tight 0 [], .lst .tight 0 [], .int .i64 e]) := by
 exact (Ret.of_eval (d := .tup [.lst .tight 0 [], .lst .tight 0 [], .int .i64 e]) mixed Try.func26 (by kernel_rfl) [.ret _ _ _ hp, tC (nt (by ((try simp only [sL] at *); (try unfold big at *); omega) : (e == (0 : Int)) = false))] (by kernel_rfl)).to (by first | (simp [wk, wkL, wkO]; done) | exact ⟨⟨rfl, .inl rfl, trivial, .inr rfl⟩, ⟨rfl, .inl rfl, trivial, .inr rfl⟩, rfl, trivial⟩ | exact ⟨⟨rfl, .inl rfl, trivial, .inl rfl⟩, ⟨rfl, .inl rfl, trivial, .inr rfl⟩, rfl, trivial⟩)
theorem run_long_ok (pro : List XS) (l : List (List IrS)) (q : List Int) (ps ps2 av : List D) (m : Nat) (t : Int) (hm : m ≤ 2000) (hps : ∀ c ∈ ps2, c.clean = true) (has : ∀ c ∈ av, c.clean = true) (hp : CallRun Try.prog 64 [.lst .no 8 (xsL pro), .lst .no 1 (rwL l)] [] (.tup [.slc 1 10 m, .lst (.tok 2 0) 1 (intsD q), .int .i64 0]) [.dead, .box ps, .fam 0 1]) (hr : CallRun Try.prog 65 [.slc 1 10 m, .lst (.tok 2 0) 1 (intsD q)] [.dead, .box ps, .fam 0 1] (.slc 4 1 (m + 1)) [.dead, .box ps2, .dead, .dead, .box av, .dead]) (ht : av[m * 1]? = some (.int .i64 t)) (h : 16384 < t)  : Ret Try.prog 26 ([.lst .no 8 (xsL pro), .lst .no 1 (rwL l)]) (.tup [.lst .tight 0 [], .lst .tight 0 [], .int .i64 3]) := by
 exact (Ret.of_eval (d := .tup [.lst .tight 0 [], .lst .tight 0 [], .int .i64 3]) mixed Try.func26 (by kernel_rfl) [.callR _ _ _ _ _ (@callid_ok _ ([.lst .no 8 (xsL pro), .lst .no 1 (rwL l)]) ([]) _ _ hp), tF, .callR _ _ _ _ _ (@callid_ok _ ([.slc 1 10 m, .lst (.tok 2 0) 1 (intsD q)]) ([.dead, .box ps, .fam 0 1]) _ _ hr), .tst (decide ((0 : Int) ≤ (↑m : Int) ∧ (↑m : Int) < (↑(m + (1 : Nat)) : Int))) true (by ((try simp only [sL] at *); (try unfold big at *); omega)), .get _ _ _ ht, tC (ltL 16384 (decide_eq_false (by omega : ¬ t < 16385)))] (by kernel_rfl)).to (by first | (simp [wk, wkL, wkO]; done) | exact ⟨⟨rfl, .inl rfl, trivial, .inr rfl⟩, ⟨rfl, .inl rfl, trivial, .inr rfl⟩, rfl, trivial⟩ | exact ⟨⟨rfl, .inl rfl, trivial, .inl rfl⟩, ⟨rfl, .inl rfl, trivial, .inr rfl⟩, rfl, trivial⟩)
theorem run_ok_ok (pro : List XS) (l : List (List IrS)) (cs a q : List Int) (ps ps2 av : List D) (m : Nat) (t : Int) (hm : m ≤ 2000) (hps : ∀ c ∈ ps2, c.clean = true) (has : ∀ c ∈ av, c.clean = true) (hp : CallRun Try.prog 64 [.lst .no 8 (xsL pro), .lst .no 1 (rwL l)] [] (.tup [.slc 1 10 m, .lst (.tok 2 0) 1 (intsD q), .int .i64 0]) [.dead, .box ps, .fam 0 1]) (hr : CallRun Try.prog 65 [.slc 1 10 m, .lst (.tok 2 0) 1 (intsD q)] [.dead, .box ps, .fam 0 1] (.slc 4 1 (m + 1)) [.dead, .box ps2, .dead, .dead, .box av, .dead]) (ht : av[m * 1]? = some (.int .i64 t)) (h : t ≤ 16384) (h0 : LoopRun Try.prog 6 (.loop (loopB Try.f26 0)) (cdT (intsD q) [] m 0) (ruS (List.map D.demote ps2) (List.map D.demote av)) (.exit 0) (cdU (intsD q) cs m) (ruS ps2 av)) (h1 : LoopRun Try.prog 7 (.loop (loopB Try.f26 1)) (atT (bD cs) (intsD q) [] m (intsD q).length 0) (ruA (List.map D.demote av)) (.exit 2) (atU (bD cs) a) ruE)  : Ret Try.prog 26 ([.lst .no 8 (xsL pro), .lst .no 1 (rwL l)]) (.tup [.lst .no 1 (bD cs), .lst .no 1 (intsD a), .int .i64 0]) := by
 have c0 := @run_id (nat_lit 6) _ ((un 4 ++ (.lst (.tok 6 0) 1 []) :: (.lst .tight 0 []) :: (D.undef) :: (D.undef) :: (.lst (.tok 2 0) 1 (intsD q)) :: (.slc 4 1 (m + (1 : Nat))) :: (un 25 ++ (.slc 1 10 m) :: (.int .i64 (↑m : Int)) :: (.int .i64 0) :: (un 30)))) ([.dead, .box (List.map D.demote ps2), .dead, .dead, .box (List.map D.demote av), .dead, .fam 0 1]) _ _ _ h0
 have c1 := @run_id (nat_lit 7) _ ((un 4 ++ (.lst (.tok 6 0) 1 (bD cs)) :: (.lst (.tok 7 0) 1 []) :: (D.undef) :: (D.undef) :: (D.undef) :: (.slc 4 1 (m + (1 : Nat))) :: (un 42 ++ (.lst (.tok 2 0) 1 (intsD q)) :: (.int .i64 (↑(List.length (intsD q)) : Int)) :: (.int .i64 0) :: (un 13)))) ([.dead, .dead, .dead, .dead, .box (List.map D.demote av), .dead, .fam 0 1, .fam 0 1]) _ _ _ h1
 exact (Ret.of_eval (d := .tup [.lst (.fresh 1) 1 (bD cs), .lst (.fresh 1) 1 (intsD a), .int .i64 0]) mixed Try.func26 (by kernel_rfl) [.callR _ _ _ _ _ (@callid_ok _ ([.lst .no 8 (xsL pro), .lst .no 1 (rwL l)]) ([]) _ _ hp), tF, .callR _ _ _ _ _ (@callid_ok _ ([.slc 1 10 m, .lst (.tok 2 0) 1 (intsD q)]) ([.dead, .box ps, .fam 0 1]) _ _ hr), .tst (decide ((0 : Int) ≤ (↑m : Int) ∧ (↑m : Int) < (↑(m + (1 : Nat)) : Int))) true (by ((try simp only [sL] at *); (try unfold big at *); omega)), .get _ _ _ ht, tC (ltL 16384 (decide_eq_true (Int.lt_add_one_of_le h))), .head ⟨[5, 8, 9, 35, 36, 37], [1000001, 1000004], [(4, 1)]⟩ _ _ _ _ _ _ _ c0, .cl (ps2) (by first | exact clAll rfl | exact hps | exact has), .cl (av) (by first | exact clAll rfl | exact hps | exact has), .head ⟨[4, 9, 52, 53, 54], [1000004, 6], [(5, 1)]⟩ _ _ _ _ _ _ _ c1, .cl (av) (by first | exact clAll rfl | exact hps | exact has)] (by kernel_rfl)).to (by first | (simp [wk, wkL, wkO]; done) | exact ⟨⟨rfl, .inl rfl, trivial, .inr rfl⟩, ⟨rfl, .inl rfl, trivial, .inr rfl⟩, rfl, trivial⟩ | exact ⟨⟨rfl, .inl rfl, trivial, .inl rfl⟩, ⟨rfl, .inl rfl, trivial, .inr rfl⟩, rfl, trivial⟩)
theorem an_end (qs : List D) (a : List Int) (n k : Nat) (hn : n ≤ 1000) (ha : ((intsD a).length : Int) ≤ 1000) (h : n ≤ k)  : RoundRun Try.prog (loopB Try.f26 1) ⟨[4], [], [(5, 1)]⟩ 4 (un 4 ++ (.lst .tight 0 []) :: (.lst (.tok 4 0) 1 (intsD a)) :: (D.undef) :: (D.undef) :: (D.undef) :: (.slc 2 1 1) :: (un 42 ++ (.lst .no 1 qs) :: (.int .i64 (↑n : Int)) :: (.int .i64 (↑k : Int)) :: (un 13))) [.dead, .dead, .box [.int .i64 0], .dead, .fam 0 1] (.exit 2) (un 4 ++ (.lst .tight 0 []) :: (.lst (.tok 4 0) 1 (intsD a)) :: (un 62)) ([.dead, .dead, .dead, .dead, .fam 0 1]) := by
 exact RoundRun.of_eval mixed [tC (by ((try simp only [sL] at *); (try unfold big at *); omega) : (decide ((↑k : Int) < (↑n : Int))) = false)] (by kernel_rfl)
theorem an_in (qs : List D) (a : List Int) (n k : Nat) (hn : n ≤ 1000) (ha : ((intsD a).length : Int) ≤ 1000) (hk : k < n) (hq : qs[k]? = some (.int .i64 0))  : RoundRun Try.prog (loopB Try.f26 1) ⟨[4, 9, 52, 53, 54], [2], [(5, 1)]⟩ 4 (un 4 ++ (.lst .tight 0 []) :: (.lst (.tok 4 0) 1 (intsD a)) :: (D.undef) :: (D.undef) :: (D.undef) :: (.slc 2 1 1) :: (un 42 ++ (.lst .no 1 qs) :: (.int .i64 (↑n : Int)) :: (.int .i64 (↑k : Int)) :: (un 13))) [.dead, .dead, .box [.int .i64 0], .dead, .fam 0 1] .norm (un 4 ++ (.lst .tight 0 []) :: (.lst (.tok 4 0) 1 (intsD a ++ [.int .i64 0])) :: (D.undef) :: (D.undef) :: (D.undef) :: (.slc 2 1 1) :: (un 42 ++ (.lst .no 1 qs) :: (.int .i64 (↑n : Int)) :: (.int .i64 (IntKind.i64.wrap ((↑k : Int) + (1 : Int)))) :: (un 13))) ([.dead, .dead, .box [.int .i64 0], .dead, .fam 0 1]) := by
 exact RoundRun.of_eval mixed [tC (by ((try simp only [sL] at *); (try unfold big at *); omega) : (decide ((↑k : Int) < (↑n : Int))) = true), tT, .get _ _ _ hq, tT, .get ([.int .i64 0]) 0 (.int .i64 0) rfl, .len (List.length (intsD a) + (1 : Nat)) ((2147483648 : Nat)) (by first | decide | omega | (simp; omega))] (by kernel_rfl)
abbrev anT (qs : List D) (a : List Int) (n k : Nat) : List D := (un 4 ++ (.lst .tight 0 []) :: (.lst (.tok 4 0) 1 (intsD a)) :: (.undef) :: (.undef) :: (.undef) :: (.slc 2 1 1) :: (un 42 ++ (.lst .no 1 qs) :: (.int .i64 (n : Int)) :: (.int .i64 (k : Int)) :: (un 13)))
abbrev anU (a : List Int) : List D := (un 4 ++ (.lst .tight 0 []) :: (.lst (.tok 4 0) 1 (intsD a)) :: (un 62))
theorem run_nil_ok (pro : List XS) (l : List (List IrS)) (q a : List Int) (hp : Ret Try.prog 64 [.lst .no 8 (xsL pro), .lst .no 1 (rwL l)] (.tup [.lst .no 10 [], .lst .no 1 (intsD q), .int .i64 0])) (h1 : LoopRun Try.prog 4 (.loop (loopB Try.f26 1)) (anT (intsD q) [] (intsD q).length 0) [.dead, .dead, .box [.int .i64 0], .dead, .fam 0 1] (.exit 2) (anU a) [.dead, .dead, .dead, .dead, .fam 0 1])  : Ret Try.prog 26 ([.lst .no 8 (xsL pro), .lst .no 1 (rwL l)]) (.tup [.lst .tight 0 [], .lst .no 1 (intsD a), .int .i64 0]) := by
 have c0 := @run_id (nat_lit 4) _ ((un 4 ++ (.lst .tight 0 []) :: (.lst (.tok 4 0) 1 []) :: (D.undef) :: (D.undef) :: (D.undef) :: (.slc 2 1 1) :: (un 42 ++ (.lst .no 1 (intsD q)) :: (.int .i64 (↑(List.length (intsD q)) : Int)) :: (.int .i64 0) :: (un 13)))) ([.dead, .dead, .box [.int .i64 0], .dead, .fam 0 1]) _ _ _ h1
 exact (Ret.of_eval (d := .tup [.lst .tight 0 [], .lst (.fresh 1) 1 (intsD a), .int .i64 0]) mixed Try.func26 (by kernel_rfl) ([.ret _ _ _ hp, tF, .inl, tT, .go 64, .inl, .go 64, tF, .go 64, tF, tT, .go 64, tF, tT, .get ([.int .i64 0]) 0 (.int .i64 0) rfl, tF] ++ [.go 64, tF, .head ⟨[4, 9, 52, 53, 54], [2], [(5, 1)]⟩ _ _ _ _ _ _ _ c0]) (by kernel_rfl)).to (by first | (simp [wk, wkL, wkO]; done) | exact ⟨⟨rfl, .inl rfl, trivial, .inr rfl⟩, ⟨rfl, .inl rfl, trivial, .inr rfl⟩, rfl, trivial⟩ | exact ⟨⟨rfl, .inl rfl, rfl, .inl rfl⟩, ⟨rfl, .inl rfl, trivial, .inr rfl⟩, rfl, trivial⟩)
theorem intsD_clean (a : List Int) : ∀ c ∈ intsD a, c.clean = true := by
 intro c hc
 simp only [intsD, List.mem_map] at hc
 obtain ⟨x, _, rfl⟩ := hc
 rfl
theorem intsD_dem (a : List Int) : (intsD a).map D.demote = intsD a := by
 simp only [intsD, List.map_map]
 congr 1
theorem intsD_set (a : List Int) (n : Nat) (v : Int) : (intsD a).set n (.int .i64 v) = intsD (a.set n v) := by
 unfold intsD
 rw [List.map_set]
theorem nxt {k : Nat} (h : k ≤ 100000) : IntKind.i64.wrap ((k : Int) + 1) = ((k + 1 : Nat) : Int) := by rw [w_i64]; omega
theorem rk_rounds (m : Nat) (hm : m ≤ 2000) (ps : List PaS) (hl : ps.length = m) (nb : Nat) (ho : AllPa nb ps) (a : List Int) (ha : a.length = m + 1) (h0 : a[0]? = some 0) : ∀ (j k : Nat), k + j = m →
  Rounds Try.prog (loopB Try.f127 0) 6 (rkT m k) (rxS m (paC ps) (intsD (offM 0 (ps.take k) ++ a.drop (k + 1)))) (.exit 0) rkU (rxS m (paC ps) (intsD (offM 0 ps)))
 | 0, k, hk => by
  have hkm : k = m := by omega
  subst hkm
  have e : offM 0 (ps.take k) ++ a.drop (k + 1) = offM 0 ps := by rw [List.take_of_length_le (by omega), List.drop_eq_nil_of_le (by omega), List.append_nil]
  rw [e]
  have := rk_end (paC ps) (intsD (offM 0 ps)) k k (paC_clean _) (intsD_clean _) hm (by rw [intsD_len, offM_len]; omega) (by rw [paC_len]; omega) (Nat.le_refl _)
  rw [paC_demote, intsD_dem] at this
  exact Rounds.last this (fun h => by cases h)
 | j + 1, k, hk => by
  have hlt : k < ps.length := by omega
  have hlo : (offM 0 (ps.take k)).length = k + 1 := by rw [offM_len, List.length_take]; omega
  have ih := rk_rounds m hm ps hl nb ho a ha h0 j (k + 1) (by omega)
  have hp := ho _ (List.getElem_mem hlt)
  have hsp : ps = ps.take k ++ ps[k] :: ps.drop (k + 1) := by rw [← List.drop_eq_getElem_cons hlt, List.take_append_drop]
  have hA := paC_gets (ps.take k) (ps.drop (k + 1)) ps[k] 8 (by decide)
  rw [← hsp, List.length_take, Nat.min_eq_left (by omega)] at hA
  have hv : (intsD (offM 0 (ps.take k) ++ a.drop (k + 1)))[k * 1]? = some (.int .i64 (totM (ps.take k))) := by
   rw [Nat.mul_one]
   refine intsD_get ?_
   rw [List.getElem?_append_left (by omega), offM_get _ _ _ (by rw [List.length_take]; omega), List.take_take, Nat.min_self, Int.zero_add]
  have hln := xlen_ok ps[k].x.op ps[k].x.w ps[k].x.dst ps[k].x.src ps[k].x.base ps[k].x.disp ps[k].x.imm ps[k].x.cc hp.op
  have hlen : (offM 0 (ps.take k) ++ a.drop (k + 1)).length = m + 1 := by rw [List.length_append, hlo, List.length_drop, ha]; omega
  have := rk_in (paC ps) (intsD (offM 0 (ps.take k) ++ a.drop (k + 1))) m k (paC_clean _) (intsD_clean _) hm (by rw [intsD_len, hlen]) (by rw [paC_len, hl]) (by omega) _ _ ps[k].x hv hA hln
  have t1 := totM_le (ps.take k)
  have t2 := lenP_le ps[k]
  have hw : IntKind.i64.wrap (totM (ps.take k) + lenP ps[k]) = totM (ps.take k) + lenP ps[k] := by
   rw [List.length_take] at t1
   rw [w_i64]
   omega
  rw [paC_demote, nxt (by omega), Int.toNat_natCast, Nat.mul_one, show lenX ps[k].x.op ps[k].x.w ps[k].x.dst ps[k].x.src ps[k].x.base ps[k].x.disp ps[k].x.imm ps[k].x.cc = lenP ps[k] from rfl, hw, intsD_set, intsD_dem] at this
  have e : (offM 0 (ps.take k) ++ a.drop (k + 1)).set (k + 1) (totM (ps.take k) + lenP ps[k]) = offM 0 (ps.take (k + 1)) ++ a.drop (k + 2) := by
   rw [List.set_append_right _ _ (by omega), hlo, Nat.sub_self, List.take_succ_eq_append_getElem hlt, offM_snoc, Int.zero_add, List.append_assoc]
   congr 1
   rw [List.drop_eq_getElem_cons (show k + 1 < a.length by omega)]
   rfl
  rw [e] at this
  exact Rounds.more this ih
theorem rk_loop (m : Nat) (hm : m ≤ 2000) (ps : List PaS) (hl : ps.length = m) (nb : Nat) (ho : AllPa nb ps) (a : List Int) (ha : a.length = m + 1) (h0 : a[0]? = some 0) :
  LoopRun Try.prog 6 (.loop (loopB Try.f127 0)) (rkT m 0) (rxS m (paC ps) (intsD a)) (.exit 0) rkU (rxS m (paC ps) (intsD (offM 0 ps))) := by
 refine LoopRun.of_rounds (Nat.le_refl 6) ?_
 have := rk_rounds m hm ps hl nb ho a ha h0 m 0 (by omega)
 have e : offM 0 (ps.take 0) ++ a.drop (0 + 1) = a := by
  match a, ha, h0 with
  | x :: r, _, h0 =>
   simp only [List.getElem?_cons_zero, Option.some.injEq] at h0
   subst h0
   rfl
 rw [e] at this
 exact this
theorem jr_rounds (m : Nat) (hm : m ≤ 2000) (ps : List PaS) (hl : ps.length = m) (nb : Nat) (ho : AllPa nb ps) (q : List Int) (hq : BegOK q nb m) : ∀ (j k : Nat) (more : Bool), k + j = m → more = moreL (offM 0 ps) q 0 (ps.take k) →
  Rounds Try.prog (loopB Try.f65 1) 6 (jrT (intsD q) more m k) (rxS m (paC (jumpL (offM 0 ps) q 0 (ps.take k) ++ ps.drop k)) (intsD (offM 0 ps))) (.exit 2) (jrU (intsD q) (moreL (offM 0 ps) q 0 ps)) (rxS m (paC (jumpL (offM 0 ps) q 0 ps)) (intsD (offM 0 ps)))
 | 0, k, more, hk, hmo => by
  have hkm : k = m := by omega
  subst hkm
  have e1 : ps.take k = ps := List.take_of_length_le (by omega)
  rw [e1] at hmo
  rw [e1, List.drop_eq_nil_of_le (by omega), List.append_nil, ← hmo]
  have := jr_end (intsD q) (paC (jumpL (offM 0 ps) q 0 ps)) (intsD (offM 0 ps)) k k (paC_clean _) (intsD_clean _) hm (by rw [intsD_len, offM_len]; omega) (by rw [paC_len, jumpL_len]; omega) more (Nat.le_refl _)
  rw [paC_demote, intsD_dem] at this
  exact Rounds.last this (fun h => by cases h)
 | j + 1, k, more, hk, hmo => by
  have hlt : k < ps.length := by omega
  have hp := ho _ (List.getElem_mem hlt)
  have hJl : (jumpL (offM 0 ps) q 0 (ps.take k)).length = k := by rw [jumpL_len, List.length_take]; omega
  have hd : ps.drop k = ps[k] :: ps.drop (k + 1) := List.drop_eq_getElem_cons hlt
  have hlen : (jumpL (offM 0 ps) q 0 (ps.take k) ++ ps[k] :: ps.drop (k + 1)).length = m := by simp only [List.length_append, hJl, List.length_cons, List.length_drop]; omega
  have hmt : moreL (offM 0 ps) q 0 (ps.take (k + 1)) = (more || turnM (offM 0 ps) q k ps[k]) := by
   rw [List.take_succ_eq_append_getElem hlt, moreL_snoc, ← hmo, List.length_take, Nat.min_eq_left (by omega), Nat.zero_add]
  have hJt : jumpL (offM 0 ps) q 0 (ps.take (k + 1)) = jumpL (offM 0 ps) q 0 (ps.take k) ++ [stepJ (offM 0 ps) q k ps[k]] := by
   rw [List.take_succ_eq_append_getElem hlt, jumpL_snoc, List.length_take, Nat.min_eq_left (by omega), Nat.zero_add]
  have ih := jr_rounds m hm ps hl nb ho q hq j (k + 1) (more || turnM (offM 0 ps) q k ps[k]) (by omega) hmt.symm
  rw [hJt, List.append_assoc, List.singleton_append] at ih
  rw [hd]
  obtain ⟨J, hJ⟩ : ∃ J, J = jumpL (offM 0 ps) q 0 (ps.take k) := ⟨_, rfl⟩
  rw [← hJ] at ih hJl hlen ⊢
  have c1 := paC_clean (J ++ ps[k] :: ps.drop (k + 1))
  have c2 := intsD_clean (offM 0 ps)
  have c3 : (intsD (offM 0 ps)).length = m + 1 := by rw [intsD_len, offM_len, hl]
  have c4 : (paC (J ++ ps[k] :: ps.drop (k + 1))).length = m * 10 := by rw [paC_len, hlen]
  have g8 : (paC (J ++ ps[k] :: ps.drop (k + 1)))[k * 10 + 8]? = some (.bool ps[k].j) := by
   have := paC_get J (ps.drop (k + 1)) ps[k] 8 (by decide)
   rw [hJl] at this
   exact this
  cases hj : ps[k].j with
  | false =>
   have ht : turnM (offM 0 ps) q k ps[k] = false := by unfold turnM; rw [hj]; rfl
   have hs : stepJ (offM 0 ps) q k ps[k] = ps[k] := by unfold stepJ; rw [hj]; rfl
   rw [hj] at g8
   have := jr_no (intsD q) _ (intsD (offM 0 ps)) m k c1 c2 hm c3 c4 more (by omega) g8
   rw [paC_demote, intsD_dem, nxt (by omega)] at this
   rw [hs, ht, Bool.or_false] at ih
   exact Rounds.more this ih
  | true =>
   rw [hj] at g8
   obtain ⟨hql, hqm⟩ := hq
   have to0 := hp.to0 hj
   have to1 := hp.to1 hj
   obtain ⟨to, hto⟩ : ∃ to : Nat, ps[k].to = (to : Int) := ⟨ps[k].to.toNat, by omega⟩
   have htl : to < q.length := by omega
   have hqe : q[to]? = some q[to] := List.getElem?_eq_getElem htl
   obtain ⟨b0, b1⟩ := hqm q[to] (List.getElem_mem htl)
   obtain ⟨bg, hbg⟩ : ∃ bg : Nat, q[to] = (bg : Int) := ⟨q[to].toNat, by omega⟩
   have hbm : bg ≤ m := by omega
   have hu : (offM 0 ps)[bg]? = some (totM (ps.take bg)) := by rw [offM_get _ _ _ (by omega), Int.zero_add]
   have hv : (offM 0 ps)[k + 1]? = some (totM (ps.take (k + 1))) := by rw [offM_get _ _ _ (by omega), Int.zero_add]
   have u1 := totM_le (ps.take bg)
   have v1 := totM_le (ps.take (k + 1))
   rw [List.length_take] at u1 v1
   have hway : wayM (offM 0 ps) q k ps[k].to = totM (ps.take bg) - totM (ps.take (k + 1)) := by
    unfold wayM atI
    rw [hto, Int.toNat_natCast, List.getD_eq_getElem?_getD, List.getD_eq_getElem?_getD, List.getD_eq_getElem?_getD, hqe, Option.getD_some, hbg, Int.toNat_natCast, hu, hv]
    rfl
   have hi6 : (paC (J ++ ps[k] :: ps.drop (k + 1))).set (k * 10 + 6) (.int .i64 0) = paC (J ++ ps[k].imm 0 :: ps.drop (k + 1)) := by
    have := paC_imm J (ps.drop (k + 1)) ps[k] 0
    rw [hJl] at this
    exact this
   have g9 : ((paC (J ++ ps[k] :: ps.drop (k + 1))).set (k * 10 + 6) (.int .i64 0))[k * 10 + 9]? = some (.int .i64 (to : Int)) := by
    rw [hi6]
    have := paC_get J (ps.drop (k + 1)) (ps[k].imm 0) 9 (by decide)
    rw [hJl] at this
    rw [this, ← hto]
    rfl
   have g1 : ((paC (J ++ ps[k] :: ps.drop (k + 1))).set (k * 10 + 6) (.int .i64 0))[k * 10 + 1]? = some (.int .i8 ps[k].x.w) := by
    rw [hi6]
    have := paC_get J (ps.drop (k + 1)) (ps[k].imm 0) 1 (by decide)
    rw [hJl] at this
    exact this
   have hqq : (intsD q)[to]? = some (.int .i64 (bg : Int)) := intsD_get (by rw [hqe, hbg])
   have huu : (intsD (offM 0 ps))[bg * 1]? = some (.int .i64 (totM (ps.take bg))) := by rw [Nat.mul_one]; exact intsD_get hu
   have hvv : (intsD (offM 0 ps))[Int.toNat (IntKind.i64.wrap ((k : Int) + 1)) * 1]? = some (.int .i64 (totM (ps.take (k + 1)))) := by rw [nxt (by omega), Int.toNat_natCast, Nat.mul_one]; exact intsD_get hv
   have hw32 : (paC (J ++ ps[k].imm 0 :: ps.drop (k + 1))).set (k * 10 + 1) (.int .i8 32) = paC (J ++ (ps[k].imm 0).w 32 :: ps.drop (k + 1)) := by
    have := paC_w J (ps.drop (k + 1)) (ps[k].imm 0) 32
    rw [hJl] at this
    exact this
   by_cases h8 : ps[k].x.w = 8
   ·by_cases hlo : totM (ps.take bg) - totM (ps.take (k + 1)) < -128
    ·have ht : turnM (offM 0 ps) q k ps[k] = true := by unfold turnM farB; rw [hj, hway]; simp [h8, hlo]
     have hs : stepJ (offM 0 ps) q k ps[k] = (ps[k].imm 0).w 32 := by unfold stepJ; rw [hj, ht]; rfl
     have := jr_lo (intsD q) _ (intsD (offM 0 ps)) m k c1 c2 hm c3 c4 more (by omega) g8 to bg _ _ _ g9 hqq hbm huu hvv (by omega) (by omega) (by omega) (by omega) g1 h8 hlo
     rw [Int.toNat_natCast, Nat.add_zero, hi6, hw32, paC_demote, intsD_dem, nxt (by omega)] at this
     rw [hs, ht, Bool.or_true] at ih
     exact Rounds.more this ih
    ·by_cases hhi : 127 < totM (ps.take bg) - totM (ps.take (k + 1))
     ·have ht : turnM (offM 0 ps) q k ps[k] = true := by unfold turnM farB; rw [hj, hway]; simp [h8, hhi]
      have hs : stepJ (offM 0 ps) q k ps[k] = (ps[k].imm 0).w 32 := by unfold stepJ; rw [hj, ht]; rfl
      have := jr_hi (intsD q) _ (intsD (offM 0 ps)) m k c1 c2 hm c3 c4 more (by omega) g8 to bg _ _ _ g9 hqq hbm huu hvv (by omega) (by omega) (by omega) (by omega) g1 h8 hhi
      rw [Int.toNat_natCast, Nat.add_zero, hi6, hw32, paC_demote, intsD_dem, nxt (by omega)] at this
      rw [hs, ht, Bool.or_true] at ih
      exact Rounds.more this ih
     ·have ht : turnM (offM 0 ps) q k ps[k] = false := by unfold turnM farB; rw [hj, hway]; simp [h8, hlo, hhi]
      have hs : stepJ (offM 0 ps) q k ps[k] = ps[k].imm 0 := by unfold stepJ; rw [hj, ht]; rfl
      have := jr_in (intsD q) _ (intsD (offM 0 ps)) m k c1 c2 hm c3 c4 more (by omega) g8 to bg _ _ _ g9 hqq hbm huu hvv (by omega) (by omega) (by omega) (by omega) g1 h8 (by omega) (by omega)
      rw [Int.toNat_natCast, Nat.add_zero, hi6, paC_demote, intsD_dem, nxt (by omega)] at this
      rw [hs, ht, Bool.or_false] at ih
      exact Rounds.more this ih
   ·have ht : turnM (offM 0 ps) q k ps[k] = false := by unfold turnM; rw [hj]; simp [h8]
    have hs : stepJ (offM 0 ps) q k ps[k] = ps[k].imm 0 := by unfold stepJ; rw [hj, ht]; rfl
    have := jr_w (intsD q) _ (intsD (offM 0 ps)) m k c1 c2 hm c3 c4 more (by omega) g8 to bg _ _ _ g9 hqq hbm huu hvv (by omega) (by omega) (by omega) (by omega) g1 h8
    rw [Int.toNat_natCast, Nat.add_zero, hi6, paC_demote, intsD_dem, nxt (by omega)] at this
    rw [hs, ht, Bool.or_false] at ih
    exact Rounds.more this ih
theorem jr_loop (m : Nat) (hm : m ≤ 2000) (ps : List PaS) (hl : ps.length = m) (nb : Nat) (ho : AllPa nb ps) (q : List Int) (hq : BegOK q nb m) :
  LoopRun Try.prog 6 (.loop (loopB Try.f65 1)) (jrT (intsD q) false m 0) (rxS m (paC ps) (intsD (offM 0 ps))) (.exit 2) (jrU (intsD q) (moreL (offM 0 ps) q 0 ps)) (rxS m (paC (jumpL (offM 0 ps) q 0 ps)) (intsD (offM 0 ps))) :=
 LoopRun.of_rounds (Nat.le_refl 6) (jr_rounds m hm ps hl nb ho q hq m 0 false (by omega) rfl)
theorem ry_rounds (m : Nat) (hm : m ≤ 2000) (nb : Nat) (q : List Int) (hq : BegOK q nb m) : ∀ (n : Nat) (ps : List PaS) (a : List Int), shortN ps < n → ps.length = m → AllPa nb ps → a.length = m + 1 → a[0]? = some 0 →
  Rounds Try.prog (loopB Try.f65 0) 6 (ryT (intsD q)) (rxS m (paC ps) (intsD a)) (.exit 0) (ryU (intsD q)) (rxS m (paC (relaxM q n ps).1) (intsD (relaxM q n ps).2))
 | 0, ps, a, hn, hl, ho, ha, h0 => by omega
 | n + 1, ps, a, hn, hl, ho, ha, h0 => by
  have hk := rk_loop m hm ps hl nb ho a ha h0
  have hj := jr_loop m hm ps hl nb ho q hq
  cases hmo : moreL (offM 0 ps) q 0 ps with
  | false =>
   rw [hmo] at hj
   have := ry_end (intsD q) (paC ps) (intsD a) (paC (jumpL (offM 0 ps) q 0 ps)) (intsD (offM 0 ps)) m hm (paC_clean _) (intsD_clean _) (paC_clean _) (intsD_clean _) (paC_demote _) (intsD_dem _) (intsD_dem _) hk hj
   rw [paC_demote, intsD_dem] at this
   have e : relaxM q (n + 1) ps = (jumpL (offM 0 ps) q 0 ps, offM 0 ps) := by simp only [relaxM, hmo]; rfl
   rw [e]
   exact Rounds.last this (fun h => by cases h)
  | true =>
   rw [hmo] at hj
   have := ry_more (intsD q) (paC ps) (intsD a) (paC (jumpL (offM 0 ps) q 0 ps)) (intsD (offM 0 ps)) m hm (paC_clean _) (intsD_clean _) (paC_clean _) (intsD_clean _) (paC_demote _) (intsD_dem _) (intsD_dem _) hk hj
   rw [paC_demote, intsD_dem] at this
   have hs := short_less (offM 0 ps) q ps 0
   rw [hmo] at hs
   simp only [if_true] at hs
   have e : relaxM q (n + 1) ps = relaxM q n (jumpL (offM 0 ps) q 0 ps) := by simp only [relaxM, hmo]; rfl
   rw [e]
   have h00 : (offM 0 ps)[0]? = some 0 := by rw [offM_get _ _ _ (by omega)]; simp [totM]
   exact Rounds.more this (ry_rounds m hm nb q hq n (jumpL (offM 0 ps) q 0 ps) (offM 0 ps) (by omega) (by rw [jumpL_len]; exact hl) (AllPa.jumpL _ _ _ ho) (by rw [offM_len, hl]) h00)
theorem fr_rounds (m : Nat) (hm : m ≤ 2000) (ps : List PaS) (hl : ps.length = m) (nb : Nat) (ho : AllPa nb ps) (q : List Int) (hq : BegOK q nb m) (p0 : List PaS) (h0 : p0.length = m) : ∀ (j k : Nat), k + j = m →
  Rounds Try.prog (loopB Try.f65 2) 6 (frT (intsD q) m k) (rxS m (paC (wayL (offM 0 p0) q 0 (ps.take k) ++ ps.drop k)) (intsD (offM 0 p0))) (.exit 4) frU (rxS m (paC (wayL (offM 0 p0) q 0 ps)) (intsD (offM 0 p0)))
 | 0, k, hk => by
  have hkm : k = m := by omega
  subst hkm
  rw [List.take_of_length_le (by omega), List.drop_eq_nil_of_le (by omega), List.append_nil]
  have := fr_end (intsD q) (paC (wayL (offM 0 p0) q 0 ps)) (intsD (offM 0 p0)) k k (paC_clean _) (intsD_clean _) hm (by rw [intsD_len, offM_len]; omega) (by rw [paC_len, wayL_len]; omega) (Nat.le_refl _)
  rw [paC_demote, intsD_dem] at this
  exact Rounds.last this (fun h => by cases h)
 | j + 1, k, hk => by
  have hlt : k < ps.length := by omega
  have hp := ho _ (List.getElem_mem hlt)
  have hJl : (wayL (offM 0 p0) q 0 (ps.take k)).length = k := by rw [wayL_len, List.length_take]; omega
  have hd : ps.drop k = ps[k] :: ps.drop (k + 1) := List.drop_eq_getElem_cons hlt
  have hlen : (wayL (offM 0 p0) q 0 (ps.take k) ++ ps[k] :: ps.drop (k + 1)).length = m := by simp only [List.length_append, hJl, List.length_cons, List.length_drop]; omega
  have hJt : wayL (offM 0 p0) q 0 (ps.take (k + 1)) = wayL (offM 0 p0) q 0 (ps.take k) ++ [stepW (offM 0 p0) q k ps[k]] := by
   rw [List.take_succ_eq_append_getElem hlt, wayL_snoc, List.length_take, Nat.min_eq_left (by omega), Nat.zero_add]
  have ih := fr_rounds m hm ps hl nb ho q hq p0 h0 j (k + 1) (by omega)
  rw [hJt, List.append_assoc, List.singleton_append] at ih
  rw [hd]
  obtain ⟨J, hJ⟩ : ∃ J, J = wayL (offM 0 p0) q 0 (ps.take k) := ⟨_, rfl⟩
  rw [← hJ] at ih hJl hlen ⊢
  have c1 := paC_clean (J ++ ps[k] :: ps.drop (k + 1))
  have c2 := intsD_clean (offM 0 p0)
  have c3 : (intsD (offM 0 p0)).length = m + 1 := by rw [intsD_len, offM_len, h0]
  have c4 : (paC (J ++ ps[k] :: ps.drop (k + 1))).length = m * 10 := by rw [paC_len, hlen]
  have g8 : (paC (J ++ ps[k] :: ps.drop (k + 1)))[k * 10 + 8]? = some (.bool ps[k].j) := by
   have := paC_get J (ps.drop (k + 1)) ps[k] 8 (by decide)
   rw [hJl] at this
   exact this
  cases hj : ps[k].j with
  | false =>
   have hs : stepW (offM 0 p0) q k ps[k] = ps[k] := by unfold stepW; rw [hj]; rfl
   rw [hj] at g8
   have := fr_no (intsD q) _ (intsD (offM 0 p0)) m k c1 c2 hm c3 c4 (by omega) g8
   rw [paC_demote, intsD_dem, nxt (by omega)] at this
   rw [hs] at ih
   exact Rounds.more this ih
  | true =>
   rw [hj] at g8
   obtain ⟨hql, hqm⟩ := hq
   have to0 := hp.to0 hj
   have to1 := hp.to1 hj
   obtain ⟨to, hto⟩ : ∃ to : Nat, ps[k].to = (to : Int) := ⟨ps[k].to.toNat, by omega⟩
   have htl : to < q.length := by omega
   have hqe : q[to]? = some q[to] := List.getElem?_eq_getElem htl
   obtain ⟨b0, b1⟩ := hqm q[to] (List.getElem_mem htl)
   obtain ⟨bg, hbg⟩ : ∃ bg : Nat, q[to] = (bg : Int) := ⟨q[to].toNat, by omega⟩
   have hbm : bg ≤ m := by omega
   have hu : (offM 0 p0)[bg]? = some (totM (p0.take bg)) := by rw [offM_get _ _ _ (by omega), Int.zero_add]
   have hv : (offM 0 p0)[k + 1]? = some (totM (p0.take (k + 1))) := by rw [offM_get _ _ _ (by omega), Int.zero_add]
   have u1 := totM_le (p0.take bg)
   have v1 := totM_le (p0.take (k + 1))
   rw [List.length_take] at u1 v1
   have hway : wayM (offM 0 p0) q k ps[k].to = totM (p0.take bg) - totM (p0.take (k + 1)) := by
    unfold wayM atI
    rw [hto, Int.toNat_natCast, List.getD_eq_getElem?_getD, List.getD_eq_getElem?_getD, List.getD_eq_getElem?_getD, hqe, Option.getD_some, hbg, Int.toNat_natCast, hu, hv]
    rfl
   have g9 : (paC (J ++ ps[k] :: ps.drop (k + 1)))[k * 10 + 9]? = some (.int .i64 (to : Int)) := by
    have := paC_get J (ps.drop (k + 1)) ps[k] 9 (by decide)
    rw [hJl] at this
    rw [this, ← hto]
    rfl
   have hqq : (intsD q)[to]? = some (.int .i64 (bg : Int)) := intsD_get (by rw [hqe, hbg])
   have huu : (intsD (offM 0 p0))[bg * 1]? = some (.int .i64 (totM (p0.take bg))) := by rw [Nat.mul_one]; exact intsD_get hu
   have hvv : (intsD (offM 0 p0))[Int.toNat (IntKind.i64.wrap ((k : Int) + 1)) * 1]? = some (.int .i64 (totM (p0.take (k + 1)))) := by rw [nxt (by omega), Int.toNat_natCast, Nat.mul_one]; exact intsD_get hv
   have hs : stepW (offM 0 p0) q k ps[k] = ps[k].imm (totM (p0.take bg) - totM (p0.take (k + 1))) := by unfold stepW; rw [hj, hway]; rfl
   have := fr_y (intsD q) _ (intsD (offM 0 p0)) m k c1 c2 hm c3 c4 (by omega) g8 to bg _ _ 0 g9 hqq hbm huu hvv (by omega) (by omega) (by omega) (by omega)
   have hwr : IntKind.i64.wrap (totM (p0.take bg) - totM (p0.take (k + 1))) = totM (p0.take bg) - totM (p0.take (k + 1)) := by rw [w_i64]; omega
   have hi6 : (paC (J ++ ps[k] :: ps.drop (k + 1))).set (k * 10 + 6) (.int .i64 (totM (p0.take bg) - totM (p0.take (k + 1)))) = paC (J ++ ps[k].imm (totM (p0.take bg) - totM (p0.take (k + 1))) :: ps.drop (k + 1)) := by
    have := paC_imm J (ps.drop (k + 1)) ps[k] (totM (p0.take bg) - totM (p0.take (k + 1)))
    rw [hJl] at this
    exact this
   rw [Int.toNat_natCast, Nat.add_zero, hwr, hi6, paC_demote, intsD_dem, nxt (by omega)] at this
   rw [hs] at ih
   exact Rounds.more this ih
theorem relax_any (ps : List PaS) (hm : ps.length ≤ 2000) (nb : Nat) (ho : AllPa nb ps) (q : List Int) (hq : BegOK q nb ps.length) :
  CallRun Try.prog 65 [.slc 1 10 ps.length, .lst (.tok 2 0) 1 (intsD q)] [.dead, .box (paC ps), .fam 0 1] (.slc 4 1 (ps.length + 1)) [.dead, .box (paC (finM q ps)), .dead, .dead, .box (intsD (offF q ps)), .dead] := by
 have hM : Int.toNat (IntKind.i64.wrap ((ps.length : Int) + 1)) = ps.length + 1 := by rw [nxt (by omega), Int.toNat_natCast]
 have hrep : ∀ n : Nat, List.replicate n (D.int .i64 0) = intsD (List.replicate n 0) := fun n => by simp [intsD]
 have h1 := LoopRun.of_rounds (Nat.le_refl 6) (ry_rounds ps.length hm nb q hq (shortN ps + 1) ps (List.replicate (ps.length + 1) 0) (by omega) rfl ho (by simp) (by simp [List.replicate_succ]))
 obtain ⟨p0, e0, e1⟩ := relaxM_off q (shortN ps + 1) ps
 have h2 := LoopRun.of_rounds (Nat.le_refl 6) (fr_rounds ps.length hm (relaxM q (shortN ps + 1) ps).1 (relaxM_len ..) nb (relaxM_all q _ ps ho) q hq p0 e0 ps.length 0 (by omega))
 have h3 := relax_ok (intsD q) (paC ps) (paC (relaxM q (shortN ps + 1) ps).1) (paC (finM q ps)) (intsD (relaxM q (shortN ps + 1) ps).2) (intsD (offF q ps)) ps.length hm (by rw [nxt (by omega)]; simp; omega) (paC_clean _) (paC_clean _) (intsD_clean _)
 rw [hM, hrep, intsD_dem, paC_demote, paC_demote, intsD_dem] at h3
 refine h3 h1 ?_
 rw [← e1] at h2
 exact h2
end Go.Proofs.Ytcngafhpodeenaa
