/- Contracts and plain laws that a statement's proof leans on (texts merged: LB7A, LB7C, MdLd, LB12, XLW, XL1, LM4, LM4A, LM5, MdLe, LM6, MdLf, LJF, LS0, LS1, LS2, LS2A). -/
import Derived.Test.YtcngafhpodeenaaS04
import Derived.Test.YtcngafhpodeenaaS09
import Derived.Test.YtcngafhpodeenaaS11
import Derived.Test.YtcngafhpodeenaaS12
import Derived.Test.YtcngafhpodeenaaS13
set_option linter.unusedVariables false
set_option linter.unusedSimpArgs false
namespace Go.Proofs.Ytcngafhpodeenaa
open Go Go.Ev
set_option maxRecDepth 100000
theorem intsD_clean (a : List Int) : ∀ c ∈ intsD a, c.clean = true := by
 intro c hc
 simp only [intsD, List.mem_map] at hc
 obtain ⟨x, _, rfl⟩ := hc
 rfl
theorem intsD_dem (a : List Int) : (intsD a).map D.demote = intsD a := by
 simp only [intsD, List.map_map]
 congr 1
theorem intsD_set (a : List Int) (n : Nat) (v : Int) : (intsD a).set n (.int .i64 v) = intsD (a.set n v) := by
 unfold intsD
 rw [List.map_set]
theorem nxt {k : Nat} (h : k ≤ 100000) : IntKind.i64.wrap ((k : Int) + 1) = ((k + 1 : Nat) : Int) := by rw [w_i64]; omega
theorem rk_rounds (m : Nat) (hm : m ≤ 2000) (ps : List PaS) (hl : ps.length = m) (nb : Nat) (ho : AllPa nb ps) (a : List Int) (ha : a.length = m + 1) (h0 : a[0]? = some 0) : ∀ (j k : Nat), k + j = m →
  Rounds Try.prog (loopB Try.f127 0) 6 (rkT m k) (rxS m (paC ps) (intsD (offM 0 (ps.take k) ++ a.drop (k + 1)))) (.exit 0) rkU (rxS m (paC ps) (intsD (offM 0 ps)))
 | 0, k, hk => by
  have hkm : k = m := by omega
  subst hkm
  have e : offM 0 (ps.take k) ++ a.drop (k + 1) = offM 0 ps := by rw [List.take_of_length_le (by omega), List.drop_eq_nil_of_le (by omega), List.append_nil]
  rw [e]
  have := rk_end (paC ps) (intsD (offM 0 ps)) k k (paC_clean _) (intsD_clean _) hm (by rw [intsD_len, offM_len]; omega) (by rw [paC_len]; omega) (Nat.le_refl _)
  rw [paC_demote, intsD_dem] at this
  exact Rounds.last this (fun h => by cases h)
 | j + 1, k, hk => by
  have hlt : k < ps.length := by omega
  have hlo : (offM 0 (ps.take k)).length = k + 1 := by rw [offM_len, List.length_take]; omega
  have ih := rk_rounds m hm ps hl nb ho a ha h0 j (k + 1) (by omega)
  have hp := ho _ (List.getElem_mem hlt)
  have hsp : ps = ps.take k ++ ps[k] :: ps.drop (k + 1) := by rw [← List.drop_eq_getElem_cons hlt, List.take_append_drop]
  have hA := paC_gets (ps.take k) (ps.drop (k + 1)) ps[k] 8 (by decide)
  rw [← hsp, List.length_take, Nat.min_eq_left (by omega)] at hA
  have hv : (intsD (offM 0 (ps.take k) ++ a.drop (k + 1)))[k * 1]? = some (.int .i64 (totM (ps.take k))) := by
   rw [Nat.mul_one]
   refine intsD_get ?_
   rw [List.getElem?_append_left (by omega), offM_get _ _ _ (by rw [List.length_take]; omega), List.take_take, Nat.min_self, Int.zero_add]
  have hln := xlen_ok ps[k].x.op ps[k].x.w ps[k].x.dst ps[k].x.src ps[k].x.base ps[k].x.disp ps[k].x.imm ps[k].x.cc hp.op
  have hlen : (offM 0 (ps.take k) ++ a.drop (k + 1)).length = m + 1 := by rw [List.length_append, hlo, List.length_drop, ha]; omega
  have := rk_in (paC ps) (intsD (offM 0 (ps.take k) ++ a.drop (k + 1))) m k (paC_clean _) (intsD_clean _) hm (by rw [intsD_len, hlen]) (by rw [paC_len, hl]) (by omega) _ _ ps[k].x hv hA hln
  have t1 := totM_le (ps.take k)
  have t2 := lenP_le ps[k]
  have hw : IntKind.i64.wrap (totM (ps.take k) + lenP ps[k]) = totM (ps.take k) + lenP ps[k] := by
   rw [List.length_take] at t1
   rw [w_i64]
   omega
  rw [paC_demote, nxt (by omega), Int.toNat_natCast, Nat.mul_one, show lenX ps[k].x.op ps[k].x.w ps[k].x.dst ps[k].x.src ps[k].x.base ps[k].x.disp ps[k].x.imm ps[k].x.cc = lenP ps[k] from rfl, hw, intsD_set, intsD_dem] at this
  have e : (offM 0 (ps.take k) ++ a.drop (k + 1)).set (k + 1) (totM (ps.take k) + lenP ps[k]) = offM 0 (ps.take (k + 1)) ++ a.drop (k + 2) := by
   rw [List.set_append_right _ _ (by omega), hlo, Nat.sub_self, List.take_succ_eq_append_getElem hlt, offM_snoc, Int.zero_add, List.append_assoc]
   congr 1
   rw [List.drop_eq_getElem_cons (show k + 1 < a.length by omega)]
   rfl
  rw [e] at this
  exact Rounds.more this ih
theorem rk_loop (m : Nat) (hm : m ≤ 2000) (ps : List PaS) (hl : ps.length = m) (nb : Nat) (ho : AllPa nb ps) (a : List Int) (ha : a.length = m + 1) (h0 : a[0]? = some 0) :
  LoopRun Try.prog 6 (.loop (loopB Try.f127 0)) (rkT m 0) (rxS m (paC ps) (intsD a)) (.exit 0) rkU (rxS m (paC ps) (intsD (offM 0 ps))) := by
 refine LoopRun.of_rounds (Nat.le_refl 6) ?_
 have := rk_rounds m hm ps hl nb ho a ha h0 m 0 (by omega)
 have e : offM 0 (ps.take 0) ++ a.drop (0 + 1) = a := by
  match a, ha, h0 with
  | x :: r, _, h0 =>
   simp only [List.getElem?_cons_zero, Option.some.injEq] at h0
   subst h0
   rfl
 rw [e] at this
 exact this
theorem jr_rounds (m : Nat) (hm : m ≤ 2000) (ps : List PaS) (hl : ps.length = m) (nb : Nat) (ho : AllPa nb ps) (q : List Int) (hq : BegOK q nb m) : ∀ (j k : Nat) (more : Bool), k + j = m → more = moreL (offM 0 ps) q 0 (ps.take k) →
  Rounds Try.prog (loopB Try.f65 1) 6 (jrT (intsD q) more m k) (rxS m (paC (jumpL (offM 0 ps) q 0 (ps.take k) ++ ps.drop k)) (intsD (offM 0 ps))) (.exit 2) (jrU (intsD q) (moreL (offM 0 ps) q 0 ps)) (rxS m (paC (jumpL (offM 0 ps) q 0 ps)) (intsD (offM 0 ps)))
 | 0, k, more, hk, hmo => by
  have hkm : k = m := by omega
  subst hkm
  have e1 : ps.take k = ps := List.take_of_length_le (by omega)
  rw [e1] at hmo
  rw [e1, List.drop_eq_nil_of_le (by omega), List.append_nil, ← hmo]
  have := jr_end (intsD q) (paC (jumpL (offM 0 ps) q 0 ps)) (intsD (offM 0 ps)) k k (paC_clean _) (intsD_clean _) hm (by rw [intsD_len, offM_len]; omega) (by rw [paC_len, jumpL_len]; omega) more (Nat.le_refl _)
  rw [paC_demote, intsD_dem] at this
  exact Rounds.last this (fun h => by cases h)
 | j + 1, k, more, hk, hmo => by
  have hlt : k < ps.length := by omega
  have hp := ho _ (List.getElem_mem hlt)
  have hJl : (jumpL (offM 0 ps) q 0 (ps.take k)).length = k := by rw [jumpL_len, List.length_take]; omega
  have hd : ps.drop k = ps[k] :: ps.drop (k + 1) := List.drop_eq_getElem_cons hlt
  have hlen : (jumpL (offM 0 ps) q 0 (ps.take k) ++ ps[k] :: ps.drop (k + 1)).length = m := by simp only [List.length_append, hJl, List.length_cons, List.length_drop]; omega
  have hmt : moreL (offM 0 ps) q 0 (ps.take (k + 1)) = (more || turnM (offM 0 ps) q k ps[k]) := by
   rw [List.take_succ_eq_append_getElem hlt, moreL_snoc, ← hmo, List.length_take, Nat.min_eq_left (by omega), Nat.zero_add]
  have hJt : jumpL (offM 0 ps) q 0 (ps.take (k + 1)) = jumpL (offM 0 ps) q 0 (ps.take k) ++ [stepJ (offM 0 ps) q k ps[k]] := by
   rw [List.take_succ_eq_append_getElem hlt, jumpL_snoc, List.length_take, Nat.min_eq_left (by omega), Nat.zero_add]
  have ih := jr_rounds m hm ps hl nb ho q hq j (k + 1) (more || turnM (offM 0 ps) q k ps[k]) (by omega) hmt.symm
  rw [hJt, List.append_assoc, List.singleton_append] at ih
  rw [hd]
  obtain ⟨J, hJ⟩ : ∃ J, J = jumpL (offM 0 ps) q 0 (ps.take k) := ⟨_, rfl⟩
  rw [← hJ] at ih hJl hlen ⊢
  have c1 := paC_clean (J ++ ps[k] :: ps.drop (k + 1))
  have c2 := intsD_clean (offM 0 ps)
  have c3 : (intsD (offM 0 ps)).length = m + 1 := by rw [intsD_len, offM_len, hl]
  have c4 : (paC (J ++ ps[k] :: ps.drop (k + 1))).length = m * 10 := by rw [paC_len, hlen]
  have g8 : (paC (J ++ ps[k] :: ps.drop (k + 1)))[k * 10 + 8]? = some (.bool ps[k].j) := by
   have := paC_get J (ps.drop (k + 1)) ps[k] 8 (by decide)
   rw [hJl] at this
   exact this
  cases hj : ps[k].j with
  | false =>
   have ht : turnM (offM 0 ps) q k ps[k] = false := by unfold turnM; rw [hj]; rfl
   have hs : stepJ (offM 0 ps) q k ps[k] = ps[k] := by unfold stepJ; rw [hj]; rfl
   rw [hj] at g8
   have := jr_no (intsD q) _ (intsD (offM 0 ps)) m k c1 c2 hm c3 c4 more (by omega) g8
   rw [paC_demote, intsD_dem, nxt (by omega)] at this
   rw [hs, ht, Bool.or_false] at ih
   exact Rounds.more this ih
  | true =>
   rw [hj] at g8
   obtain ⟨hql, hqm⟩ := hq
   have to0 := hp.to0 hj
   have to1 := hp.to1 hj
   obtain ⟨to, hto⟩ : ∃ to : Nat, ps[k].to = (to : Int) := ⟨ps[k].to.toNat, by omega⟩
   have htl : to < q.length := by omega
   have hqe : q[to]? = some q[to] := List.getElem?_eq_getElem htl
   obtain ⟨b0, b1⟩ := hqm q[to] (List.getElem_mem htl)
   obtain ⟨bg, hbg⟩ : ∃ bg : Nat, q[to] = (bg : Int) := ⟨q[to].toNat, by omega⟩
   have hbm : bg ≤ m := by omega
   have hu : (offM 0 ps)[bg]? = some (totM (ps.take bg)) := by rw [offM_get _ _ _ (by omega), Int.zero_add]
   have hv : (offM 0 ps)[k + 1]? = some (totM (ps.take (k + 1))) := by rw [offM_get _ _ _ (by omega), Int.zero_add]
   have u1 := totM_le (ps.take bg)
   have v1 := totM_le (ps.take (k + 1))
   rw [List.length_take] at u1 v1
   have hway : wayM (offM 0 ps) q k ps[k].to = totM (ps.take bg) - totM (ps.take (k + 1)) := by
    unfold wayM atI
    rw [hto, Int.toNat_natCast, List.getD_eq_getElem?_getD, List.getD_eq_getElem?_getD, List.getD_eq_getElem?_getD, hqe, Option.getD_some, hbg, Int.toNat_natCast, hu, hv]
    rfl
   have hi6 : (paC (J ++ ps[k] :: ps.drop (k + 1))).set (k * 10 + 6) (.int .i64 0) = paC (J ++ ps[k].imm 0 :: ps.drop (k + 1)) := by
    have := paC_imm J (ps.drop (k + 1)) ps[k] 0
    rw [hJl] at this
    exact this
   have g9 : ((paC (J ++ ps[k] :: ps.drop (k + 1))).set (k * 10 + 6) (.int .i64 0))[k * 10 + 9]? = some (.int .i64 (to : Int)) := by
    rw [hi6]
    have := paC_get J (ps.drop (k + 1)) (ps[k].imm 0) 9 (by decide)
    rw [hJl] at this
    rw [this, ← hto]
    rfl
   have g1 : ((paC (J ++ ps[k] :: ps.drop (k + 1))).set (k * 10 + 6) (.int .i64 0))[k * 10 + 1]? = some (.int .i8 ps[k].x.w) := by
    rw [hi6]
    have := paC_get J (ps.drop (k + 1)) (ps[k].imm 0) 1 (by decide)
    rw [hJl] at this
    exact this
   have hqq : (intsD q)[to]? = some (.int .i64 (bg : Int)) := intsD_get (by rw [hqe, hbg])
   have huu : (intsD (offM 0 ps))[bg * 1]? = some (.int .i64 (totM (ps.take bg))) := by rw [Nat.mul_one]; exact intsD_get hu
   have hvv : (intsD (offM 0 ps))[Int.toNat (IntKind.i64.wrap ((k : Int) + 1)) * 1]? = some (.int .i64 (totM (ps.take (k + 1)))) := by rw [nxt (by omega), Int.toNat_natCast, Nat.mul_one]; exact intsD_get hv
   have hw32 : (paC (J ++ ps[k].imm 0 :: ps.drop (k + 1))).set (k * 10 + 1) (.int .i8 32) = paC (J ++ (ps[k].imm 0).w 32 :: ps.drop (k + 1)) := by
    have := paC_w J (ps.drop (k + 1)) (ps[k].imm 0) 32
    rw [hJl] at this
    exact this
   by_cases h8 : ps[k].x.w = 8
   ·by_cases hlo : totM (ps.take bg) - totM (ps.take (k + 1)) < -128
    ·have ht : turnM (offM 0 ps) q k ps[k] = true := by unfold turnM farB; rw [hj, hway]; simp [h8, hlo]
     have hs : stepJ (offM 0 ps) q k ps[k] = (ps[k].imm 0).w 32 := by unfold stepJ; rw [hj, ht]; rfl
     have := jr_lo (intsD q) _ (intsD (offM 0 ps)) m k c1 c2 hm c3 c4 more (by omega) g8 to bg _ _ _ g9 hqq hbm huu hvv (by omega) (by omega) (by omega) (by omega) g1 h8 hlo
     rw [Int.toNat_natCast, Nat.add_zero, hi6, hw32, paC_demote, intsD_dem, nxt (by omega)] at this
     rw [hs, ht, Bool.or_true] at ih
     exact Rounds.more this ih
    ·by_cases hhi : 127 < totM (ps.take bg) - totM (ps.take (k + 1))
     ·have ht : turnM (offM 0 ps) q k ps[k] = true := by unfold turnM farB; rw [hj, hway]; simp [h8, hhi]
      have hs : stepJ (offM 0 ps) q k ps[k] = (ps[k].imm 0).w 32 := by unfold stepJ; rw [hj, ht]; rfl
      have := jr_hi (intsD q) _ (intsD (offM 0 ps)) m k c1 c2 hm c3 c4 more (by omega) g8 to bg _ _ _ g9 hqq hbm huu hvv (by omega) (by omega) (by omega) (by omega) g1 h8 hhi
      rw [Int.toNat_natCast, Nat.add_zero, hi6, hw32, paC_demote, intsD_dem, nxt (by omega)] at this
      rw [hs, ht, Bool.or_true] at ih
      exact Rounds.more this ih
     ·have ht : turnM (offM 0 ps) q k ps[k] = false := by unfold turnM farB; rw [hj, hway]; simp [h8, hlo, hhi]
      have hs : stepJ (offM 0 ps) q k ps[k] = ps[k].imm 0 := by unfold stepJ; rw [hj, ht]; rfl
      have := jr_in (intsD q) _ (intsD (offM 0 ps)) m k c1 c2 hm c3 c4 more (by omega) g8 to bg _ _ _ g9 hqq hbm huu hvv (by omega) (by omega) (by omega) (by omega) g1 h8 (by omega) (by omega)
      rw [Int.toNat_natCast, Nat.add_zero, hi6, paC_demote, intsD_dem, nxt (by omega)] at this
      rw [hs, ht, Bool.or_false] at ih
      exact Rounds.more this ih
   ·have ht : turnM (offM 0 ps) q k ps[k] = false := by unfold turnM; rw [hj]; simp [h8]
    have hs : stepJ (offM 0 ps) q k ps[k] = ps[k].imm 0 := by unfold stepJ; rw [hj, ht]; rfl
    have := jr_w (intsD q) _ (intsD (offM 0 ps)) m k c1 c2 hm c3 c4 more (by omega) g8 to bg _ _ _ g9 hqq hbm huu hvv (by omega) (by omega) (by omega) (by omega) g1 h8
    rw [Int.toNat_natCast, Nat.add_zero, hi6, paC_demote, intsD_dem, nxt (by omega)] at this
    rw [hs, ht, Bool.or_false] at ih
    exact Rounds.more this ih
theorem jr_loop (m : Nat) (hm : m ≤ 2000) (ps : List PaS) (hl : ps.length = m) (nb : Nat) (ho : AllPa nb ps) (q : List Int) (hq : BegOK q nb m) :
  LoopRun Try.prog 6 (.loop (loopB Try.f65 1)) (jrT (intsD q) false m 0) (rxS m (paC ps) (intsD (offM 0 ps))) (.exit 2) (jrU (intsD q) (moreL (offM 0 ps) q 0 ps)) (rxS m (paC (jumpL (offM 0 ps) q 0 ps)) (intsD (offM 0 ps))) :=
 LoopRun.of_rounds (Nat.le_refl 6) (jr_rounds m hm ps hl nb ho q hq m 0 false (by omega) rfl)
theorem ry_rounds (m : Nat) (hm : m ≤ 2000) (nb : Nat) (q : List Int) (hq : BegOK q nb m) : ∀ (n : Nat) (ps : List PaS) (a : List Int), shortN ps < n → ps.length = m → AllPa nb ps → a.length = m + 1 → a[0]? = some 0 →
  Rounds Try.prog (loopB Try.f65 0) 6 (ryT (intsD q)) (rxS m (paC ps) (intsD a)) (.exit 0) (ryU (intsD q)) (rxS m (paC (relaxM q n ps).1) (intsD (relaxM q n ps).2))
 | 0, ps, a, hn, hl, ho, ha, h0 => by omega
 | n + 1, ps, a, hn, hl, ho, ha, h0 => by
  have hk := rk_loop m hm ps hl nb ho a ha h0
  have hj := jr_loop m hm ps hl nb ho q hq
  cases hmo : moreL (offM 0 ps) q 0 ps with
  | false =>
   rw [hmo] at hj
   have := ry_end (intsD q) (paC ps) (intsD a) (paC (jumpL (offM 0 ps) q 0 ps)) (intsD (offM 0 ps)) m hm (paC_clean _) (intsD_clean _) (paC_clean _) (intsD_clean _) (paC_demote _) (intsD_dem _) (intsD_dem _) hk hj
   rw [paC_demote, intsD_dem] at this
   have e : relaxM q (n + 1) ps = (jumpL (offM 0 ps) q 0 ps, offM 0 ps) := by simp only [relaxM, hmo]; rfl
   rw [e]
   exact Rounds.last this (fun h => by cases h)
  | true =>
   rw [hmo] at hj
   have := ry_more (intsD q) (paC ps) (intsD a) (paC (jumpL (offM 0 ps) q 0 ps)) (intsD (offM 0 ps)) m hm (paC_clean _) (intsD_clean _) (paC_clean _) (intsD_clean _) (paC_demote _) (intsD_dem _) (intsD_dem _) hk hj
   rw [paC_demote, intsD_dem] at this
   have hs := short_less (offM 0 ps) q ps 0
   rw [hmo] at hs
   simp only [if_true] at hs
   have e : relaxM q (n + 1) ps = relaxM q n (jumpL (offM 0 ps) q 0 ps) := by simp only [relaxM, hmo]; rfl
   rw [e]
   have h00 : (offM 0 ps)[0]? = some 0 := by rw [offM_get _ _ _ (by omega)]; simp [totM]
   exact Rounds.more this (ry_rounds m hm nb q hq n (jumpL (offM 0 ps) q 0 ps) (offM 0 ps) (by omega) (by rw [jumpL_len]; exact hl) (AllPa.jumpL _ _ _ ho) (by rw [offM_len, hl]) h00)
end Go.Proofs.Ytcngafhpodeenaa

namespace Go.Proofs.Ytcngafhpodeenaa
open Go Go.Ev
set_option maxRecDepth 100000
theorem fr_rounds (m : Nat) (hm : m ≤ 2000) (ps : List PaS) (hl : ps.length = m) (nb : Nat) (ho : AllPa nb ps) (q : List Int) (hq : BegOK q nb m) (p0 : List PaS) (h0 : p0.length = m) : ∀ (j k : Nat), k + j = m →
  Rounds Try.prog (loopB Try.f65 2) 6 (frT (intsD q) m k) (rxS m (paC (wayL (offM 0 p0) q 0 (ps.take k) ++ ps.drop k)) (intsD (offM 0 p0))) (.exit 4) frU (rxS m (paC (wayL (offM 0 p0) q 0 ps)) (intsD (offM 0 p0)))
 | 0, k, hk => by
  have hkm : k = m := by omega
  subst hkm
  rw [List.take_of_length_le (by omega), List.drop_eq_nil_of_le (by omega), List.append_nil]
  have := fr_end (intsD q) (paC (wayL (offM 0 p0) q 0 ps)) (intsD (offM 0 p0)) k k (paC_clean _) (intsD_clean _) hm (by rw [intsD_len, offM_len]; omega) (by rw [paC_len, wayL_len]; omega) (Nat.le_refl _)
  rw [paC_demote, intsD_dem] at this
  exact Rounds.last this (fun h => by cases h)
 | j + 1, k, hk => by
  have hlt : k < ps.length := by omega
  have hp := ho _ (List.getElem_mem hlt)
  have hJl : (wayL (offM 0 p0) q 0 (ps.take k)).length = k := by rw [wayL_len, List.length_take]; omega
  have hd : ps.drop k = ps[k] :: ps.drop (k + 1) := List.drop_eq_getElem_cons hlt
  have hlen : (wayL (offM 0 p0) q 0 (ps.take k) ++ ps[k] :: ps.drop (k + 1)).length = m := by simp only [List.length_append, hJl, List.length_cons, List.length_drop]; omega
  have hJt : wayL (offM 0 p0) q 0 (ps.take (k + 1)) = wayL (offM 0 p0) q 0 (ps.take k) ++ [stepW (offM 0 p0) q k ps[k]] := by
   rw [List.take_succ_eq_append_getElem hlt, wayL_snoc, List.length_take, Nat.min_eq_left (by omega), Nat.zero_add]
  have ih := fr_rounds m hm ps hl nb ho q hq p0 h0 j (k + 1) (by omega)
  rw [hJt, List.append_assoc, List.singleton_append] at ih
  rw [hd]
  obtain ⟨J, hJ⟩ : ∃ J, J = wayL (offM 0 p0) q 0 (ps.take k) := ⟨_, rfl⟩
  rw [← hJ] at ih hJl hlen ⊢
  have c1 := paC_clean (J ++ ps[k] :: ps.drop (k + 1))
  have c2 := intsD_clean (offM 0 p0)
  have c3 : (intsD (offM 0 p0)).length = m + 1 := by rw [intsD_len, offM_len, h0]
  have c4 : (paC (J ++ ps[k] :: ps.drop (k + 1))).length = m * 10 := by rw [paC_len, hlen]
  have g8 : (paC (J ++ ps[k] :: ps.drop (k + 1)))[k * 10 + 8]? = some (.bool ps[k].j) := by
   have := paC_get J (ps.drop (k + 1)) ps[k] 8 (by decide)
   rw [hJl] at this
   exact this
  cases hj : ps[k].j with
  | false =>
   have hs : stepW (offM 0 p0) q k ps[k] = ps[k] := by unfold stepW; rw [hj]; rfl
   rw [hj] at g8
   have := fr_no (intsD q) _ (intsD (offM 0 p0)) m k c1 c2 hm c3 c4 (by omega) g8
   rw [paC_demote, intsD_dem, nxt (by omega)] at this
   rw [hs] at ih
   exact Rounds.more this ih
  | true =>
   rw [hj] at g8
   obtain ⟨hql, hqm⟩ := hq
   have to0 := hp.to0 hj
   have to1 := hp.to1 hj
   obtain ⟨to, hto⟩ : ∃ to : Nat, ps[k].to = (to : Int) := ⟨ps[k].to.toNat, by omega⟩
   have htl : to < q.length := by omega
   have hqe : q[to]? = some q[to] := List.getElem?_eq_getElem htl
   obtain ⟨b0, b1⟩ := hqm q[to] (List.getElem_mem htl)
   obtain ⟨bg, hbg⟩ : ∃ bg : Nat, q[to] = (bg : Int) := ⟨q[to].toNat, by omega⟩
   have hbm : bg ≤ m := by omega
   have hu : (offM 0 p0)[bg]? = some (totM (p0.take bg)) := by rw [offM_get _ _ _ (by omega), Int.zero_add]
   have hv : (offM 0 p0)[k + 1]? = some (totM (p0.take (k + 1))) := by rw [offM_get _ _ _ (by omega), Int.zero_add]
   have u1 := totM_le (p0.take bg)
   have v1 := totM_le (p0.take (k + 1))
   rw [List.length_take] at u1 v1
   have hway : wayM (offM 0 p0) q k ps[k].to = totM (p0.take bg) - totM (p0.take (k + 1)) := by
    unfold wayM atI
    rw [hto, Int.toNat_natCast, List.getD_eq_getElem?_getD, List.getD_eq_getElem?_getD, List.getD_eq_getElem?_getD, hqe, Option.getD_some, hbg, Int.toNat_natCast, hu, hv]
    rfl
   have g9 : (paC (J ++ ps[k] :: ps.drop (k + 1)))[k * 10 + 9]? = some (.int .i64 (to : Int)) := by
    have := paC_get J (ps.drop (k + 1)) ps[k] 9 (by decide)
    rw [hJl] at this
    rw [this, ← hto]
    rfl
   have hqq : (intsD q)[to]? = some (.int .i64 (bg : Int)) := intsD_get (by rw [hqe, hbg])
   have huu : (intsD (offM 0 p0))[bg * 1]? = some (.int .i64 (totM (p0.take bg))) := by rw [Nat.mul_one]; exact intsD_get hu
   have hvv : (intsD (offM 0 p0))[Int.toNat (IntKind.i64.wrap ((k : Int) + 1)) * 1]? = some (.int .i64 (totM (p0.take (k + 1)))) := by rw [nxt (by omega), Int.toNat_natCast, Nat.mul_one]; exact intsD_get hv
   have hs : stepW (offM 0 p0) q k ps[k] = ps[k].imm (totM (p0.take bg) - totM (p0.take (k + 1))) := by unfold stepW; rw [hj, hway]; rfl
   have := fr_y (intsD q) _ (intsD (offM 0 p0)) m k c1 c2 hm c3 c4 (by omega) g8 to bg _ _ 0 g9 hqq hbm huu hvv (by omega) (by omega) (by omega) (by omega)
   have hwr : IntKind.i64.wrap (totM (p0.take bg) - totM (p0.take (k + 1))) = totM (p0.take bg) - totM (p0.take (k + 1)) := by rw [w_i64]; omega
   have hi6 : (paC (J ++ ps[k] :: ps.drop (k + 1))).set (k * 10 + 6) (.int .i64 (totM (p0.take bg) - totM (p0.take (k + 1)))) = paC (J ++ ps[k].imm (totM (p0.take bg) - totM (p0.take (k + 1))) :: ps.drop (k + 1)) := by
    have := paC_imm J (ps.drop (k + 1)) ps[k] (totM (p0.take bg) - totM (p0.take (k + 1)))
    rw [hJl] at this
    exact this
   rw [Int.toNat_natCast, Nat.add_zero, hwr, hi6, paC_demote, intsD_dem, nxt (by omega)] at this
   rw [hs] at ih
   exact Rounds.more this ih
theorem relax_any (ps : List PaS) (hm : ps.length ≤ 2000) (nb : Nat) (ho : AllPa nb ps) (q : List Int) (hq : BegOK q nb ps.length) :
  CallRun Try.prog 65 [.slc 1 10 ps.length, .lst (.tok 2 0) 1 (intsD q)] [.dead, .box (paC ps), .fam 0 1] (.slc 4 1 (ps.length + 1)) [.dead, .box (paC (finM q ps)), .dead, .dead, .box (intsD (offF q ps)), .dead] := by
 have hM : Int.toNat (IntKind.i64.wrap ((ps.length : Int) + 1)) = ps.length + 1 := by rw [nxt (by omega), Int.toNat_natCast]
 have hrep : ∀ n : Nat, List.replicate n (D.int .i64 0) = intsD (List.replicate n 0) := fun n => by simp [intsD]
 have h1 := LoopRun.of_rounds (Nat.le_refl 6) (ry_rounds ps.length hm nb q hq (shortN ps + 1) ps (List.replicate (ps.length + 1) 0) (by omega) rfl ho (by simp) (by simp [List.replicate_succ]))
 obtain ⟨p0, e0, e1⟩ := relaxM_off q (shortN ps + 1) ps
 have h2 := LoopRun.of_rounds (Nat.le_refl 6) (fr_rounds ps.length hm (relaxM q (shortN ps + 1) ps).1 (relaxM_len ..) nb (relaxM_all q _ ps ho) q hq p0 e0 ps.length 0 (by omega))
 have h3 := relax_ok (intsD q) (paC ps) (paC (relaxM q (shortN ps + 1) ps).1) (paC (finM q ps)) (intsD (relaxM q (shortN ps + 1) ps).2) (intsD (offF q ps)) ps.length hm (by rw [nxt (by omega)]; simp; omega) (paC_clean _) (paC_clean _) (intsD_clean _)
 rw [hM, hrep, intsD_dem, paC_demote, paC_demote, intsD_dem] at h3
 refine h3 h1 ?_
 rw [← e1] at h2
 exact h2
end Go.Proofs.Ytcngafhpodeenaa

namespace Go.Ev
open Go
structure JxOK (p : PaS) : Prop where
  no : p.j = false → mayXS p.x = true ∧ p.x.op ≠ 28 ∧ p.x.op ≠ 29
  yes : p.j = true → (p.x.op = 28 ∧ p.x.cc = 0 ∨ p.x.op = 29 ∧ ccM p.x.cc = true) ∧ (p.x.w = 8 ∨ p.x.w = 32) ∧ p.x.dst = 0 ∧ p.x.src = 0 ∧ p.x.base = 0 ∧ p.x.disp = 0
def AllJx (l : List PaS) : Prop := ∀ p ∈ l, JxOK p
theorem jump_may {p : PaS} (h : JxOK p) (hj : p.j = true) {v : Int} (v0 : -2147483648 ≤ v) (v1 : v ≤ 2147483647) (hs : p.x.w = 8 → -128 ≤ v ∧ v ≤ 127) : mayXS (p.imm v).x = true := by
 obtain ⟨ho, hw, h1, h2, h3, h4⟩ := h.yes hj
 have e28 : shapeM 28 = 9 := by decide
 have e29 : shapeM 29 = 10 := by decide
 unfold mayXS PaS.imm
 rcases ho with ⟨ho, hc⟩ | ⟨ho, hc⟩
 ·rcases hw with hw | hw
  ·have := hs hw
   simp [mayX, mayS, regM, jumpM, ho, hc, hw, h1, h2, h3, h4, e28]
   omega
  ·simp [mayX, mayS, regM, jumpM, ho, hc, hw, h1, h2, h3, h4, e28]
   omega
 ·rcases hw with hw | hw
  ·have := hs hw
   simp [mayX, mayS, regM, jumpM, ho, hc, hw, h1, h2, h3, h4, e29]
   omega
  ·simp [mayX, mayS, regM, jumpM, ho, hc, hw, h1, h2, h3, h4, e29]
   omega
theorem JxOK.imm {p : PaS} (h : JxOK p) (hj : p.j = true) (v : Int) : JxOK (p.imm v) := ⟨(fun e => by rw [show (p.imm v).j = p.j from rfl, hj] at e; cases e), fun _ => h.yes hj⟩
theorem JxOK.w32 {p : PaS} (h : JxOK p) (hj : p.j = true) : JxOK (p.w 32) := by
 refine ⟨(fun e => by rw [show (p.w 32).j = p.j from rfl, hj] at e; cases e), fun _ => ?_⟩
 obtain ⟨ho, _, h1⟩ := h.yes hj
 exact ⟨ho, .inr rfl, h1⟩
theorem JxOK.stepJ {p : PaS} (h : JxOK p) (a q : List Int) (k : Nat) : JxOK (stepJ a q k p) := by
 unfold Go.Ev.stepJ
 cases hj : p.j
 ·exact h
 ·simp only [if_true]
  split
  ·exact (h.imm hj 0).w32 hj
  ·exact h.imm hj 0
theorem AllJx.jumpL (a q : List Int) : ∀ {l : List PaS} (k : Nat), AllJx l → AllJx (jumpL a q k l)
 | [], k, h => fun p hp => by cases hp
 | x :: r, k, h => by
  intro p hp
  rcases List.mem_cons.1 hp with rfl | hp
  ·exact (h x (List.mem_cons_self ..)).stepJ a q k
  ·exact AllJx.jumpL a q (k + 1) (fun y hy => h y (List.mem_cons_of_mem _ hy)) p hp
theorem relaxM_jx (q : List Int) : ∀ (n : Nat) (ps : List PaS), AllJx ps → AllJx (relaxM q n ps).1
 | 0, ps, h => h
 | n + 1, ps, h => by
  simp only [relaxM]
  split
  ·exact relaxM_jx q n _ (AllJx.jumpL _ _ _ h)
  ·exact AllJx.jumpL _ _ _ h
def reachL (a q : List Int) : Nat → List PaS → Prop
  | _, [] => True
  | k, p :: r => (p.j = true → p.x.w = 8 → farB (wayM a q k p.to) = false) ∧ reachL a q (k + 1) r
theorem reach_jump (a q : List Int) : ∀ (l : List PaS) (k : Nat), moreL a q k l = false → reachL a q k (jumpL a q k l)
 | [], k, h => trivial
 | p :: r, k, h => by
  simp only [moreL, Bool.or_eq_false_iff] at h
  refine ⟨?_, reach_jump a q r (k + 1) h.2⟩
  have ht := h.1
  unfold Go.Ev.stepJ
  cases hj : p.j
  ·simp [hj]
  ·simp only [if_true, ht, Bool.false_eq_true, if_false]
   intro _ hw
   unfold turnM at ht
   rw [hj, Bool.true_and, show p.x.w = 8 from hw] at ht
   show farB (wayM a q k p.to) = false
   simpa using ht
theorem relaxM_reach (q : List Int) : ∀ (n : Nat) (ps : List PaS), shortN ps < n → reachL (relaxM q n ps).2 q 0 (relaxM q n ps).1
 | 0, ps, h => by omega
 | n + 1, ps, h => by
  simp only [relaxM]
  cases hm : moreL (offM 0 ps) q 0 ps
  ·simp only [Bool.false_eq_true, if_false]
   exact reach_jump _ q ps 0 hm
  ·simp only [if_true]
   have hs := short_less (offM 0 ps) q ps 0
   rw [hm] at hs
   simp only [if_true] at hs
   exact relaxM_reach q n _ (by omega)
theorem wayM_rng {p0 : List PaS} {q : List Int} {k : Nat} {to : Int} (hl : p0.length ≤ 2000) : -22000 ≤ wayM (offM 0 p0) q k to ∧ wayM (offM 0 p0) q k to ≤ 22000 := by
 have h : ∀ n : Nat, 0 ≤ atI (offM 0 p0) n ∧ atI (offM 0 p0) n ≤ 22000 := by
  intro n
  unfold atI
  rw [List.getD_eq_getElem?_getD]
  by_cases hn : n ≤ p0.length
  ·rw [offM_get _ _ _ hn]
   have := totM_le (p0.take n)
   rw [List.length_take] at this
   simp only [Option.getD_some]
   omega
  ·rw [List.getElem?_eq_none (by rw [offM_len]; omega)]
   simp
 unfold wayM
 have h1 := h (atI q to.toNat).toNat
 have h2 := h (k + 1)
 omega
theorem wayL_may {p0 : List PaS} {q : List Int} (hl : p0.length ≤ 2000) : ∀ (l : List PaS) (k : Nat), AllJx l → reachL (offM 0 p0) q k l → ∀ p ∈ wayL (offM 0 p0) q k l, mayXS p.x = true
 | [], k, h, hr, p, hp => by cases hp
 | x :: r, k, h, hr, p, hp => by
  rcases List.mem_cons.1 hp with rfl | hp
  ·have hx := h x (List.mem_cons_self ..)
   unfold stepW
   cases hj : x.j
   ·exact (hx.no hj).1
   ·have hw := wayM_rng (p0 := p0) (q := q) (k := k) (to := x.to) hl
    refine jump_may hx hj (by omega) (by omega) ?_
    intro h8
    have := hr.1 hj h8
    unfold farB at this
    simp at this
    omega
  ·exact wayL_may hl r (k + 1) (fun y hy => h y (List.mem_cons_of_mem _ hy)) hr.2 p hp
theorem finM_may {q : List Int} {ps : List PaS} (hl : ps.length ≤ 2000) (h : AllJx ps) : ∀ p ∈ finM q ps, mayXS p.x = true := by
 obtain ⟨p0, h1, h2⟩ := relaxM_off q (shortN ps + 1) ps
 have hr := relaxM_reach q (shortN ps + 1) ps (by omega)
 unfold finM
 rw [h2] at hr ⊢
 exact wayL_may (by omega) _ 0 (relaxM_jx q _ ps h) hr
theorem mayL_facts {s : IrS} {n : Int} (h : mayL s n = true) : (s.kind = 0 ∧ mayXS s.x = true ∧ s.op ≠ 28 ∧ s.op ≠ 29) ∨ (s.kind = 4 ∧ ccM s.cc = true ∧ 0 ≤ s.to ∧ s.to < n) ∨ (s.kind = 5 ∧ 0 ≤ s.to ∧ s.to < n) := by
 unfold mayL at h
 split at h
 ·rename_i hk
  simp only [Bool.and_eq_true, Bool.not_eq_true', decide_eq_false_iff_not, not_or] at h
  exact .inl ⟨hk, h.2.1, h.2.2⟩
 ·split at h
  ·rename_i hk
   simp only [Bool.and_eq_true, decide_eq_true_eq] at h
   obtain ⟨hm, ht⟩ := h
   unfold IrS.may at hm
   rcases hk with hk | hk
   ·rw [hk, mayI_4] at hm
    simp only [Bool.and_eq_true, decide_eq_true_eq] at hm
    exact .inr (.inl ⟨hk, hm.1.1.1, hm.1.2.1, ht⟩)
   ·rw [hk, mayI_5] at hm
    simp only [Bool.and_eq_true, decide_eq_true_eq] at hm
    exact .inr (.inr ⟨hk, hm.1.1.1, ht⟩)
  ·cases h
theorem inP_ok (nb : Nat) {x : XS} (h : mayXS x = true) (h1 : x.op ≠ 28) (h2 : x.op ≠ 29) : PaOK nb (inP x) ∧ JxOK (inP x) := by
 have ho : x.op ≤ 127 := by
  have := may_op h
  simp only [ops32, List.mem_cons, List.not_mem_nil, or_false] at this
  omega
 exact ⟨⟨ho, (fun e => by cases e), (fun e => by cases e)⟩, ⟨fun _ => ⟨h, h1, h2⟩, (fun e => by cases e)⟩⟩
theorem stepP_ok {nb : Nat} {s : IrS} (h : mayL s (nb : Int) = true) (n : Nat) (b : Int) (i : Nat) : ∀ p ∈ stepP n b i s, PaOK nb p ∧ JxOK p := by
 intro p hp
 have jm : ∀ to : Int, 0 ≤ to → to < nb → PaOK nb (jmP to) ∧ JxOK (jmP to) := fun to t0 t1 =>
  ⟨⟨(show (28 : Int) ≤ 127 by decide), fun _ => t0, fun _ => t1⟩, ⟨(fun e => by cases e), fun _ => ⟨.inl ⟨rfl, rfl⟩, .inl rfl, rfl, rfl, rfl, rfl⟩⟩⟩
 unfold stepP at hp
 rcases mayL_facts h with ⟨hk, hm, h1, h2⟩ | ⟨hk, hc, t0, t1⟩ | ⟨hk, t0, t1⟩
 ·rw [if_pos hk, List.mem_singleton] at hp
  subst hp
  exact inP_ok nb hm h1 h2
 ·rw [if_neg (by omega), if_pos hk, List.mem_singleton] at hp
  subst hp
  exact ⟨⟨(show (29 : Int) ≤ 127 by decide), fun _ => t0, fun _ => t1⟩, ⟨(fun e => by cases e), fun _ => ⟨.inr ⟨rfl, hc⟩, .inl rfl, rfl, rfl, rfl, rfl⟩⟩⟩
 ·rw [if_neg (by omega), if_neg (by omega)] at hp
  split at hp
  ·rw [List.mem_singleton] at hp
   subst hp
   exact jm _ t0 t1
  ·cases hp
theorem blkG_ok {nb : Nat} (n : Nat) (b : Int) : ∀ (l : List IrS) (i : Nat), (∀ s ∈ l, mayL s (nb : Int) = true) → ∀ p ∈ blkG n b i l, PaOK nb p ∧ JxOK p
 | [], i, h, p, hp => by cases hp
 | s :: r, i, h, p, hp => by
  rcases List.mem_append.1 hp with q | q
  ·exact stepP_ok (h s (List.mem_cons_self ..)) n b i p q
  ·exact blkG_ok n b r (i + 1) (fun y hy => h y (List.mem_cons_of_mem _ hy)) p q
theorem allP_ok {nb : Nat} : ∀ (l : List (List IrS)) (b : Int), (∀ r ∈ l, ∀ s ∈ r, mayL s (nb : Int) = true) → ∀ p ∈ allP b l, PaOK nb p ∧ JxOK p
 | [], b, h, p, hp => by cases hp
 | r :: l, b, h, p, hp => by
  rcases List.mem_append.1 hp with q | q
  ·exact blkG_ok _ b r 0 (h r (List.mem_cons_self ..)) p q
  ·exact allP_ok l (b + 1) (fun y hy => h y (List.mem_cons_of_mem _ hy)) p q
theorem begP_rng : ∀ (l : List (List IrS)) (k : Nat) (b : Int), ∀ x ∈ begP k b l, 0 ≤ x ∧ x ≤ ((k + (allP b l).length : Nat) : Int)
 | [], k, b, x, hx => by cases hx
 | r :: l, k, b, x, hx => by
  simp only [allP, List.length_append]
  rcases List.mem_cons.1 hx with rfl | hx
  ·omega
  ·have := begP_rng l _ (b + 1) x hx
   omega
end Go.Ev

namespace Go.Proofs.Ytcngafhpodeenaa
open Go Go.Ev
set_option maxRecDepth 100000
theorem intsD_gt {a : List Int} {k : Nat} (h : k < a.length) : (intsD a)[k]? = some (.int .i64 a[k]) := by simp [intsD, h]
theorem cd_rounds (q : List Int) (fs : List PaS) (hm : fs.length ≤ 2000) (hmy : ∀ p ∈ fs, mayXS p.x = true) (av : List Int) : ∀ (j k : Nat), k + j = fs.length →
  Rounds Try.prog (loopB Try.f26 0) 6 (cdT (intsD q) (catM ((fs.take k).map PaS.x)) fs.length k) (ruS (paC fs) (intsD av)) (.exit 0) (cdU (intsD q) (catM (fs.map PaS.x)) fs.length) (ruS (paC fs) (intsD av))
 | 0, k, hk => by
  rw [List.take_of_length_le (by omega)]
  have hc := (catM_len (fs.map PaS.x)).2
  rw [List.length_map] at hc
  have := cd_end (catM (fs.map PaS.x)) (intsD q) (paC fs) (intsD av) fs.length k (paC_clean _) (intsD_clean _) hm (paC_demote _) (intsD_dem _) (by rw [len_bD]; omega) (by omega)
  rw [paC_demote, intsD_dem] at this
  exact Rounds.last this (fun h => by cases h)
 | j + 1, k, hk => by
  have hlt : k < fs.length := by omega
  have ih := cd_rounds q fs hm hmy av j (k + 1) (by omega)
  have hp := hmy _ (List.getElem_mem hlt)
  have hop : fs[k].x.op ≤ 127 := by
   have := may_op hp
   simp only [ops32, List.mem_cons, List.not_mem_nil, or_false] at this
   omega
  have hbt := bytes_any_ok fs[k].x.op fs[k].x.w fs[k].x.dst fs[k].x.src fs[k].x.base fs[k].x.disp fs[k].x.imm fs[k].x.cc hop
  have hp' : mayX fs[k].x.op fs[k].x.w fs[k].x.dst fs[k].x.src fs[k].x.base fs[k].x.disp fs[k].x.imm fs[k].x.cc = true := hp
  simp only [bytesL, bytesE, hp', if_true] at hbt
  have hsp : fs = fs.take k ++ fs[k] :: fs.drop (k + 1) := by rw [← List.drop_eq_getElem_cons hlt, List.take_append_drop]
  have hA := paC_gets (fs.take k) (fs.drop (k + 1)) fs[k] 10 (by decide)
  rw [← hsp, List.length_take, Nat.min_eq_left (by omega)] at hA
  have hc := (catM_len ((fs.take k).map PaS.x)).2
  rw [List.length_map, List.length_take] at hc
  have := cd_in (catM ((fs.take k).map PaS.x)) (intsD q) (paC fs) (intsD av) fs.length k (paC_clean _) (intsD_clean _) hm (paC_demote _) (intsD_dem _) (by rw [len_bD]; omega) hlt fs[k].x fs[k].j fs[k].to (bytesXS fs[k].x) hA (by rw [len_bD]; have := bytes_len fs[k].x; omega) hbt
  rw [paC_demote, intsD_dem, nxt (by omega), ← bD_append, ← catM_snoc] at this
  rw [List.take_succ_eq_append_getElem hlt, List.map_append] at ih
  exact Rounds.more this ih
theorem at_rounds (cs : List D) (q : List Int) (m : Nat) (hm : m ≤ 2000) (nb : Nat) (hq : BegOK q nb m) (hn : q.length ≤ 1000) (av : List Int) (hav : av.length = m + 1) : ∀ (j k : Nat), k + j = q.length →
  Rounds Try.prog (loopB Try.f26 1) 7 (atT cs (intsD q) ((q.take k).map fun b => atI av b.toNat) m (intsD q).length k) (ruA (intsD av)) (.exit 2) (atU cs (q.map fun b => atI av b.toNat)) ruE
 | 0, k, hk => by
  rw [List.take_of_length_le (by omega)]
  exact Rounds.last (at_end cs (intsD q) (intsD av) (q.map fun b => atI av b.toNat) m (intsD q).length k (intsD_clean _) hm (by rw [intsD_len]; exact hn) (intsD_dem _) (by rw [intsD_len, List.length_map]; omega) (by rw [intsD_len]; omega)) (fun h => by cases h)
 | j + 1, k, hk => by
  have hlt : k < q.length := by omega
  have ih := at_rounds cs q m hm nb hq hn av hav j (k + 1) (by omega)
  obtain ⟨b0, b1⟩ := hq.2 q[k] (List.getElem_mem hlt)
  obtain ⟨bg, hbg⟩ : ∃ bg : Nat, q[k] = (bg : Int) := ⟨q[k].toNat, by omega⟩
  have hbl : bg < av.length := by omega
  have := at_in cs (intsD q) (intsD av) ((q.take k).map fun b => atI av b.toNat) m (intsD q).length k (intsD_clean _) hm (by rw [intsD_len]; exact hn) (intsD_dem _) (by rw [intsD_len, List.length_map, List.length_take]; omega) (by rw [intsD_len]; exact hlt) bg av[bg] (by rw [intsD_gt hlt, hbg]) (by omega) (by rw [Nat.mul_one]; exact intsD_gt hbl)
  rw [intsD_dem, nxt (by omega), show intsD ((q.take k).map fun b => atI av b.toNat) ++ [D.int .i64 av[bg]] = intsD ((q.take (k + 1)).map fun b => atI av b.toNat) by
   rw [List.take_succ_eq_append_getElem hlt, List.map_append, intsD_snoc']
   congr 2
   simp only [List.map_cons, List.map_nil, hbg, Int.toNat_natCast]
   unfold atI
   rw [List.getD_eq_getElem?_getD, List.getElem?_eq_getElem hbl]
   rfl] at this
  exact Rounds.more this ih
theorem an_rounds (q : List Int) (hn : q.length ≤ 1000) (h0 : ∀ x ∈ q, x = 0) : ∀ (j k : Nat), k + j = q.length →
  Rounds Try.prog (loopB Try.f26 1) 4 (anT (intsD q) (q.take k) (intsD q).length k) [.dead, .dead, .box [.int .i64 0], .dead, .fam 0 1] (.exit 2) (anU q) [.dead, .dead, .dead, .dead, .fam 0 1]
 | 0, k, hk => by
  rw [List.take_of_length_le (by omega)]
  exact Rounds.last (an_end (intsD q) q (intsD q).length k (by rw [intsD_len]; exact hn) (by rw [intsD_len]; omega) (by rw [intsD_len]; omega)) (fun h => by cases h)
 | j + 1, k, hk => by
  have hlt : k < q.length := by omega
  have ih := an_rounds q hn h0 j (k + 1) (by omega)
  have := an_in (intsD q) (q.take k) (intsD q).length k (by rw [intsD_len]; exact hn) (by rw [intsD_len, List.length_take]; omega) (by rw [intsD_len]; exact hlt) (by rw [intsD_gt hlt, h0 _ (List.getElem_mem hlt)])
  rw [nxt (by omega), show intsD (q.take k) ++ [D.int .i64 0] = intsD (q.take (k + 1)) by
   rw [List.take_succ_eq_append_getElem hlt, ← intsD_snoc', h0 _ (List.getElem_mem hlt)]] at this
  exact Rounds.more this ih
def parF (pro : List XS) (l : List (List IrS)) : List PaS := preP pro l l.length
def begF (pro : List XS) (l : List (List IrS)) : List Int := preQ pro l l.length
def codeF (pro : List XS) (l : List (List IrS)) : List Int := catM ((finM (begF pro l) (parF pro l)).map PaS.x)
def startF (pro : List XS) (l : List (List IrS)) : List Int := (begF pro l).map fun b => atI (offF (begF pro l) (parF pro l)) b.toNat
def totF (pro : List XS) (l : List (List IrS)) : Int := atI (offF (begF pro l) (parF pro l)) (parF pro l).length
structure Good (pro : List XS) (l : List (List IrS)) : Prop where
  l1 : 1 ≤ l.length
  l64 : l.length ≤ 64
  pro : ∀ x ∈ pro, proB x = true
  blk : ∀ r ∈ l, goodB l r
def goodM (pro : List XS) (l : List (List IrS)) : Bool := decide (1 ≤ l.length ∧ l.length ≤ 64) && (pro.all proB && l.all fun r => r.all fun s => mayL s (l.length : Int))
theorem good_iff {pro : List XS} {l : List (List IrS)} : goodM pro l = true ↔ Good pro l := by
 unfold goodM
 simp only [Bool.and_eq_true, decide_eq_true_eq, List.all_eq_true]
 exact ⟨fun h => ⟨h.1.1, h.1.2, h.2.1, h.2.2⟩, fun h => ⟨⟨h.l1, h.l64⟩, h.pro, h.blk⟩⟩
def runD (pro : List XS) (l : List (List IrS)) : D :=
  if goodM pro l = true then
    (if pro.length + sumL l ≤ 2000 ∧ totF pro l ≤ 16384 then .tup [.lst .no 1 (bD (codeF pro l)), .lst .no 1 (intsD (startF pro l)), .int .i64 0]
    else .tup [.lst .tight 0 [], .lst .tight 0 [], .int .i64 3])
  else .tup [.lst .tight 0 [], .lst .tight 0 [], .int .i64 2]
theorem good_all {pro : List XS} {l : List (List IrS)} (hg : Good pro l) : AllPa l.length (parF pro l) ∧ AllJx (parF pro l) := by
 have h : ∀ p ∈ parF pro l, PaOK l.length p ∧ JxOK p := by
  intro p hp
  unfold parF preP at hp
  rw [List.take_of_length_le (Nat.le_refl _)] at hp
  rcases List.mem_append.1 hp with q | q
  ·obtain ⟨x, hx, rfl⟩ := List.mem_map.1 q
   have := hg.pro x hx
   unfold proB at this
   simp only [Bool.and_eq_true, Bool.not_eq_true', decide_eq_false_iff_not, not_or] at this
   exact inP_ok _ this.1 this.2.1 this.2.2
  ·exact allP_ok l 0 hg.blk p q
 exact ⟨fun p hp => (h p hp).1, fun p hp => (h p hp).2⟩
theorem good_beg (pro : List XS) (l : List (List IrS)) : BegOK (begF pro l) l.length (parF pro l).length := by
 unfold begF parF preQ preP
 rw [List.take_of_length_le (Nat.le_refl _)]
 refine ⟨begP_len _ _ _, fun x hx => ?_⟩
 have := begP_rng l pro.length 0 x hx
 rw [List.length_append, List.length_map]
 exact this
theorem parF_len {pro : List XS} {l : List (List IrS)} (hn : pro.length + sumL l ≤ 2000) : (parF pro l).length ≤ 2000 := by
 unfold parF preP
 have := allP_len l 0
 rw [List.take_of_length_le (Nat.le_refl _), List.length_append, List.length_map]
 omega
theorem run_any {pro : List XS} {l : List (List IrS)} (hb : BlkIn pro l) : Ret Try.prog 26 [.lst .no 8 (xsL pro), .lst .no 1 (rwL l)] (runD pro l) := by
 unfold runD
 have hbn := hb.n
 have hbb := hb.b
 by_cases h1 : 1 ≤ l.length
 case neg => rw [if_neg (fun hg => h1 (good_iff.1 hg).l1)]; exact run_err_ok pro l 2 (by decide) (pa_e0_ok pro l (by rw [rwL_len]; omega))
 by_cases h64 : l.length ≤ 64
 case neg => rw [if_neg (fun hg => h64 (good_iff.1 hg).l64)]; exact run_err_ok pro l 2 (by decide) (pa_e1_ok pro l (by rw [rwL_len]; omega))
 have L1 : 1 ≤ ((rwL l).length : Int) := by rw [rwL_len]; omega
 have L2 : ((rwL l).length : Int) ≤ 64 := by rw [rwL_len]; omega
 by_cases hpr : ∀ x ∈ pro, proB x = true
 case neg => rw [if_neg (fun hg => hpr (good_iff.1 hg).pro)]; exact run_err_ok pro l 2 (by decide) (pa_ep_ok pro l L1 L2 (pr_loopE l pro _ hb.px (by omega) hpr))
 have hpl := pr_loop l pro ((xsL pro).length : Int) hb.px (by omega) hpr
 have e0 : ptT l (pro.map inP) [] ((xsL pro).length : Int) 0 = ptT l (preP pro l 0) (preQ pro l 0) (preN pro l 0) ((0 : Nat) : Int) := by
  unfold preP preQ preN
  rw [xsL_len]
  simp [allP, begP, sumL]
 by_cases hgb : ∀ r ∈ l, goodB l r
 case neg =>
  rw [if_neg (fun hg => hgb (good_iff.1 hg).blk)]
  have hl := LoopRun.of_rounds (show 1 ≤ 3 by decide) (pt_roundsE hb hgb l.length 0 (by omega) (by simp))
  rw [← e0] at hl
  exact run_err_ok pro l 2 (by decide) (pa_eb_ok pro l L1 L2 (pro.map inP) [] [] 0 hpl hl)
 have hg : Good pro l := ⟨h1, h64, hpr, hgb⟩
 rw [if_pos (good_iff.2 hg)]
 have hN : preN pro l l.length = ((pro.length + sumL l : Nat) : Int) := by unfold preN; rw [List.take_of_length_le (Nat.le_refl _)]
 have hS := fun hne : parF pro l ≠ [] => (by
  have hl := LoopRun.of_rounds (show 1 ≤ 3 by decide) (pt_roundsS hb hgb hne (l.length - 1) 0 (by omega))
  rw [← e0] at hl
  exact hl : LoopRun Try.prog 1 (.loop (loopB Try.f64 1)) (ptT l (pro.map inP) [] ((xsL pro).length : Int) 0) ptS (.exit 2) (ptV (parF pro l).length (begF pro l) (preN pro l l.length)) (ptB (parF pro l)))
 have hL : LoopRun Try.prog 1 (.loop (loopB Try.f64 1)) (ptT l (pro.map inP) [] ((xsL pro).length : Int) 0) ptS (.exit 2) (ptU (parF pro l) (begF pro l) (preN pro l l.length)) ptS := by
  have hl := LoopRun.of_rounds (show 1 ≤ 3 by decide) (pt_roundsL hb hgb l.length 0 (by omega))
  rw [← e0] at hl
  exact hl
 by_cases hn : pro.length + sumL l ≤ 2000
 case neg => rw [if_neg (fun h => hn h.1)]; exact run_err_ok pro l 3 (by decide) (pa_n3L_ok pro l L1 L2 (pro.map inP) (parF pro l) (begF pro l) (preN pro l l.length) hpl hL (by rw [hN]; omega))
 have hml := parF_len hn
 obtain ⟨hpa, hjx⟩ := good_all hg
 have hbg := good_beg pro l
 by_cases hne : parF pro l = []
 ·have hq0 : ∀ x ∈ begF pro l, x = 0 := by
   intro x hx
   have := hbg.2 x hx
   rw [hne] at this
   simp only [List.length_nil] at this
   omega
  have hoff : offF (begF pro l) (parF pro l) = [0] := by rw [hne]; rfl
  have hst : startF pro l = begF pro l := by
   unfold startF
   rw [hoff]
   have : ∀ x ∈ begF pro l, (fun b : Int => atI [0] b.toNat) x = id x := by
    intro x hx
    rw [hq0 x hx]
    rfl
   rw [List.map_congr_left this, List.map_id]
  have hcode : codeF pro l = [] := by unfold codeF; rw [hne]; rfl
  have htot : totF pro l = 0 := by unfold totF; rw [hoff, hne]; rfl
  rw [if_pos ⟨hn, by rw [htot]; decide⟩, hst, hcode]
  have hp := pa_L_ok pro l L1 L2 (pro.map inP) (parF pro l) (begF pro l) (preN pro l l.length) hpl hL (by rw [hN]; omega)
  rw [hne] at hp
  have hlr := LoopRun.of_rounds (show 4 ≤ 5 by decide) (an_rounds (begF pro l) (by rw [hbg.1]; omega) hq0 (begF pro l).length 0 (by omega))
  exact (run_nil_ok pro l (begF pro l) (begF pro l) hp hlr).to (by exact ⟨⟨rfl, .inr rfl, trivial, .inl rfl⟩, ⟨rfl, .inl rfl, trivial, .inr rfl⟩, rfl, trivial⟩)
 ·have hp := pa_S_ok pro l L1 L2 (pro.map inP) (parF pro l) (begF pro l) (preN pro l l.length) hpl (hS hne) (by rw [hN]; omega)
  have hr := relax_any (parF pro l) hml l.length hpa (begF pro l) hbg
  have hol := offF_len (begF pro l) (parF pro l)
  have hfl := finM_len (begF pro l) (parF pro l)
  have ht : (intsD (offF (begF pro l) (parF pro l)))[(parF pro l).length * 1]? = some (.int .i64 (totF pro l)) := by
   rw [Nat.mul_one, intsD_gt (by omega)]
   unfold totF atI
   rw [List.getD_eq_getElem?_getD, List.getElem?_eq_getElem (by omega)]
   rfl
  by_cases hto : totF pro l ≤ 16384
  ·rw [if_pos ⟨hn, hto⟩]
   have hmy := finM_may hml hjx (q := begF pro l)
   have h0 := LoopRun.of_rounds (show 6 ≤ 7 by decide) (cd_rounds (begF pro l) (finM (begF pro l) (parF pro l)) (by omega) hmy (offF (begF pro l) (parF pro l)) _ 0 (Nat.zero_add _))
   have h1' := LoopRun.of_rounds (show 7 ≤ 8 by decide) (at_rounds (bD (codeF pro l)) (begF pro l) (parF pro l).length hml l.length hbg (by rw [hbg.1]; omega) (offF (begF pro l) (parF pro l)) hol (begF pro l).length 0 (by omega))
   rw [hfl] at h0
   refine run_ok_ok pro l (codeF pro l) (startF pro l) (begF pro l) _ _ _ (parF pro l).length _ hml (paC_clean _) (intsD_clean _) hp hr ht hto ?_ ?_
   ·rw [paC_demote, intsD_dem]; exact h0
   ·rw [intsD_dem]; exact h1'
  ·rw [if_neg (fun h => hto h.2)]
   exact run_long_ok pro l (begF pro l) _ _ _ (parF pro l).length _ hml (paC_clean _) (intsD_clean _) hp hr ht (by omega)
end Go.Proofs.Ytcngafhpodeenaa

namespace Go.Proofs.Ytcngafhpodeenaa
open Go Go.Ev
theorem lw_may_ok : Ret Try.prog 56 [xD 1 32 0 0 0 0 5 0] (.bool true) := (mayX_ok 1 32 0 0 0 0 5 0 (by decide)).cast rfl (by kernel_rfl)
theorem lw_len5_ok : Ret Try.prog 22 [xD 1 32 0 0 0 0 5 0] (.int .i64 5) := (xlen_ok 1 32 0 0 0 0 5 0 (by decide)).cast rfl (by kernel_rfl)
theorem lw_len2_ok : Ret Try.prog 22 [xD 28 8 0 0 0 0 0 0] (.int .i64 2) := (xlen_ok 28 8 0 0 0 0 0 0 (by decide)).cast rfl (by kernel_rfl)
theorem lw_b5_ok : Ret Try.prog 21 [xD 1 32 0 0 0 0 5 0] (.tup [.lst .no 1 [.int .u8 184, .int .u8 5, .int .u8 0, .int .u8 0, .int .u8 0], .int .i64 0]) := (bytes_any_ok 1 32 0 0 0 0 5 0 (by decide)).cast rfl (by kernel_rfl)
theorem lw_b2_ok : Ret Try.prog 21 [xD 28 8 0 0 0 0 (-7) 0] (.tup [.lst .no 1 [.int .u8 235, .int .u8 249], .int .i64 0]) := (bytes_any_ok 28 8 0 0 0 0 (-7) 0 (by decide)).cast rfl (by kernel_rfl)
end Go.Proofs.Ytcngafhpodeenaa

namespace Go.Proofs.Ytcngafhpodeenaa
open Go Go.Ev
set_option maxRecDepth 100000
set_option maxHeartbeats 8000000
theorem lw_ir_ok  : Ret Try.prog 74 ([irD 5 0 0 0 0 0 0 0 0 0 0 0 0]) (.bool true) := by
 exact (Ret.of_eval (d := .bool true) mixed Try.func74 (by kernel_rfl) ([.inl, .inl, tT, tT, tT, tT, tT, tT, tT, tT, tT, .get ([D.fn (Fn.func 164) [] [], D.fn (Fn.func 161) [] [], D.fn (Fn.func 161) [] [], D.fn (Fn.func 168) [] [], D.fn (Fn.func 169) [] [D.ptr false 2 0], D.fn (Fn.func 163) [] [], D.fn (Fn.func 171) [] []]) 5 (D.fn (Fn.func 163) [] []) rfl, tT, .inl, .inl, tT] ++ [tT, tT, tT, tT, tT, tT, tT, tT, tT, .flat _ _ flat_Ir, tT]) (by kernel_rfl)).to (by simp [wk])
theorem blkw_ok  : Ret Try.prog 126 ([.lst .no 13 [irD 0 1 32 0 0 0 0 5 0 0 0 0 0, irD 5 0 0 0 0 0 0 0 0 0 0 0 0], .int .i64 0]) (.lst .no 10 [.agg [.int .i8 1, .int .i8 32, .int .i8 0, .int .i8 0, .int .i8 0, .int .i64 0, .int .i64 5, .int .i8 0, .bool false, .int .i64 0], .agg [.int .i8 28, .int .i8 8, .int .i8 0, .int .i8 0, .int .i8 0, .int .i64 0, .int .i64 0, .int .i8 0, .bool true, .int .i64 0]]) := by
 exact (Ret.of_eval (d := .lst (.fresh 10) 10 [.agg [.int .i8 1, .int .i8 32, .int .i8 0, .int .i8 0, .int .i8 0, .int .i64 0, .int .i64 5, .int .i8 0, .bool false, .int .i64 0], .agg [.int .i8 28, .int .i8 8, .int .i8 0, .int .i8 0, .int .i8 0, .int .i64 0, .int .i64 0, .int .i8 0, .bool true, .int .i64 0]]) mixed Try.func126 (by kernel_rfl) ([.go 64, tT, tT, .get ([(irD 0 1 32 0 0 0 0 5 0 0 0 0 0), (irD 5 0 0 0 0 0 0 0 0 0 0 0 0)]) 0 ((irD 0 1 32 0 0 0 0 5 0 0 0 0 0)) rfl, tT, .len ((1 : Nat)) ((2147483648 : Nat)) (by first | decide | omega | (simp; omega)), tT, tT, .get ([(irD 0 1 32 0 0 0 0 5 0 0 0 0 0), (irD 5 0 0 0 0 0 0 0 0 0 0 0 0)]) 1 ((irD 5 0 0 0 0 0 0 0 0 0 0 0 0)) rfl, tF, tF, tT, tT, tT, tT, tT] ++ [tF, tT, tT, tT, tT, tT, tF, tT, .len ((2 : Nat)) ((2147483648 : Nat)) (by first | decide | omega | (simp; omega)), tF]) (by kernel_rfl)).to (by first | (simp [wk, wkO]; done) | exact ⟨rfl, .inl rfl, trivial, .inr rfl⟩)
theorem wakes24_ok  : Ret Try.prog 25 ([]) (.bool true) := by
 have c0 := @lw_may_ok
 have c1 := @lw_ir_ok
 have c2 := Ret.args (as' := [.lst .tight 13 [(irD 0 1 32 0 0 0 0 5 0 0 0 0 0), (irD 5 0 0 0 0 0 0 0 0 0 0 0 0)], .int .i64 0]) (@blkw_ok) (by simp [wkL, wk, wkO])
 have c3 := @lw_len5_ok
 have c4 := @lw_len2_ok
 have c5 := @lw_b5_ok
 have c6 := @lw_b2_ok
 exact (Ret.of_eval (d := .bool true) mixed Try.func25 (by kernel_rfl) ([.inl, .inl, tT, tT, tT, tF, tF, .go 64, tF, .go 64, tT, tT, .get ([.lst .tight 13 [(irD 0 1 32 0 0 0 0 5 0 0 0 0 0), (irD 5 0 0 0 0 0 0 0 0 0 0 0 0)]]) 0 (.lst .tight 13 [(irD 0 1 32 0 0 0 0 5 0 0 0 0 0), (irD 5 0 0 0 0 0 0 0 0 0 0 0 0)]) rfl, tT, .get ([.lst .tight 13 [(irD 0 1 32 0 0 0 0 5 0 0 0 0 0), (irD 5 0 0 0 0 0 0 0 0 0 0 0 0)]]) 0 (.lst .tight 13 [(irD 0 1 32 0 0 0 0 5 0 0 0 0 0), (irD 5 0 0 0 0 0 0 0 0 0 0 0 0)]) rfl, .go 64] ++ [tT, tT, .get ([(irD 0 1 32 0 0 0 0 5 0 0 0 0 0), (irD 5 0 0 0 0 0 0 0 0 0 0 0 0)]) 0 ((irD 0 1 32 0 0 0 0 5 0 0 0 0 0)) rfl, .inl, tT, .flat _ _ flat_Ir, tT, tT, tT, .ret _ _ _ c0, tT, tT, tT, tT, .inl, tT] ++ [tT, tT, tF, tT, tT, tF, tT, tT, .get ([(irD 0 1 32 0 0 0 0 5 0 0 0 0 0), (irD 5 0 0 0 0 0 0 0 0 0 0 0 0)]) 1 ((irD 5 0 0 0 0 0 0 0 0 0 0 0 0)) rfl, .inl, tF, tF, tT, .ret _ _ _ c1, tT, tT] ++ [tT, tT, tT, tF, tF, .len ((1 : Nat)) ((2147483648 : Nat)) (by first | decide | omega | (simp; omega)), tT, .get ([.lst .tight 13 [(irD 0 1 32 0 0 0 0 5 0 0 0 0 0), (irD 5 0 0 0 0 0 0 0 0 0 0 0 0)]]) 0 (.lst .tight 13 [(irD 0 1 32 0 0 0 0 5 0 0 0 0 0), (irD 5 0 0 0 0 0 0 0 0 0 0 0 0)]) rfl, .ret _ _ _ c2, .inl, .go 64, tT, tT, .get ([.lst .tight 0 [], .lst .no 10 [.agg [.int .i8 1, .int .i8 32, .int .i8 0, .int .i8 0, .int .i8 0, .int .i64 0, .int .i64 5, .int .i8 0, .bool false, .int .i64 0], .agg [.int .i8 28, .int .i8 8, .int .i8 0, .int .i8 0, .int .i8 0, .int .i64 0, .int .i64 0, .int .i8 0, .bool true, .int .i64 0]]]) 0 (.lst .tight 0 []) rfl, .go 1, .len ((0 : Nat)) ((2147483648 : Nat)) (by first | decide | omega | (simp; omega))] ++ [tT, tT, .get ([.lst .tight 0 [], .lst .no 10 [.agg [.int .i8 1, .int .i8 32, .int .i8 0, .int .i8 0, .int .i8 0, .int .i64 0, .int .i64 5, .int .i8 0, .bool false, .int .i64 0], .agg [.int .i8 28, .int .i8 8, .int .i8 0, .int .i8 0, .int .i8 0, .int .i64 0, .int .i64 0, .int .i8 0, .bool true, .int .i64 0]]]) 1 (.lst .no 10 [.agg [.int .i8 1, .int .i8 32, .int .i8 0, .int .i8 0, .int .i8 0, .int .i64 0, .int .i64 5, .int .i8 0, .bool false, .int .i64 0], .agg [.int .i8 28, .int .i8 8, .int .i8 0, .int .i8 0, .int .i8 0, .int .i64 0, .int .i64 0, .int .i8 0, .bool true, .int .i64 0]]) rfl, .go 0, .len ((2 : Nat)) ((2147483648 : Nat)) (by first | decide | omega | (simp; omega)), tF, tF, tF, tF, .inl, tT, .go 64, .inl, .go 64, tT, tT] ++ [.get ([.int .i64 0, .int .i64 0, .int .i64 0]) 0 (.int .i64 0) rfl, tT, .getA ([.int .i8 1, .int .i8 32, .int .i8 0, .int .i8 0, .int .i8 0, .int .i64 0, .int .i64 5, .int .i8 0, .bool false, .int .i64 0, .int .i8 28, .int .i8 8, .int .i8 0, .int .i8 0, .int .i8 0, .int .i64 0, .int .i64 0, .int .i8 0, .bool true, .int .i64 0]) 0 8 ([.int .i8 1, .int .i8 32, .int .i8 0, .int .i8 0, .int .i8 0, .int .i64 0, .int .i64 5, .int .i8 0]) ⟨rfl, by first | decide | simp⟩, .ret _ _ _ c3, tT, .putA ([.int .i64 0, .int .i64 0, .int .i64 0]) 1 ([.int .i64 5]) ([.int .i64 0, .int .i64 5, .int .i64 0]) ⟨rfl, by first | decide | simp⟩, tT, tT, .get ([.int .i64 0, .int .i64 5, .int .i64 0]) 1 (.int .i64 5) rfl, tT, .getA ([.int .i8 1, .int .i8 32, .int .i8 0, .int .i8 0, .int .i8 0, .int .i64 0, .int .i64 5, .int .i8 0, .bool false, .int .i64 0, .int .i8 28, .int .i8 8, .int .i8 0, .int .i8 0, .int .i8 0, .int .i64 0, .int .i64 0, .int .i8 0, .bool true, .int .i64 0]) 10 8 ([.int .i8 28, .int .i8 8, .int .i8 0, .int .i8 0, .int .i8 0, .int .i64 0, .int .i64 0, .int .i8 0]) ⟨rfl, by first | decide | simp⟩, .ret _ _ _ c4, tT, .putA ([.int .i64 0, .int .i64 5, .int .i64 0]) 2 ([.int .i64 7]) ([.int .i64 0, .int .i64 5, .int .i64 7]) ⟨rfl, by first | decide | simp⟩, tF, .go 64] ++ [tT, tT, .get ([.int .i8 1, .int .i8 32, .int .i8 0, .int .i8 0, .int .i8 0, .int .i64 0, .int .i64 5, .int .i8 0, .bool false, .int .i64 0, .int .i8 28, .int .i8 8, .int .i8 0, .int .i8 0, .int .i8 0, .int .i64 0, .int .i64 0, .int .i8 0, .bool true, .int .i64 0]) 8 (.bool false) rfl, tT, tT, tT, .get ([.int .i8 1, .int .i8 32, .int .i8 0, .int .i8 0, .int .i8 0, .int .i64 0, .int .i64 5, .int .i8 0, .bool false, .int .i64 0, .int .i8 28, .int .i8 8, .int .i8 0, .int .i8 0, .int .i8 0, .int .i64 0, .int .i64 0, .int .i8 0, .bool true, .int .i64 0]) 18 (.bool true) rfl, tF, .putA ([.int .i8 1, .int .i8 32, .int .i8 0, .int .i8 0, .int .i8 0, .int .i64 0, .int .i64 5, .int .i8 0, .bool false, .int .i64 0, .int .i8 28, .int .i8 8, .int .i8 0, .int .i8 0, .int .i8 0, .int .i64 0, .int .i64 0, .int .i8 0, .bool true, .int .i64 0]) 16 ([.int .i64 0]) ([.int .i8 1, .int .i8 32, .int .i8 0, .int .i8 0, .int .i8 0, .int .i64 0, .int .i64 5, .int .i8 0, .bool false, .int .i64 0, .int .i8 28, .int .i8 8, .int .i8 0, .int .i8 0, .int .i8 0, .int .i64 0, .int .i64 0, .int .i8 0, .bool true, .int .i64 0]) ⟨rfl, by first | decide | simp⟩, .get ([.int .i8 1, .int .i8 32, .int .i8 0, .int .i8 0, .int .i8 0, .int .i64 0, .int .i64 5, .int .i8 0, .bool false, .int .i64 0, .int .i8 28, .int .i8 8, .int .i8 0, .int .i8 0, .int .i8 0, .int .i64 0, .int .i64 0, .int .i8 0, .bool true, .int .i64 0]) 19 (.int .i64 0) rfl, tT, .get ([.int .i64 0]) 0 (.int .i64 0) rfl, tT, .get ([.int .i64 0, .int .i64 5, .int .i64 7]) 0 (.int .i64 0) rfl, tT, .get ([.int .i64 0, .int .i64 5, .int .i64 7]) 2 (.int .i64 7) rfl] ++ [.get ([.int .i8 1, .int .i8 32, .int .i8 0, .int .i8 0, .int .i8 0, .int .i64 0, .int .i64 5, .int .i8 0, .bool false, .int .i64 0, .int .i8 28, .int .i8 8, .int .i8 0, .int .i8 0, .int .i8 0, .int .i64 0, .int .i64 0, .int .i8 0, .bool true, .int .i64 0]) 11 (.int .i8 8) rfl, tT, tT, tT, tT, tT, tT, tF, tT, tF, tF, tT, .go 64, tT, tT, .get ([.int .i8 1, .int .i8 32, .int .i8 0, .int .i8 0, .int .i8 0, .int .i64 0, .int .i64 5, .int .i8 0, .bool false, .int .i64 0, .int .i8 28, .int .i8 8, .int .i8 0, .int .i8 0, .int .i8 0, .int .i64 0, .int .i64 0, .int .i8 0, .bool true, .int .i64 0]) 8 (.bool false) rfl] ++ [tF, tT, tT, .get ([.int .i8 1, .int .i8 32, .int .i8 0, .int .i8 0, .int .i8 0, .int .i64 0, .int .i64 5, .int .i8 0, .bool false, .int .i64 0, .int .i8 28, .int .i8 8, .int .i8 0, .int .i8 0, .int .i8 0, .int .i64 0, .int .i64 0, .int .i8 0, .bool true, .int .i64 0]) 18 (.bool true) rfl, tT, .get ([.int .i8 1, .int .i8 32, .int .i8 0, .int .i8 0, .int .i8 0, .int .i64 0, .int .i64 5, .int .i8 0, .bool false, .int .i64 0, .int .i8 28, .int .i8 8, .int .i8 0, .int .i8 0, .int .i8 0, .int .i64 0, .int .i64 0, .int .i8 0, .bool true, .int .i64 0]) 19 (.int .i64 0) rfl, tT, .get ([.int .i64 0]) 0 (.int .i64 0) rfl, tT, .get ([.int .i64 0, .int .i64 5, .int .i64 7]) 0 (.int .i64 0) rfl, tT, .get ([.int .i64 0, .int .i64 5, .int .i64 7]) 2 (.int .i64 7) rfl, .putA ([.int .i8 1, .int .i8 32, .int .i8 0, .int .i8 0, .int .i8 0, .int .i64 0, .int .i64 5, .int .i8 0, .bool false, .int .i64 0, .int .i8 28, .int .i8 8, .int .i8 0, .int .i8 0, .int .i8 0, .int .i64 0, .int .i64 0, .int .i8 0, .bool true, .int .i64 0]) 16 ([.int .i64 (-7 : Int)]) ([.int .i8 1, .int .i8 32, .int .i8 0, .int .i8 0, .int .i8 0, .int .i64 0, .int .i64 5, .int .i8 0, .bool false, .int .i64 0, .int .i8 28, .int .i8 8, .int .i8 0, .int .i8 0, .int .i8 0, .int .i64 0, .int .i64 (-7 : Int), .int .i8 0, .bool true, .int .i64 0]) ⟨rfl, by first | decide | simp⟩, tF, tT, .get ([.int .i64 0, .int .i64 5, .int .i64 7]) 2 (.int .i64 7) rfl] ++ [tF, .go 64, tT, tT, .getA ([.int .i8 1, .int .i8 32, .int .i8 0, .int .i8 0, .int .i8 0, .int .i64 0, .int .i64 5, .int .i8 0, .bool false, .int .i64 0, .int .i8 28, .int .i8 8, .int .i8 0, .int .i8 0, .int .i8 0, .int .i64 0, .int .i64 (-7 : Int), .int .i8 0, .bool true, .int .i64 0]) 0 10 ([.int .i8 1, .int .i8 32, .int .i8 0, .int .i8 0, .int .i8 0, .int .i64 0, .int .i64 5, .int .i8 0, .bool false, .int .i64 0]) ⟨rfl, by first | decide | simp⟩, .ret _ _ _ c5, .inl, .go 64, tT, tT, .get ([.lst .tight 0 [], .lst .no 1 [.int .u8 184, .int .u8 5, .int .u8 0, .int .u8 0, .int .u8 0]]) 0 (.lst .tight 0 []) rfl, .len ((0 : Nat)) ((2147483648 : Nat)) (by first | decide | omega | (simp; omega)), tT, tT, .get ([.lst .tight 0 [], .lst .no 1 [.int .u8 184, .int .u8 5, .int .u8 0, .int .u8 0, .int .u8 0]]) 1 (.lst .no 1 [.int .u8 184, .int .u8 5, .int .u8 0, .int .u8 0, .int .u8 0]) rfl, .len ((5 : Nat)) ((2147483648 : Nat)) (by first | decide | omega | (simp; omega))] ++ [tF, tT, tT, .getA ([.int .i8 1, .int .i8 32, .int .i8 0, .int .i8 0, .int .i8 0, .int .i64 0, .int .i64 5, .int .i8 0, .bool false, .int .i64 0, .int .i8 28, .int .i8 8, .int .i8 0, .int .i8 0, .int .i8 0, .int .i64 0, .int .i64 (-7 : Int), .int .i8 0, .bool true, .int .i64 0]) 10 10 ([.int .i8 28, .int .i8 8, .int .i8 0, .int .i8 0, .int .i8 0, .int .i64 0, .int .i64 (-7 : Int), .int .i8 0, .bool true, .int .i64 0]) ⟨rfl, by first | decide | simp⟩, .ret _ _ _ c6, .inl, .go 64, tT, tT, .get ([.lst .no 1 [.int .u8 184, .int .u8 5, .int .u8 0, .int .u8 0, .int .u8 0], .lst .no 1 [.int .u8 235, .int .u8 249]]) 0 (.lst .no 1 [.int .u8 184, .int .u8 5, .int .u8 0, .int .u8 0, .int .u8 0]) rfl, .len ((5 : Nat)) ((2147483648 : Nat)) (by first | decide | omega | (simp; omega)), tT, tT, .get ([.lst .no 1 [.int .u8 184, .int .u8 5, .int .u8 0, .int .u8 0, .int .u8 0], .lst .no 1 [.int .u8 235, .int .u8 249]]) 1 (.lst .no 1 [.int .u8 235, .int .u8 249]) rfl, .len ((7 : Nat)) ((2147483648 : Nat)) (by first | decide | omega | (simp; omega)), tF] ++ [tF, .go 64, tT, tT, .get ([.int .i64 0]) 0 (.int .i64 0) rfl, tT, .get ([.int .i64 0, .int .i64 5, .int .i64 7]) 0 (.int .i64 0) rfl, .len ((1 : Nat)) ((2147483648 : Nat)) (by first | decide | omega | (simp; omega)), tF, tT, tT, tT, tT, tT, tT, tT] ++ [tT, tT, tT, tT, .get ([.int .i64 0]) 0 (.int .i64 0) rfl, tT, tT, tT]) (by kernel_rfl)).to (by simp [wk])
end Go.Proofs.Ytcngafhpodeenaa

namespace Go.Proofs.Ytcngafhpodeenaa
open Go Go.Ev
set_option maxRecDepth 100000
set_option maxHeartbeats 8000000
theorem gr_e1 (l : List (List IrS)) (n i : Int) (i0 : 0 ≤ i) (i1 : i ≤ 1000) (n0 : 0 ≤ n) (n1 : n ≤ 1000000000000000000) (h : ((rwL l).length : Int) ≤ i)  : RoundRun Try.prog (loopB Try.f24 0) ⟨[1, 5], [], []⟩ 0 ((D.undef) :: (.lst .no 1 (rwL l)) :: (D.undef) :: (D.undef) :: (D.undef) :: (.int .i64 n) :: (.int .i64 i) :: (un 26)) [] (Ex.exit (0 : Nat)) ((D.undef) :: (.lst .no 1 (rwL l)) :: (D.undef) :: (D.undef) :: (D.undef) :: (.int .i64 n) :: (un 27)) ([]) := by
 exact RoundRun.of_eval mixed [tC (eT (by ((try simp only [sL] at *); (try unfold big at *); omega) : (decide (i < (↑(List.length (rwL l)) : Int))) = false)), tC (eT (by ((try simp only [sL] at *); (try unfold big at *); omega) : (decide (i < (↑(List.length (rwL l)) : Int))) = false)), tC (by ((try simp only [sL] at *); (try unfold big at *); omega) : (decide (i < (↑(List.length (rwL l)) : Int))) = false), tF] (by kernel_rfl)
theorem gr_e2 (l : List (List IrS)) (n i : Int) (i0 : 0 ≤ i) (i1 : i ≤ 1000) (n0 : 0 ≤ n) (n1 : n ≤ 1000000000000000000) (h : i < ((rwL l).length : Int)) (h2 : 100 < i)  : RoundRun Try.prog (loopB Try.f24 0) ⟨[1, 5], [], []⟩ 0 ((D.undef) :: (.lst .no 1 (rwL l)) :: (D.undef) :: (D.undef) :: (D.undef) :: (.int .i64 n) :: (.int .i64 i) :: (un 26)) [] (Ex.exit (0 : Nat)) ((D.undef) :: (.lst .no 1 (rwL l)) :: (D.undef) :: (D.undef) :: (D.undef) :: (.int .i64 n) :: (un 27)) ([]) := by
 exact RoundRun.of_eval mixed [tC (eT (by ((try simp only [sL] at *); (try unfold big at *); omega) : (decide (i < (↑(List.length (rwL l)) : Int))) = true)), tC (eT (by ((try simp only [sL] at *); (try unfold big at *); omega) : (decide (i < (↑(List.length (rwL l)) : Int))) = true)), tC (by ((try simp only [sL] at *); (try unfold big at *); omega) : (decide (i < (↑(List.length (rwL l)) : Int))) = true), tC (leC 100 (decide_eq_false (by omega : ¬ i < 101)))] (by kernel_rfl)
theorem gr_in (l : List (List IrS)) (n i : Int) (i0 : 0 ≤ i) (i1 : i ≤ 1000) (n0 : 0 ≤ n) (n1 : n ≤ 1000000000000000000) (h : i < ((rwL l).length : Int)) (h2 : i ≤ 100) (r : List IrS) (hx : (rwL l)[Int.toNat i]? = some (.lst .no 13 (irL r)))  : RoundRun Try.prog (loopB Try.f24 0) ⟨[1, 5, 6], [], []⟩ 0 ((D.undef) :: (.lst .no 1 (rwL l)) :: (D.undef) :: (D.undef) :: (D.undef) :: (.int .i64 n) :: (.int .i64 i) :: (un 26)) [] (Ex.norm) ((D.undef) :: (.lst .no 1 (rwL l)) :: (D.undef) :: (D.undef) :: (D.undef) :: (.int .i64 (IntKind.wrap IntKind.i64 (n + (↑(List.length (irL r)) : Int)))) :: (.int .i64 (IntKind.wrap IntKind.i64 (i + (1 : Int)))) :: (un 26)) ([]) := by
 exact RoundRun.of_eval mixed [tC (eT (by ((try simp only [sL] at *); (try unfold big at *); omega) : (decide (i < (↑(List.length (rwL l)) : Int))) = true)), tC (eT (by ((try simp only [sL] at *); (try unfold big at *); omega) : (decide (i < (↑(List.length (rwL l)) : Int))) = true)), tC (by ((try simp only [sL] at *); (try unfold big at *); omega) : (decide (i < (↑(List.length (rwL l)) : Int))) = true), tC (leC 100 (decide_eq_true (Int.lt_add_one_of_le h2))), tC (v := true) (leL 0 (decide_eq_false (Int.not_lt.2 i0))), .get _ _ _ hx] (by kernel_rfl)
end Go.Proofs.Ytcngafhpodeenaa

namespace Go.Proofs.Ytcngafhpodeenaa
open Go Go.Ev
set_option maxRecDepth 100000
abbrev grT (l : List (List IrS)) (n i : Int) : List D := [.undef, .lst .no 1 (rwL l), .undef, .undef, .undef, .int .i64 n, .int .i64 i, .undef, .undef, .undef, .undef, .undef, .undef, .undef, .undef, .undef, .undef, .undef, .undef, .undef, .undef, .undef, .undef, .undef, .undef, .undef, .undef, .undef, .undef, .undef, .undef, .undef, .undef]
abbrev grU (l : List (List IrS)) (n : Int) : List D := [.undef, .lst .no 1 (rwL l), .undef, .undef, .undef, .int .i64 n, .undef, .undef, .undef, .undef, .undef, .undef, .undef, .undef, .undef, .undef, .undef, .undef, .undef, .undef, .undef, .undef, .undef, .undef, .undef, .undef, .undef, .undef, .undef, .undef, .undef, .undef, .undef]
abbrev mvT (a b c : List Int) (n i : Int) : List D := [.undef, .undef, .undef, .undef, .undef, .undef, .lst .no 1 (intsD a), .undef, .lst .no 1 (bD c), .lst .no 1 (intsD b), .undef, .int .i64 n, .int .i64 i, .undef, .undef, .undef, .undef, .undef, .undef, .undef, .undef, .undef, .undef, .undef, .undef, .undef, .undef, .undef, .undef, .undef, .undef, .undef, .undef, .undef, .undef, .undef, .undef, .undef, .undef, .undef, .undef, .undef, .undef, .undef, .undef, .undef, .undef, .undef, .undef, .undef, .undef, .undef, .undef, .undef, .undef, .undef, .undef, .undef, .undef, .undef, .undef, .undef, .undef, .undef, .undef, .undef, .undef, .undef, .undef, .undef, .undef, .undef, .undef, .undef, .undef, .undef, .undef, .undef, .undef, .undef, .undef, .undef, .undef, .undef, .undef, .undef, .undef, .undef, .undef, .undef]
abbrev mvU (c : List Int) (n : Int) : List D := [.undef, .undef, .undef, .undef, .undef, .undef, .undef, .undef, .lst .no 1 (bD c), .undef, .undef, .int .i64 n, .undef, .undef, .undef, .undef, .undef, .undef, .undef, .undef, .undef, .undef, .undef, .undef, .undef, .undef, .undef, .undef, .undef, .undef, .undef, .undef, .undef, .undef, .undef, .undef, .undef, .undef, .undef, .undef, .undef, .undef, .undef, .undef, .undef, .undef, .undef, .undef, .undef, .undef, .undef, .undef, .undef, .undef, .undef, .undef, .undef, .undef, .undef, .undef, .undef, .undef, .undef, .undef, .undef, .undef, .undef, .undef, .undef, .undef, .undef, .undef, .undef, .undef, .undef, .undef, .undef, .undef, .undef, .undef, .undef, .undef, .undef, .undef, .undef, .undef, .undef, .undef, .undef, .undef]
def sumG (pro : List XS) (l : List (List IrS)) : Int := ((pro.length + sumL (l.take 101) : Nat) : Int)
def Sized (pro : List XS) (l : List (List IrS)) : Prop := pro.length ≤ 140737488355328 ∧ ∀ r ∈ l, r.length ≤ 140737488355328
theorem sumL_le {l : List (List IrS)} (h : ∀ r ∈ l, r.length ≤ 140737488355328) : sumL l ≤ l.length * 140737488355328 := by
 induction l with
 | nil => simp [sumL]
 | cons a l ih =>
  have h1 := h a (List.mem_cons_self ..)
  have h2 := ih (fun r hr => h r (List.mem_cons_of_mem _ hr))
  simp only [sumL, List.map_cons, List.sum_cons, List.length_cons] at h2 ⊢
  omega
theorem gr_rounds (pro : List XS) (l : List (List IrS)) (hs : Sized pro l) : ∀ (j k : Nat), k + j = 101 →
  Rounds Try.prog (loopB Try.f24 0) 0 (grT l ((pro.length + sumL (l.take k) : Nat) : Int) k) [] (.exit 0) (grU l (sumG pro l)) []
 | 0, k, hk => by
  have hk' : k = 101 := by omega
  subst hk'
  have hb := sumL_le (l := l.take 101) (fun r hr => hs.2 r (List.mem_of_mem_take hr))
  rw [List.length_take] at hb
  have h1 := hs.1
  by_cases h : l.length ≤ 101
  ·exact Rounds.last (gr_e1 l (sumG pro l) ((101 : Nat) : Int) (by omega) (by omega) (by unfold sumG; omega) (by unfold sumG; omega) (by rw [rwL_len]; omega)) (fun h => by cases h)
  ·exact Rounds.last (gr_e2 l (sumG pro l) ((101 : Nat) : Int) (by omega) (by omega) (by unfold sumG; omega) (by unfold sumG; omega) (by rw [rwL_len]; omega) (by omega)) (fun h => by cases h)
 | j + 1, k, hk => by
  have hb := sumL_le (l := l.take k) (fun r hr => hs.2 r (List.mem_of_mem_take hr))
  rw [List.length_take] at hb
  have h1 := hs.1
  by_cases h : l.length ≤ k
  ·have e : sumG pro l = ((pro.length + sumL (l.take k) : Nat) : Int) := by unfold sumG; rw [List.take_of_length_le (by omega), List.take_of_length_le h]
   rw [e]
   exact Rounds.last (gr_e1 l _ (k : Int) (by omega) (by omega) (by omega) (by omega) (by rw [rwL_len]; omega)) (fun h => by cases h)
  ·have hlt : k < l.length := by omega
   have hr := hs.2 l[k] (List.getElem_mem hlt)
   have := gr_in l ((pro.length + sumL (l.take k) : Nat) : Int) (k : Int) (by omega) (by omega) (by omega) (by omega) (by rw [rwL_len]; omega) (by omega) l[k] (by rw [Int.toNat_natCast]; exact rwL_get l k hlt)
   rw [nxt (by omega), show IntKind.i64.wrap (((pro.length + sumL (l.take k) : Nat) : Int) + ((irL l[k]).length : Int)) = ((pro.length + sumL (l.take (k + 1)) : Nat) : Int) by
    rw [List.take_succ_eq_append_getElem hlt, sumL_snoc, irL_len, w_i64]; omega] at this
   exact Rounds.more this (gr_rounds pro l hs j (k + 1) (by omega))
theorem gr_loop (pro : List XS) (l : List (List IrS)) (hs : Sized pro l) : LoopRun Try.prog 0 (.loop (loopB Try.f24 0)) (grT l ((xsL pro).length : Int) 0) [] (.exit 0) (grU l (sumG pro l)) [] :=
 LoopRun.of_rounds (Nat.le_refl 0) (by have := gr_rounds pro l hs 101 0 (by omega); rw [xsL_len]; simpa [sumL] using this)
end Go.Proofs.Ytcngafhpodeenaa

namespace Go.Proofs.Ytcngafhpodeenaa
open Go Go.Ev
set_option maxRecDepth 100000
set_option maxHeartbeats 8000000
theorem great_ok (pro : List XS) (l : List (List IrS)) (n : Int) (hx : LoopRun Try.prog 0 (.loop (loopB Try.f24 0)) (grT l ((xsL pro).length : Int) 0) [] (.exit 0) (grU l n) [])  : Ret Try.prog 24 ([.lst .no 8 (xsL pro), .lst .no 1 (rwL l)]) (.bool (decide (2500 < n) || decide (100 < ((rwL l).length : Int)))) := by
 have c0 := @run_id (nat_lit 0) _ (((D.undef) :: (.lst .no 1 (rwL l)) :: (D.undef) :: (D.undef) :: (D.undef) :: (.int .i64 (↑(List.length (xsL pro)) : Int)) :: (.int .i64 0) :: (un 26))) ([]) _ _ _ hx
 rcases Bool.eq_false_or_eq_true (decide (n < (2501 : Int))) with h1 | h1
 ·skip
  exact (Ret.of_eval (d := .bool (decide ((↑(List.length (rwL l)) : Int) > (100 : Int)))) mixed Try.func24 (by kernel_rfl) [.head ⟨[1, 5, 6], [], []⟩ _ _ _ _ _ _ _ c0, tC (eF (ltL 2500 h1)), tC (eF (ltL 2500 h1)), tC (eF (ltL 2500 h1)), tC (ltL 2500 h1)] (by kernel_rfl)).to (by first | rfl | (simp [wk]; done) | (simp [wk]; omega) | (simp only [decide_eq_true_eq, decide_eq_false_iff_not] at *; simp [wk, *]; done) | (simp only [decide_eq_true_eq, decide_eq_false_iff_not] at *; simp [wk]; omega))
 ·skip
  exact (Ret.of_eval (d := .bool true) mixed Try.func24 (by kernel_rfl) [.head ⟨[1, 5, 6], [], []⟩ _ _ _ _ _ _ _ c0, tC (eF (ltL 2500 h1)), tC (eF (ltL 2500 h1)), tC (eF (ltL 2500 h1)), tC (ltL 2500 h1)] (by kernel_rfl)).to (by first | rfl | (simp [wk]; done) | (simp [wk]; omega) | (simp only [decide_eq_true_eq, decide_eq_false_iff_not] at *; simp [wk, *]; done) | (simp only [decide_eq_true_eq, decide_eq_false_iff_not] at *; simp [wk]; omega))
end Go.Proofs.Ytcngafhpodeenaa

namespace Go.Ev
open Go
def NoJ (A : List PaS) : Prop := ∀ p ∈ A, p.j = false
theorem listM_cat : ∀ (pro : List XS) (n : Nat), (∀ x ∈ pro, mayXS x = true) → pro.length < n → listM n (catM pro) = some pro
 | [], n, h, hn => by
  match n, hn with
  | n + 1, _ => rfl
 | x :: pro, n, h, hn => by
  match n, hn with
  | n + 1, hn =>
   have hx := h x (List.mem_cons_self ..)
   have hl := bytes_len x
   have hne : catM (x :: pro) ≠ [] := by
    intro e
    have := congrArg List.length e
    rw [catM, List.length_append] at this
    simp only [List.length_nil] at this
    omega
   have hr : readM (catM (x :: pro)) = some x := read_back hx _
   rw [listM_more hne hr, show (catM (x :: pro)).drop (bytesXS x).length = catM pro from List.drop_left, listM_cat pro n (fun y hy => h y (List.mem_cons_of_mem _ hy)) (by simpa using hn)]
   rfl
end Go.Ev

namespace Go.Proofs.Ytcngafhpodeenaa
open Go Go.Ev
set_option maxRecDepth 100000
theorem noJ_pro (pro : List XS) : NoJ (pro.map inP) := by
 intro p hp
 obtain ⟨x, _, rfl⟩ := List.mem_map.1 hp
 rfl
theorem BlkIn.nil {pro : List XS} {l : List (List IrS)} (h : BlkIn pro l) : BlkIn [] l := ⟨h.ok, (fun x hx => by cases hx), (by have := h.n; rw [List.length_nil]; omega), h.b⟩
theorem Good.nil {pro : List XS} {l : List (List IrS)} (h : Good pro l) : Good [] l := ⟨h.l1, h.l64, (fun x hx => by cases hx), h.blk⟩
theorem codeF_len {pro : List XS} {l : List (List IrS)} (hn : pro.length + sumL l ≤ 2000) : (codeF pro l).length ≤ 22000 := by
 unfold codeF
 have h1 := (catM_len ((finM (begF pro l) (parF pro l)).map PaS.x)).2
 have h2 := parF_len hn
 rw [List.length_map, finM_len] at h1
 omega
theorem great_any {pro : List XS} {l : List (List IrS)} (hs : Sized pro l) : Ret Try.prog 24 [.lst .no 8 (xsL pro), .lst .no 1 (rwL l)] (.bool (decide (2500 < sumG pro l) || decide (100 < ((rwL l).length : Int)))) :=
 great_ok pro l (sumG pro l) (gr_loop pro l hs)
theorem not_great {pro : List XS} {l : List (List IrS)} (hx : AllX pro) (ho : ∀ r ∈ l, AllOk r) (h : (decide (2500 < sumG pro l) || decide (100 < ((rwL l).length : Int))) = false) : BlkIn pro l := by
 rw [Bool.or_eq_false_iff, decide_eq_false_iff_not, decide_eq_false_iff_not, rwL_len] at h
 have h2 : l.length ≤ 100 := by omega
 have h1 := h.1
 unfold sumG at h1
 rw [List.take_of_length_le (by omega)] at h1
 exact ⟨ho, hx, by omega, h2⟩
end Go.Proofs.Ytcngafhpodeenaa

namespace Go.Ev
open Go
structure SameP (p r : PaS) : Prop where
  j : r.j = p.j
  to : r.to = p.to
  no : p.j = false → r = p
  yes : p.j = true → r.x.op = p.x.op ∧ r.x.cc = p.x.cc ∧ r.x.dst = p.x.dst ∧ r.x.src = p.x.src ∧ r.x.base = p.x.base ∧ r.x.disp = p.x.disp
theorem SameP.rfl' (p : PaS) : SameP p p := ⟨rfl, rfl, fun _ => rfl, fun _ => ⟨rfl, rfl, rfl, rfl, rfl, rfl⟩⟩
theorem SameP.trans {p r s : PaS} (h : SameP p r) (k : SameP r s) : SameP p s := by
 refine ⟨k.j.trans h.j, k.to.trans h.to, fun e => ?_, fun e => ?_⟩
 ·have := h.no e
  subst this
  exact k.no e
 ·obtain ⟨a1, a2, a3, a4, a5, a6⟩ := h.yes e
  obtain ⟨b1, b2, b3, b4, b5, b6⟩ := k.yes (h.j.trans e)
  exact ⟨b1.trans a1, b2.trans a2, b3.trans a3, b4.trans a4, b5.trans a5, b6.trans a6⟩
theorem SameP.stepJ (a q : List Int) (k : Nat) (p : PaS) : SameP p (stepJ a q k p) := by
 unfold Go.Ev.stepJ
 cases hj : p.j
 ·exact SameP.rfl' p
 ·simp only [if_true]
  split
  ·exact ⟨rfl, rfl, (fun e => by rw [hj] at e; cases e), fun _ => ⟨rfl, rfl, rfl, rfl, rfl, rfl⟩⟩
  ·exact ⟨rfl, rfl, (fun e => by rw [hj] at e; cases e), fun _ => ⟨rfl, rfl, rfl, rfl, rfl, rfl⟩⟩
theorem SameP.stepW (a q : List Int) (k : Nat) (p : PaS) : SameP p (stepW a q k p) := by
 unfold Go.Ev.stepW
 cases hj : p.j
 ·exact SameP.rfl' p
 ·exact ⟨rfl, rfl, (fun e => by rw [hj] at e; cases e), fun _ => ⟨rfl, rfl, rfl, rfl, rfl, rfl⟩⟩
def SameL (l m : List PaS) : Prop := l.length = m.length ∧ ∀ (k : Nat) (p r : PaS), l[k]? = some p → m[k]? = some r → SameP p r
theorem jumpL_get (a q : List Int) : ∀ (l : List PaS) (k i : Nat), (jumpL a q k l)[i]? = (l[i]?).map (stepJ a q (k + i))
 | [], k, i => by simp [jumpL]
 | p :: r, k, 0 => by simp [jumpL]
 | p :: r, k, i + 1 => by
  simp only [jumpL, List.getElem?_cons_succ]
  rw [jumpL_get a q r (k + 1) i, show k + 1 + i = k + (i + 1) by omega]
theorem wayL_get (a q : List Int) : ∀ (l : List PaS) (k i : Nat), (wayL a q k l)[i]? = (l[i]?).map (stepW a q (k + i))
 | [], k, i => by simp [wayL]
 | p :: r, k, 0 => by simp [wayL]
 | p :: r, k, i + 1 => by
  simp only [wayL, List.getElem?_cons_succ]
  rw [wayL_get a q r (k + 1) i, show k + 1 + i = k + (i + 1) by omega]
theorem moreL_get (a q : List Int) : ∀ (l : List PaS) (k i : Nat) (p : PaS), moreL a q k l = false → l[i]? = some p → turnM a q (k + i) p = false
 | [], k, i, p, h, hp => by simp at hp
 | x :: r, k, 0, p, h, hp => by
  simp only [List.getElem?_cons_zero, Option.some.injEq] at hp
  subst hp
  simp only [moreL, Bool.or_eq_false_iff] at h
  exact h.1
 | x :: r, k, i + 1, p, h, hp => by
  simp only [List.getElem?_cons_succ] at hp
  simp only [moreL, Bool.or_eq_false_iff] at h
  have := moreL_get a q r (k + 1) i p h.2 hp
  rw [show k + (i + 1) = k + 1 + i by omega]
  exact this
def ImmZ (l : List PaS) : Prop := ∀ p ∈ l, p.j = true → p.x.imm = 0
theorem jumpL_immz (a q : List Int) : ∀ (l : List PaS) (k : Nat), ImmZ (jumpL a q k l)
 | [], k, p, h, _ => by cases h
 | x :: r, k, p, h, hj => by
  rcases List.mem_cons.1 h with rfl | h
  ·unfold stepJ at hj ⊢
   cases hx : x.j
   ·rw [hx] at hj
    simp only [Bool.false_eq_true, if_false] at hj
    rw [hx] at hj
    cases hj
   ·simp only [if_true]
    split <;> rfl
  ·exact jumpL_immz a q r (k + 1) p h hj
theorem relaxM_last (q : List Int) : ∀ (n : Nat) (ps : List PaS), shortN ps < n → AllJx ps → ImmZ ps →
  ∃ p0 : List PaS, relaxM q n ps = (jumpL (offM 0 p0) q 0 p0, offM 0 p0) ∧ moreL (offM 0 p0) q 0 p0 = false ∧ AllJx p0 ∧ ImmZ p0 ∧ SameL ps p0
 | 0, ps, h, _, _ => by omega
 | n + 1, ps, h, hj, hi => by
  simp only [relaxM]
  cases hm : moreL (offM 0 ps) q 0 ps
  ·simp only [Bool.false_eq_true, if_false]
   refine ⟨ps, rfl, hm, hj, hi, rfl, fun k p r h1 h2 => ?_⟩
   rw [h1] at h2
   cases h2
   exact SameP.rfl' p
  ·simp only [if_true]
   have hs := short_less (offM 0 ps) q ps 0
   rw [hm] at hs
   simp only [if_true] at hs
   obtain ⟨p0, h1, h2, h3, h4, h5, h6⟩ := relaxM_last q n (jumpL (offM 0 ps) q 0 ps) (by omega) (AllJx.jumpL _ _ _ hj) (jumpL_immz _ _ _ _)
   refine ⟨p0, h1, h2, h3, h4, by rw [← h5, jumpL_len], fun k p r g1 g2 => ?_⟩
   have e : (jumpL (offM 0 ps) q 0 ps)[k]? = some (stepJ (offM 0 ps) q k p) := by rw [jumpL_get, g1, Nat.zero_add]; rfl
   exact (SameP.stepJ _ q k p).trans (h6 k _ r e g2)
theorem jump_len {p : PaS} (h : JxOK p) (hj : p.j = true) (v : Int) (hm : mayXS (p.imm v).x = true) (hz : p.x.imm = 0) : lenP p = ((bytesXS (p.imm v).x).length : Int) := by
 have h0 := jump_may h hj (v := 0) (by decide) (by decide) (fun _ => by decide)
 obtain ⟨ho, hw, h1, h2, h3, h4⟩ := h.yes hj
 have e : (p.imm 0).x = p.x := by unfold PaS.imm; simp only; rw [← hz]
 rw [e] at h0
 unfold lenP lenX bytesL
 rw [show mayX p.x.op p.x.w p.x.dst p.x.src p.x.base p.x.disp p.x.imm p.x.cc = true from h0, if_pos rfl, len_bD]
 have e28 : shapeM 28 = 9 := by decide
 have e29 : shapeM 29 = 10 := by decide
 unfold bytesXS PaS.imm
 simp only
 rcases ho with ⟨ho, hc⟩ | ⟨ho, hc⟩ <;> rcases hw with hw | hw <;> simp [bytesM, ho, hw, e28, e29, fourM]
theorem fin_facts {q : List Int} {ps : List PaS} (hl : ps.length ≤ 2000) (hj : AllJx ps) (hz : ImmZ ps) :
  (∀ k, k ≤ ps.length → ((catM (((finM q ps).take k).map PaS.x)).length : Int) = atI (offF q ps) k) ∧
  ∀ (k : Nat) (p r : PaS), ps[k]? = some p → (finM q ps)[k]? = some r → SameP p r ∧ (p.j = true → r.x.imm = wayM (offF q ps) q k p.to ∧ -22000 ≤ r.x.imm ∧ r.x.imm ≤ 22000) := by
 obtain ⟨p0, h1, h2, h3, h4, h5, h6⟩ := relaxM_last q (shortN ps + 1) ps (by omega) hj hz
 have hoff : offF q ps = offM 0 p0 := by unfold offF; rw [h1]
 have hfin : finM q ps = wayL (offM 0 p0) q 0 (jumpL (offM 0 p0) q 0 p0) := by unfold finM; rw [h1]
 have hmy := finM_may hl hj (q := q)
 have hget : ∀ (k : Nat) (x : PaS), p0[k]? = some x → (finM q ps)[k]? = some (stepW (offM 0 p0) q k (stepJ (offM 0 p0) q k x)) := by
  intro k x hx
  rw [hfin, wayL_get, jumpL_get, hx, Nat.zero_add]
  rfl
 have hlen : ∀ (k : Nat) (x r : PaS), p0[k]? = some x → (finM q ps)[k]? = some r → lenP x = ((bytesXS r.x).length : Int) := by
  intro k x r hx hr
  have hr' := hget k x hx
  rw [hr] at hr'
  have hr2 := Option.some.inj hr'
  have hmr := hmy r (List.mem_of_getElem? hr)
  have hxj := h3 x (List.mem_of_getElem? hx)
  have ht := moreL_get _ q p0 0 k x h2 hx
  rw [Nat.zero_add] at ht
  cases hj' : x.j
  ·have e : r = x := by
    rw [hr2]
    unfold stepJ
    rw [hj']
    simp only [Bool.false_eq_true, if_false]
    unfold stepW
    rw [hj']
    rfl
   subst e
   have hm' := (hxj.no hj').1
   unfold lenP lenX bytesL
   rw [show mayX r.x.op r.x.w r.x.dst r.x.src r.x.base r.x.disp r.x.imm r.x.cc = true from hm', if_pos rfl, len_bD]
   rfl
  ·have e : r = x.imm (wayM (offM 0 p0) q k x.to) := by
    rw [hr2]
    unfold stepJ
    rw [hj', ht]
    simp only [Bool.false_eq_true, if_false, if_true]
    unfold stepW
    rw [show (x.imm 0).j = true from hj']
    rfl
   subst e
   exact jump_len hxj hj' _ hmr (h4 x (List.mem_of_getElem? hx) hj')
 have hfl : (finM q ps).length = p0.length := by rw [finM_len, h5]
 refine ⟨?_, ?_⟩
 ·intro k
  induction k with
  | zero => intro _; rw [hoff]; unfold atI; rw [List.getD_eq_getElem?_getD, offM_get _ _ _ (Nat.zero_le _)]; simp [catM, totM]
  | succ k ih =>
   intro hk
   have i := ih (by omega)
   have hkl : k < (finM q ps).length := by rw [finM_len]; omega
   have hk0 : k < p0.length := by omega
   have e1 := hlen k p0[k] (finM q ps)[k] (List.getElem?_eq_getElem hk0) (List.getElem?_eq_getElem hkl)
   rw [List.take_succ_eq_append_getElem hkl, List.map_append, catM_append, List.length_append, Int.natCast_add, i, hoff]
   unfold atI
   rw [List.getD_eq_getElem?_getD, List.getD_eq_getElem?_getD, offM_get _ _ _ (by omega), offM_get _ _ _ (by omega), List.take_succ_eq_append_getElem hk0, totM_app]
   simp only [Option.getD_some, List.map_cons, List.map_nil, catM, List.append_nil, totM]
   omega
 ·intro k p r hp hr
  have hk0 : k < p0.length := by
   obtain ⟨hk1, _⟩ := List.getElem?_eq_some_iff.1 hp
   omega
  have hx := List.getElem?_eq_getElem hk0
  have hs := h6 k p p0[k] hp hx
  have hr' := hget k p0[k] hx
  rw [hr] at hr'
  have hr2 := Option.some.inj hr'
  refine ⟨?_, fun hpj => ?_⟩
  ·rw [hr2]
   exact hs.trans ((SameP.stepJ _ q k _).trans (SameP.stepW _ q k _))
  ·have hj' : p0[k].j = true := hs.j.trans hpj
   have ht := moreL_get _ q p0 0 k p0[k] h2 hx
   rw [Nat.zero_add] at ht
   have e : r = p0[k].imm (wayM (offM 0 p0) q k p0[k].to) := by
    rw [hr2]
    unfold stepJ
    rw [hj', ht]
    simp only [Bool.false_eq_true, if_false, if_true]
    unfold stepW
    rw [show (p0[k].imm 0).j = true from hj']
    rfl
   have hw := wayM_rng (p0 := p0) (q := q) (k := k) (to := p.to) (by omega)
   rw [e, hs.to, hoff]
   exact ⟨rfl, hw⟩
theorem stepP_immz {n : Nat} {b : Int} {i : Nat} {s : IrS} : ImmZ (stepP n b i s) := by
 intro p hp hj
 unfold stepP at hp
 split at hp
 ·rw [List.mem_singleton] at hp; subst hp; cases hj
 ·split at hp
  ·rw [List.mem_singleton] at hp; subst hp; rfl
  ·split at hp
   ·rw [List.mem_singleton] at hp; subst hp; rfl
   ·cases hp
theorem blkG_immz (n : Nat) (b : Int) : ∀ (l : List IrS) (i : Nat), ImmZ (blkG n b i l)
 | [], i, p, hp, _ => by cases hp
 | s :: r, i, p, hp, hj => by
  rcases List.mem_append.1 hp with q | q
  ·exact stepP_immz p q hj
  ·exact blkG_immz n b r (i + 1) p q hj
theorem allP_immz : ∀ (l : List (List IrS)) (b : Int), ImmZ (allP b l)
 | [], b, p, hp, _ => by cases hp
 | r :: l, b, p, hp, hj => by
  rcases List.mem_append.1 hp with q | q
  ·exact blkG_immz _ b r 0 p q hj
  ·exact allP_immz l (b + 1) p q hj
end Go.Ev

namespace Go.Proofs.Ytcngafhpodeenaa
open Go Go.Ev
set_option maxRecDepth 100000
structure Laid (pro : List XS) (l : List (List IrS)) : Prop where
  b : BlkIn pro l
  g : Good pro l
  n : pro.length + sumL l ≤ 2000
def finF (pro : List XS) (l : List (List IrS)) : List PaS := finM (begF pro l) (parF pro l)
def standF (pro : List XS) (l : List (List IrS)) (k : Nat) : Nat := (catM (((finF pro l).take k).map PaS.x)).length
theorem parF_immz (pro : List XS) (l : List (List IrS)) : ImmZ (parF pro l) := by
 intro p hp hj
 unfold parF preP at hp
 rcases List.mem_append.1 hp with q | q
 ·rw [noJ_pro pro p q] at hj; cases hj
 ·exact allP_immz _ 0 p q hj
theorem ld_facts {pro : List XS} {l : List (List IrS)} (h : Laid pro l) :
  (∀ k, k ≤ (parF pro l).length → (standF pro l k : Int) = atI (offF (begF pro l) (parF pro l)) k) ∧
  ∀ (k : Nat) (p r : PaS), (parF pro l)[k]? = some p → (finF pro l)[k]? = some r → SameP p r ∧ (p.j = true → r.x.imm = wayM (offF (begF pro l) (parF pro l)) (begF pro l) k p.to ∧ -22000 ≤ r.x.imm ∧ r.x.imm ≤ 22000) :=
 fin_facts (parF_len h.n) (good_all h.g).2 (parF_immz pro l)
theorem ld_may {pro : List XS} {l : List (List IrS)} (h : Laid pro l) : ∀ x ∈ (finF pro l).map PaS.x, mayXS x = true := by
 intro x hx
 obtain ⟨p, hp, rfl⟩ := List.mem_map.1 hx
 exact finM_may (parF_len h.n) (good_all h.g).2 p hp
theorem finF_len (pro : List XS) (l : List (List IrS)) : (finF pro l).length = (parF pro l).length := finM_len _ _
theorem stand_next {pro : List XS} {l : List (List IrS)} {k : Nat} {r : PaS} (hr : (finF pro l)[k]? = some r) : standF pro l (k + 1) = standF pro l k + (bytesXS r.x).length := by
 obtain ⟨hk, e⟩ := List.getElem?_eq_some_iff.1 hr
 unfold standF
 rw [List.take_succ_eq_append_getElem hk, List.map_append, catM_append, List.length_append, e]
 simp [catM]
theorem stand_le (pro : List XS) (l : List (List IrS)) (k : Nat) : standF pro l k ≤ (codeF pro l).length := by
 have e : finM (begF pro l) (parF pro l) = (finF pro l).take k ++ (finF pro l).drop k := (List.take_append_drop k _).symm
 unfold codeF standF
 rw [e, List.map_append, catM_append, List.length_append]
 omega
theorem stand_rng {pro : List XS} {l : List (List IrS)} (h : Laid pro l) (k : Nat) : standF pro l k ≤ 22000 := Nat.le_trans (stand_le pro l k) (codeF_len h.n)
theorem stand_w {pro : List XS} {l : List (List IrS)} (h : Laid pro l) {k : Nat} {r : PaS} (hr : (finF pro l)[k]? = some r) : IntKind.i64.wrap ((standF pro l k : Int) + ((bytesXS r.x).length : Int)) = ((standF pro l (k + 1) : Nat) : Int) := by
 have h1 := stand_rng h k
 have h2 := bytes_len r.x
 rw [stand_next hr, w_i64]
 omega
end Go.Proofs.Ytcngafhpodeenaa

namespace Go.Ev
open Go Go.RowKit
theorem ret_toCall {P : Program} {f : FuncId} {args args' : List D} {d : D} (h : Ret P f args' d) (hc : args.all D.clean = true) (hd : args.map D.demote = args') (s : List Ob) : CallRun P f args s d.demote s := by
 refine ⟨h.ent, Nat.le_refl _, fun w0 M own w vs hw hup hr => ?_⟩
 have hb : RepL M.bare args' vs := by
  subst hd
  refine ⟨by rw [List.length_map]; exact hr.1, fun i d' v hi hv => ?_⟩
  rw [List.getElem?_map] at hi
  cases e : args[i]? with
  | none => rw [e] at hi; cases hi
  | some x =>
   rw [e] at hi
   obtain rfl := Option.some.inj hi
   exact (hr.2 i x v e hv).toBare (List.all_eq_true.1 hc x (List.mem_of_getElem? e))
 refine Calls.mono (h.run w M.cell vs hw.cells hb) fun e w' hh => ?_
 obtain ⟨v, C', rfl, hext, hrep, hfresh⟩ := hh
 let M1 : MM := ⟨C', M.box, M.hist, M.mrk⟩
 have hx : Ext M w M1 w' := ⟨hext.below, hext.cell, hext.only, hext.cells⟩
 obtain ⟨hw1, le1⟩ := hw.ext hx rfl rfl rfl
 have hup1 : M1.upto s.length := ⟨hup.1, hup.2⟩
 exact ⟨v, M1, own, rfl, hw1, hup1, le1, (hrep.mono (bare_le M1)).demote⟩
end Go.Ev

namespace Go.Proofs.Ytcngafhpodeenaa
open Go Go.Ev
set_option maxRecDepth 100000
set_option maxHeartbeats 8000000
theorem sz_end (ps : List D) (m k : Nat) (a b : Int) (a0 : 0 ≤ a) (a1 : a ≤ 100000) (b0 : 0 ≤ b) (b1 : b ≤ 100000) (hps : ∀ c ∈ ps, c.clean = true) (hm : m ≤ 2000) (dps : ps.map D.demote = ps) (h : m ≤ k)  : RoundRun Try.prog (loopB Try.f28 0) ⟨[4, 5], [], []⟩ 6 (un 4 ++ (.int .i64 a) :: (.int .i64 b) :: (un 29 ++ (D.slc (1 : Nat) (10 : Nat) m) :: (.int .i64 (↑m : Int)) :: (.int .i64 (↑k : Int)) :: (un 24))) [Ob.dead, Ob.box ps, Ob.dead, Ob.dead, Ob.dead, Ob.dead] (Ex.exit (0 : Nat)) (un 4 ++ (.int .i64 a) :: (.int .i64 b) :: (un 56)) ([Ob.dead, Ob.dead, Ob.dead, Ob.dead, Ob.dead, Ob.dead]) := by
 exact RoundRun.of_eval mixed [tC (by ((try simp only [sL] at *); (try unfold big at *); omega) : (decide ((↑k : Int) < (↑m : Int))) = false)] (by kernel_rfl)
theorem sz_s (ps : List D) (m k : Nat) (a b : Int) (a0 : 0 ≤ a) (a1 : a ≤ 100000) (b0 : 0 ≤ b) (b1 : b ≤ 100000) (hps : ∀ c ∈ ps, c.clean = true) (hm : m ≤ 2000) (dps : ps.map D.demote = ps) (hk : k < m) (x : XS) (to : Int) (hA : GetsA ps (k * 10) 10 [.int .i8 x.op, .int .i8 x.w, .int .i8 x.dst, .int .i8 x.src, .int .i8 x.base, .int .i64 x.disp, .int .i64 x.imm, .int .i8 x.cc, .bool true, .int .i64 to]) (hw : x.w = 8)  : RoundRun Try.prog (loopB Try.f28 0) ⟨[4, 5, 35, 36, 37], [1000001], []⟩ 6 (un 4 ++ (.int .i64 a) :: (.int .i64 b) :: (un 29 ++ (D.slc (1 : Nat) (10 : Nat) m) :: (.int .i64 (↑m : Int)) :: (.int .i64 (↑k : Int)) :: (un 24))) [Ob.dead, Ob.box ps, Ob.dead, Ob.dead, Ob.dead, Ob.dead] (Ex.norm) (un 4 ++ (.int .i64 (IntKind.wrap IntKind.i64 (a + (1 : Int)))) :: (.int .i64 b) :: (un 29 ++ (D.slc (1 : Nat) (10 : Nat) m) :: (.int .i64 (↑m : Int)) :: (.int .i64 (IntKind.wrap IntKind.i64 ((↑k : Int) + (1 : Int)))) :: (un 24))) ([Ob.dead, Ob.box (List.map D.demote ps), Ob.dead, Ob.dead, Ob.dead, Ob.dead]) := by
 exact RoundRun.of_eval mixed [tC (by ((try simp only [sL] at *); (try unfold big at *); omega) : (decide ((↑k : Int) < (↑m : Int))) = true), .tst (decide ((0 : Int) ≤ (↑k : Int) ∧ (↑k : Int) < (↑m : Int))) true (by ((try simp only [sL] at *); (try unfold big at *); omega)), .getA _ _ _ _ (@gets_id (ps) (Int.toNat (↑k : Int) * (10 : Nat)) ((10 : Nat)) _ hA), tT, tT, tT, tT, tT, tC (eqI 8 true (by ((try simp only [sL] at *); (try unfold big at *); omega) : XS.w x = (8 : Int))), .cl (ps) (by first | exact clAll rfl | exact hps)] (by kernel_rfl)
theorem sz_n (ps : List D) (m k : Nat) (a b : Int) (a0 : 0 ≤ a) (a1 : a ≤ 100000) (b0 : 0 ≤ b) (b1 : b ≤ 100000) (hps : ∀ c ∈ ps, c.clean = true) (hm : m ≤ 2000) (dps : ps.map D.demote = ps) (hk : k < m) (x : XS) (to : Int) (hA : GetsA ps (k * 10) 10 [.int .i8 x.op, .int .i8 x.w, .int .i8 x.dst, .int .i8 x.src, .int .i8 x.base, .int .i64 x.disp, .int .i64 x.imm, .int .i8 x.cc, .bool true, .int .i64 to]) (hw : x.w ≠ 8)  : RoundRun Try.prog (loopB Try.f28 0) ⟨[4, 5, 35, 36, 37], [1000001], []⟩ 6 (un 4 ++ (.int .i64 a) :: (.int .i64 b) :: (un 29 ++ (D.slc (1 : Nat) (10 : Nat) m) :: (.int .i64 (↑m : Int)) :: (.int .i64 (↑k : Int)) :: (un 24))) [Ob.dead, Ob.box ps, Ob.dead, Ob.dead, Ob.dead, Ob.dead] (Ex.norm) (un 4 ++ (.int .i64 a) :: (.int .i64 (IntKind.wrap IntKind.i64 (b + (1 : Int)))) :: (un 29 ++ (D.slc (1 : Nat) (10 : Nat) m) :: (.int .i64 (↑m : Int)) :: (.int .i64 (IntKind.wrap IntKind.i64 ((↑k : Int) + (1 : Int)))) :: (un 24))) ([Ob.dead, Ob.box (List.map D.demote ps), Ob.dead, Ob.dead, Ob.dead, Ob.dead]) := by
 exact RoundRun.of_eval mixed [tC (by ((try simp only [sL] at *); (try unfold big at *); omega) : (decide ((↑k : Int) < (↑m : Int))) = true), .tst (decide ((0 : Int) ≤ (↑k : Int) ∧ (↑k : Int) < (↑m : Int))) true (by ((try simp only [sL] at *); (try unfold big at *); omega)), .getA _ _ _ _ (@gets_id (ps) (Int.toNat (↑k : Int) * (10 : Nat)) ((10 : Nat)) _ hA), tT, tT, tT, tT, tT, tC (by ((try simp only [sL] at *); (try unfold big at *); omega) : (XS.w x == (8 : Int)) = false), tT, .cl (ps) (by first | exact clAll rfl | exact hps)] (by kernel_rfl)
theorem sz_0 (ps : List D) (m k : Nat) (a b : Int) (a0 : 0 ≤ a) (a1 : a ≤ 100000) (b0 : 0 ≤ b) (b1 : b ≤ 100000) (hps : ∀ c ∈ ps, c.clean = true) (hm : m ≤ 2000) (dps : ps.map D.demote = ps) (hk : k < m) (x : XS) (to : Int) (hA : GetsA ps (k * 10) 10 [.int .i8 x.op, .int .i8 x.w, .int .i8 x.dst, .int .i8 x.src, .int .i8 x.base, .int .i64 x.disp, .int .i64 x.imm, .int .i8 x.cc, .bool false, .int .i64 to])  : RoundRun Try.prog (loopB Try.f28 0) ⟨[4, 5, 35, 36, 37], [1000001], []⟩ 6 (un 4 ++ (.int .i64 a) :: (.int .i64 b) :: (un 29 ++ (D.slc (1 : Nat) (10 : Nat) m) :: (.int .i64 (↑m : Int)) :: (.int .i64 (↑k : Int)) :: (un 24))) [Ob.dead, Ob.box ps, Ob.dead, Ob.dead, Ob.dead, Ob.dead] (Ex.norm) (un 4 ++ (.int .i64 a) :: (.int .i64 b) :: (un 29 ++ (D.slc (1 : Nat) (10 : Nat) m) :: (.int .i64 (↑m : Int)) :: (.int .i64 (IntKind.wrap IntKind.i64 ((↑k : Int) + (1 : Int)))) :: (un 24))) ([Ob.dead, Ob.box (List.map D.demote ps), Ob.dead, Ob.dead, Ob.dead, Ob.dead]) := by
 exact RoundRun.of_eval mixed [tC (by ((try simp only [sL] at *); (try unfold big at *); omega) : (decide ((↑k : Int) < (↑m : Int))) = true), .tst (decide ((0 : Int) ≤ (↑k : Int) ∧ (↑k : Int) < (↑m : Int))) true (by ((try simp only [sL] at *); (try unfold big at *); omega)), .getA _ _ _ _ (@gets_id (ps) (Int.toNat (↑k : Int) * (10 : Nat)) ((10 : Nat)) _ hA), tF, tF, tF, tF, tF, tF, tF, .cl (ps) (by first | exact clAll rfl | exact hps)] (by kernel_rfl)
end Go.Proofs.Ytcngafhpodeenaa

namespace Go.Proofs.Ytcngafhpodeenaa
open Go Go.Ev
set_option maxRecDepth 100000
set_option maxHeartbeats 8000000
theorem sh_e (c : List Int) (z : List XS) (sh nr n s k i : Int) (i0 : 0 ≤ i) (i1 : i ≤ 100000) (n0 : 0 ≤ n) (n1 : n ≤ 1000000) (s0 : 0 ≤ s) (s1 : s ≤ 100000) (k0 : 0 ≤ k) (k1 : k ≤ 100000) (hh : ((xsL z).length : Int) ≤ i)  : RoundRun Try.prog (loopB Try.f11 0) ⟨[5, 8, 9, 13, 14, 15], [], []⟩ 4 (un 5 ++ (.lst .no 1 (bD c)) :: (D.undef) :: (D.undef) :: (.int .i64 sh) :: (.int .i64 nr) :: (D.undef) :: (.lst .no 8 (xsL z)) :: (D.undef) :: (.int .i64 n) :: (.int .i64 s) :: (.int .i64 k) :: (.int .i64 i) :: (un 100)) [Ob.dead, Ob.dead, Ob.dead, Ob.dead] (Ex.exit (0 : Nat)) (un 5 ++ (.lst .no 1 (bD c)) :: (D.undef) :: (D.undef) :: (.int .i64 sh) :: (.int .i64 nr) :: (D.undef) :: (D.undef) :: (D.undef) :: (.int .i64 n) :: (.int .i64 s) :: (.int .i64 k) :: (un 101)) ([Ob.dead, Ob.dead, Ob.dead, Ob.dead]) := by
 exact RoundRun.of_eval mixed [tC (by ((try simp only [sL] at *); (try unfold big at *); omega) : (decide (i < (↑(List.length (xsL z)) : Int))) = false)] (by kernel_rfl)
theorem sh_x (c : List Int) (z : List XS) (sh nr n s k i : Int) (i0 : 0 ≤ i) (i1 : i ≤ 100000) (n0 : 0 ≤ n) (n1 : n ≤ 1000000) (s0 : 0 ≤ s) (s1 : s ≤ 100000) (k0 : 0 ≤ k) (k1 : k ≤ 100000) (x : XS) (u : Int) (u0 : 0 ≤ u) (u1 : u ≤ 11) (hh : i < ((xsL z).length : Int)) (hx : (xsL z)[Int.toNat i]? = some (xsD x)) (hl : Ret Try.prog 22 [xsD x] (.int .i64 u)) (j1 : x.op ≠ 28) (j2 : x.op ≠ 29)  : RoundRun Try.prog (loopB Try.f11 0) ⟨[5, 8, 9, 11, 13, 14, 15, 16], [], []⟩ 4 (un 5 ++ (.lst .no 1 (bD c)) :: (D.undef) :: (D.undef) :: (.int .i64 sh) :: (.int .i64 nr) :: (D.undef) :: (.lst .no 8 (xsL z)) :: (D.undef) :: (.int .i64 n) :: (.int .i64 s) :: (.int .i64 k) :: (.int .i64 i) :: (un 100)) [Ob.dead, Ob.dead, Ob.dead, Ob.dead] (Ex.norm) (un 5 ++ (.lst .no 1 (bD c)) :: (D.undef) :: (D.undef) :: (.int .i64 sh) :: (.int .i64 nr) :: (D.undef) :: (.lst .no 8 (xsL z)) :: (D.undef) :: (.int .i64 (IntKind.wrap IntKind.i64 (n + u))) :: (.int .i64 s) :: (.int .i64 k) :: (.int .i64 (IntKind.wrap IntKind.i64 (i + (1 : Int)))) :: (un 100)) ([Ob.dead, Ob.dead, Ob.dead, Ob.dead]) := by
 exact RoundRun.of_eval mixed [tC (by ((try simp only [sL] at *); (try unfold big at *); omega) : (decide (i < (↑(List.length (xsL z)) : Int))) = true), tC (v := true) (leL 0 (decide_eq_false (Int.not_lt.2 i0))), .get _ _ _ hx, .ret _ _ _ hl, tC (eT (nt (by ((try simp only [sL] at *); (try unfold big at *); omega) : (XS.op x == (28 : Int)) = false))), tC (eT (nt (by ((try simp only [sL] at *); (try unfold big at *); omega) : (XS.op x == (28 : Int)) = false))), tC (eT (nt (by ((try simp only [sL] at *); (try unfold big at *); omega) : (XS.op x == (28 : Int)) = false))), tC (nt (by ((try simp only [sL] at *); (try unfold big at *); omega) : (XS.op x == (28 : Int)) = false)), tC (nt (by ((try simp only [sL] at *); (try unfold big at *); omega) : (XS.op x == (29 : Int)) = false))] (by kernel_rfl)
theorem sh_as (c : List Int) (z : List XS) (sh nr n s k i : Int) (i0 : 0 ≤ i) (i1 : i ≤ 100000) (n0 : 0 ≤ n) (n1 : n ≤ 1000000) (s0 : 0 ≤ s) (s1 : s ≤ 100000) (k0 : 0 ≤ k) (k1 : k ≤ 100000) (x : XS) (u : Int) (u0 : 0 ≤ u) (u1 : u ≤ 11) (hh : i < ((xsL z).length : Int)) (hx : (xsL z)[Int.toNat i]? = some (xsD x)) (hl : Ret Try.prog 22 [xsD x] (.int .i64 u)) (j1 : x.op = 28) (hw : x.w = 8) (m0 : -128 ≤ x.imm) (m1 : x.imm ≤ 127)  : RoundRun Try.prog (loopB Try.f11 0) ⟨[5, 8, 9, 11, 13, 14, 15, 16], [], []⟩ 4 (un 5 ++ (.lst .no 1 (bD c)) :: (D.undef) :: (D.undef) :: (.int .i64 sh) :: (.int .i64 nr) :: (D.undef) :: (.lst .no 8 (xsL z)) :: (D.undef) :: (.int .i64 n) :: (.int .i64 s) :: (.int .i64 k) :: (.int .i64 i) :: (un 100)) [Ob.dead, Ob.dead, Ob.dead, Ob.dead] (Ex.norm) (un 5 ++ (.lst .no 1 (bD c)) :: (D.undef) :: (D.undef) :: (.int .i64 sh) :: (.int .i64 nr) :: (D.undef) :: (.lst .no 8 (xsL z)) :: (D.undef) :: (.int .i64 (IntKind.wrap IntKind.i64 (n + u))) :: (.int .i64 (IntKind.wrap IntKind.i64 (s + (1 : Int)))) :: (.int .i64 k) :: (.int .i64 (IntKind.wrap IntKind.i64 (i + (1 : Int)))) :: (un 100)) ([Ob.dead, Ob.dead, Ob.dead, Ob.dead]) := by
 exact RoundRun.of_eval mixed ([tC (by ((try simp only [sL] at *); (try unfold big at *); omega) : (decide (i < (↑(List.length (xsL z)) : Int))) = true), tC (v := true) (leL 0 (decide_eq_false (Int.not_lt.2 i0))), .get _ _ _ hx, .ret _ _ _ hl, tC (eT (nt (eqI 28 true (by ((try simp only [sL] at *); (try unfold big at *); omega) : XS.op x = (28 : Int))))), tC (eT (nt (eqI 28 true (by ((try simp only [sL] at *); (try unfold big at *); omega) : XS.op x = (28 : Int))))), tC (eT (nt (eqI 28 true (by ((try simp only [sL] at *); (try unfold big at *); omega) : XS.op x = (28 : Int))))), tC (nt (eqI 28 true (by ((try simp only [sL] at *); (try unfold big at *); omega) : XS.op x = (28 : Int)))), tF, tC (eqI 8 true (by ((try simp only [sL] at *); (try unfold big at *); omega) : XS.w x = (8 : Int))), tC (eT (eqI 8 true (by ((try simp only [sL] at *); (try unfold big at *); omega) : XS.w x = (8 : Int)))), tC (eT (eqI 8 true (by ((try simp only [sL] at *); (try unfold big at *); omega) : XS.w x = (8 : Int)))), tC (eT (eqI 8 true (by ((try simp only [sL] at *); (try unfold big at *); omega) : XS.w x = (8 : Int)))), tC (eT (eqI 8 true (by ((try simp only [sL] at *); (try unfold big at *); omega) : XS.w x = (8 : Int)))), tC (eF (decide_eq_false (Int.not_lt.2 m0))), tC (eF (decide_eq_false (Int.not_lt.2 m0)))] ++ [tC (eF (decide_eq_false (Int.not_lt.2 m0))), tC (eT (eqI 8 true (by ((try simp only [sL] at *); (try unfold big at *); omega) : XS.w x = (8 : Int)))), tC (decide_eq_false (Int.not_lt.2 m0)), tC (eqI 8 true (by ((try simp only [sL] at *); (try unfold big at *); omega) : XS.w x = (8 : Int))), tC (ltL 127 (decide_eq_true (Int.lt_add_one_of_le m1)))]) (by kernel_rfl)
theorem sh_an (c : List Int) (z : List XS) (sh nr n s k i : Int) (i0 : 0 ≤ i) (i1 : i ≤ 100000) (n0 : 0 ≤ n) (n1 : n ≤ 1000000) (s0 : 0 ≤ s) (s1 : s ≤ 100000) (k0 : 0 ≤ k) (k1 : k ≤ 100000) (x : XS) (u : Int) (u0 : 0 ≤ u) (u1 : u ≤ 11) (hh : i < ((xsL z).length : Int)) (hx : (xsL z)[Int.toNat i]? = some (xsD x)) (hl : Ret Try.prog 22 [xsD x] (.int .i64 u)) (j1 : x.op = 28) (hw : x.w ≠ 8)  : RoundRun Try.prog (loopB Try.f11 0) ⟨[5, 8, 9, 11, 13, 14, 15, 16], [], []⟩ 4 (un 5 ++ (.lst .no 1 (bD c)) :: (D.undef) :: (D.undef) :: (.int .i64 sh) :: (.int .i64 nr) :: (D.undef) :: (.lst .no 8 (xsL z)) :: (D.undef) :: (.int .i64 n) :: (.int .i64 s) :: (.int .i64 k) :: (.int .i64 i) :: (un 100)) [Ob.dead, Ob.dead, Ob.dead, Ob.dead] (Ex.norm) (un 5 ++ (.lst .no 1 (bD c)) :: (D.undef) :: (D.undef) :: (.int .i64 sh) :: (.int .i64 nr) :: (D.undef) :: (.lst .no 8 (xsL z)) :: (D.undef) :: (.int .i64 (IntKind.wrap IntKind.i64 (n + u))) :: (.int .i64 s) :: (.int .i64 (IntKind.wrap IntKind.i64 (k + (1 : Int)))) :: (.int .i64 (IntKind.wrap IntKind.i64 (i + (1 : Int)))) :: (un 100)) ([Ob.dead, Ob.dead, Ob.dead, Ob.dead]) := by
 exact RoundRun.of_eval mixed ([tC (by ((try simp only [sL] at *); (try unfold big at *); omega) : (decide (i < (↑(List.length (xsL z)) : Int))) = true), tC (v := true) (leL 0 (decide_eq_false (Int.not_lt.2 i0))), .get _ _ _ hx, .ret _ _ _ hl, tC (eT (nt (eqI 28 true (by ((try simp only [sL] at *); (try unfold big at *); omega) : XS.op x = (28 : Int))))), tC (eT (nt (eqI 28 true (by ((try simp only [sL] at *); (try unfold big at *); omega) : XS.op x = (28 : Int))))), tC (eT (nt (eqI 28 true (by ((try simp only [sL] at *); (try unfold big at *); omega) : XS.op x = (28 : Int))))), tC (nt (eqI 28 true (by ((try simp only [sL] at *); (try unfold big at *); omega) : XS.op x = (28 : Int)))), tF, tC (by ((try simp only [sL] at *); (try unfold big at *); omega) : (XS.w x == (8 : Int)) = false), tC (eT (by ((try simp only [sL] at *); (try unfold big at *); omega) : (XS.w x == (8 : Int)) = false)), tC (eT (by ((try simp only [sL] at *); (try unfold big at *); omega) : (XS.w x == (8 : Int)) = false)), tC (eT (by ((try simp only [sL] at *); (try unfold big at *); omega) : (XS.w x == (8 : Int)) = false)), tC (eT (by ((try simp only [sL] at *); (try unfold big at *); omega) : (XS.w x == (8 : Int)) = false)), tC (eT (by ((try simp only [sL] at *); (try unfold big at *); omega) : (XS.w x == (8 : Int)) = false)), tC (by ((try simp only [sL] at *); (try unfold big at *); omega) : (XS.w x == (8 : Int)) = false)] ++ [tF]) (by kernel_rfl)
theorem sh_bs (c : List Int) (z : List XS) (sh nr n s k i : Int) (i0 : 0 ≤ i) (i1 : i ≤ 100000) (n0 : 0 ≤ n) (n1 : n ≤ 1000000) (s0 : 0 ≤ s) (s1 : s ≤ 100000) (k0 : 0 ≤ k) (k1 : k ≤ 100000) (x : XS) (u : Int) (u0 : 0 ≤ u) (u1 : u ≤ 11) (hh : i < ((xsL z).length : Int)) (hx : (xsL z)[Int.toNat i]? = some (xsD x)) (hl : Ret Try.prog 22 [xsD x] (.int .i64 u)) (j2 : x.op = 29) (hw : x.w = 8) (m0 : -128 ≤ x.imm) (m1 : x.imm ≤ 127)  : RoundRun Try.prog (loopB Try.f11 0) ⟨[5, 8, 9, 11, 13, 14, 15, 16], [], []⟩ 4 (un 5 ++ (.lst .no 1 (bD c)) :: (D.undef) :: (D.undef) :: (.int .i64 sh) :: (.int .i64 nr) :: (D.undef) :: (.lst .no 8 (xsL z)) :: (D.undef) :: (.int .i64 n) :: (.int .i64 s) :: (.int .i64 k) :: (.int .i64 i) :: (un 100)) [Ob.dead, Ob.dead, Ob.dead, Ob.dead] (Ex.norm) (un 5 ++ (.lst .no 1 (bD c)) :: (D.undef) :: (D.undef) :: (.int .i64 sh) :: (.int .i64 nr) :: (D.undef) :: (.lst .no 8 (xsL z)) :: (D.undef) :: (.int .i64 (IntKind.wrap IntKind.i64 (n + u))) :: (.int .i64 (IntKind.wrap IntKind.i64 (s + (1 : Int)))) :: (.int .i64 k) :: (.int .i64 (IntKind.wrap IntKind.i64 (i + (1 : Int)))) :: (un 100)) ([Ob.dead, Ob.dead, Ob.dead, Ob.dead]) := by
 exact RoundRun.of_eval mixed ([tC (by ((try simp only [sL] at *); (try unfold big at *); omega) : (decide (i < (↑(List.length (xsL z)) : Int))) = true), tC (v := true) (leL 0 (decide_eq_false (Int.not_lt.2 i0))), .get _ _ _ hx, .ret _ _ _ hl, tC (eT (nt (by ((try simp only [sL] at *); (try unfold big at *); omega) : (XS.op x == (28 : Int)) = false))), tC (eT (nt (by ((try simp only [sL] at *); (try unfold big at *); omega) : (XS.op x == (28 : Int)) = false))), tC (eT (nt (by ((try simp only [sL] at *); (try unfold big at *); omega) : (XS.op x == (28 : Int)) = false))), tC (nt (by ((try simp only [sL] at *); (try unfold big at *); omega) : (XS.op x == (28 : Int)) = false)), tC (nt (eqI 29 true (by ((try simp only [sL] at *); (try unfold big at *); omega) : XS.op x = (29 : Int)))), tC (eqI 8 true (by ((try simp only [sL] at *); (try unfold big at *); omega) : XS.w x = (8 : Int))), tC (eT (eqI 8 true (by ((try simp only [sL] at *); (try unfold big at *); omega) : XS.w x = (8 : Int)))), tC (eT (eqI 8 true (by ((try simp only [sL] at *); (try unfold big at *); omega) : XS.w x = (8 : Int)))), tC (eT (eqI 8 true (by ((try simp only [sL] at *); (try unfold big at *); omega) : XS.w x = (8 : Int)))), tC (eT (eqI 8 true (by ((try simp only [sL] at *); (try unfold big at *); omega) : XS.w x = (8 : Int)))), tC (eF (decide_eq_false (Int.not_lt.2 m0))), tC (eF (decide_eq_false (Int.not_lt.2 m0)))] ++ [tC (eF (decide_eq_false (Int.not_lt.2 m0))), tC (eT (eqI 8 true (by ((try simp only [sL] at *); (try unfold big at *); omega) : XS.w x = (8 : Int)))), tC (decide_eq_false (Int.not_lt.2 m0)), tC (eqI 8 true (by ((try simp only [sL] at *); (try unfold big at *); omega) : XS.w x = (8 : Int))), tC (ltL 127 (decide_eq_true (Int.lt_add_one_of_le m1)))]) (by kernel_rfl)
theorem sh_bn (c : List Int) (z : List XS) (sh nr n s k i : Int) (i0 : 0 ≤ i) (i1 : i ≤ 100000) (n0 : 0 ≤ n) (n1 : n ≤ 1000000) (s0 : 0 ≤ s) (s1 : s ≤ 100000) (k0 : 0 ≤ k) (k1 : k ≤ 100000) (x : XS) (u : Int) (u0 : 0 ≤ u) (u1 : u ≤ 11) (hh : i < ((xsL z).length : Int)) (hx : (xsL z)[Int.toNat i]? = some (xsD x)) (hl : Ret Try.prog 22 [xsD x] (.int .i64 u)) (j2 : x.op = 29) (hw : x.w ≠ 8)  : RoundRun Try.prog (loopB Try.f11 0) ⟨[5, 8, 9, 11, 13, 14, 15, 16], [], []⟩ 4 (un 5 ++ (.lst .no 1 (bD c)) :: (D.undef) :: (D.undef) :: (.int .i64 sh) :: (.int .i64 nr) :: (D.undef) :: (.lst .no 8 (xsL z)) :: (D.undef) :: (.int .i64 n) :: (.int .i64 s) :: (.int .i64 k) :: (.int .i64 i) :: (un 100)) [Ob.dead, Ob.dead, Ob.dead, Ob.dead] (Ex.norm) (un 5 ++ (.lst .no 1 (bD c)) :: (D.undef) :: (D.undef) :: (.int .i64 sh) :: (.int .i64 nr) :: (D.undef) :: (.lst .no 8 (xsL z)) :: (D.undef) :: (.int .i64 (IntKind.wrap IntKind.i64 (n + u))) :: (.int .i64 s) :: (.int .i64 (IntKind.wrap IntKind.i64 (k + (1 : Int)))) :: (.int .i64 (IntKind.wrap IntKind.i64 (i + (1 : Int)))) :: (un 100)) ([Ob.dead, Ob.dead, Ob.dead, Ob.dead]) := by
 exact RoundRun.of_eval mixed ([tC (by ((try simp only [sL] at *); (try unfold big at *); omega) : (decide (i < (↑(List.length (xsL z)) : Int))) = true), tC (v := true) (leL 0 (decide_eq_false (Int.not_lt.2 i0))), .get _ _ _ hx, .ret _ _ _ hl, tC (eT (nt (by ((try simp only [sL] at *); (try unfold big at *); omega) : (XS.op x == (28 : Int)) = false))), tC (eT (nt (by ((try simp only [sL] at *); (try unfold big at *); omega) : (XS.op x == (28 : Int)) = false))), tC (eT (nt (by ((try simp only [sL] at *); (try unfold big at *); omega) : (XS.op x == (28 : Int)) = false))), tC (nt (by ((try simp only [sL] at *); (try unfold big at *); omega) : (XS.op x == (28 : Int)) = false)), tC (nt (eqI 29 true (by ((try simp only [sL] at *); (try unfold big at *); omega) : XS.op x = (29 : Int)))), tC (by ((try simp only [sL] at *); (try unfold big at *); omega) : (XS.w x == (8 : Int)) = false), tC (eT (by ((try simp only [sL] at *); (try unfold big at *); omega) : (XS.w x == (8 : Int)) = false)), tC (eT (by ((try simp only [sL] at *); (try unfold big at *); omega) : (XS.w x == (8 : Int)) = false)), tC (eT (by ((try simp only [sL] at *); (try unfold big at *); omega) : (XS.w x == (8 : Int)) = false)), tC (eT (by ((try simp only [sL] at *); (try unfold big at *); omega) : (XS.w x == (8 : Int)) = false)), tC (eT (by ((try simp only [sL] at *); (try unfold big at *); omega) : (XS.w x == (8 : Int)) = false)), tC (by ((try simp only [sL] at *); (try unfold big at *); omega) : (XS.w x == (8 : Int)) = false)] ++ [tF]) (by kernel_rfl)
end Go.Proofs.Ytcngafhpodeenaa

namespace Go.Proofs.Ytcngafhpodeenaa
open Go Go.Ev
set_option maxRecDepth 100000
abbrev szT (a b : Int) (m k : Nat) : List D := [.undef, .undef, .undef, .undef, .int .i64 a, .int .i64 b, .undef, .undef, .undef, .undef, .undef, .undef, .undef, .undef, .undef, .undef, .undef, .undef, .undef, .undef, .undef, .undef, .undef, .undef, .undef, .undef, .undef, .undef, .undef, .undef, .undef, .undef, .undef, .undef, .undef, .slc 1 10 m, .int .i64 (m : Int), .int .i64 (k : Int), .undef, .undef, .undef, .undef, .undef, .undef, .undef, .undef, .undef, .undef, .undef, .undef, .undef, .undef, .undef, .undef, .undef, .undef, .undef, .undef, .undef, .undef, .undef, .undef]
abbrev szU (a b : Int) : List D := [.undef, .undef, .undef, .undef, .int .i64 a, .int .i64 b, .undef, .undef, .undef, .undef, .undef, .undef, .undef, .undef, .undef, .undef, .undef, .undef, .undef, .undef, .undef, .undef, .undef, .undef, .undef, .undef, .undef, .undef, .undef, .undef, .undef, .undef, .undef, .undef, .undef, .undef, .undef, .undef, .undef, .undef, .undef, .undef, .undef, .undef, .undef, .undef, .undef, .undef, .undef, .undef, .undef, .undef, .undef, .undef, .undef, .undef, .undef, .undef, .undef, .undef, .undef, .undef]
abbrev szS (ps : List D) : List Ob := [.dead, .box ps, .dead, .dead, .dead, .dead]
abbrev szE : List Ob := [.dead, .dead, .dead, .dead, .dead, .dead]
abbrev shT (c : List Int) (z : List XS) (sh nr n s k i : Int) : List D := (un 5 ++ (.lst .no 1 (bD c)) :: (.undef) :: (.undef) :: (.int .i64 sh) :: (.int .i64 nr) :: (.undef) :: (.lst .no 8 (xsL z)) :: (.undef) :: (.int .i64 n) :: (.int .i64 s) :: (.int .i64 k) :: (.int .i64 i) :: (un 100))
abbrev shU (c : List Int) (sh nr n s k : Int) : List D := (un 5 ++ (.lst .no 1 (bD c)) :: (.undef) :: (.undef) :: (.int .i64 sh) :: (.int .i64 nr) :: (.undef) :: (.undef) :: (.undef) :: (.int .i64 n) :: (.int .i64 s) :: (.int .i64 k) :: (un 101))
theorem cidRun_ok {ar : List D} {s : List Ob} {d : D} {s' : List Ob} (h : CallRun Try.prog 26 ar s d s') : CallRun Try.prog 26 ar s d s' := h
theorem cidParts_ok {ar : List D} {s : List Ob} {d : D} {s' : List Ob} (h : CallRun Try.prog 64 ar s d s') : CallRun Try.prog 64 ar s d s' := h
theorem cidRelax_ok {ar : List D} {s : List Ob} {d : D} {s' : List Ob} (h : CallRun Try.prog 65 ar s d s') : CallRun Try.prog 65 ar s d s' := h
end Go.Proofs.Ytcngafhpodeenaa
