/- Contracts and plain laws that a statement's proof leans on (texts merged: MdP4, MdRf, XQ8A, XQ9, XOfA, XMay0, XMay1). -/
import Derived.Test.YtcngafhpodeenaaGreatG05
import Derived.Test.YtcngafhpodeenaaGreatG06
import Derived.Test.YtcngafhpodeenaaGreatG08
import Derived.Test.YtcngafhpodeenaaGreatG09
set_option linter.unusedVariables false
set_option linter.unusedSimpArgs false
namespace Go.Ev
open Go
def byK : List LK := [.int .u8]
def hdD (ds : List D) : D := ds.headD .undef
theorem by_cells (ds : List D) (h : okL byK ds) : (hdD ds).cells = some ds := by
 simp only [byK, okL] at h
 obtain ⟨n, r, rfl, _, rfl⟩ := h
 rfl
theorem bys_of : ∀ (xs : List (List D)), (∀ ds ∈ xs, okL byK ds) → ∃ l : List Int, xs.map hdD = bD l ∧ isB l ∧ l.length = xs.length
 | [], _ => ⟨[], rfl, nilB, rfl⟩
 | ds :: r, h => by
  obtain ⟨l, e, ho, hl⟩ := bys_of r (fun d hd => h d (List.mem_cons_of_mem _ hd))
  have h1 := h ds (List.mem_cons_self ..)
  simp only [byK, okL] at h1
  obtain ⟨n, r', rfl, hn, rfl⟩ := h1
  refine ⟨n :: l, by rw [List.map_cons, e]; rfl, isB_cons.2 ⟨?_, ho⟩, by simp [hl]⟩
  simp [IntKind.has, IntKind.min, IntKind.max, IntKind.signed, IntKind.bits] at hn
  omega
theorem bD_take (a : List Int) (n : Nat) : bD (a.take n) = (bD a).take n := by simp [bD, List.map_take]
theorem read_back {x : XS} (h : mayXS x = true) (t : List Int) : readM (bytesXS x ++ t) = some x := by
 have hd : decM (bytesXS x ++ t) = x := dec_back h t
 unfold readM
 rw [hd, if_pos]
 unfold fitsX
 rw [h, Bool.true_and, List.isPrefixOf_iff_prefix]
 exact List.prefix_append _ _
theorem read_fits {b : List Int} {x : XS} (h : readM b = some x) : mayXS x = true ∧ bytesXS x <+: b := by
 unfold readM at h
 split at h
 ·rename_i hf
  cases h
  unfold fitsX at hf
  rw [Bool.and_eq_true, List.isPrefixOf_iff_prefix] at hf
  exact hf
 ·cases h
theorem rex_len (w : Bool) (r m : Int) (al : Bool) : (rexM w r m al).length ≤ 1 := by unfold rexM; split <;> simp
theorem mem_len (r b d : Int) : (memM r b d).length = 5 ∨ (memM r b d).length = 6 := by unfold memM fourM; split <;> simp
theorem bytes_len (x : XS) : 1 ≤ (bytesXS x).length ∧ (bytesXS x).length ≤ 11 := by
 unfold bytesXS bytesM
 have r1 := rex_len (decide (x.w = 64)) x.src x.dst false
 have r2 := rex_len (decide (x.w = 64)) x.dst x.src false
 have r3 := rex_len false 0 x.dst false
 have r4 := rex_len (decide (x.w = 64)) 0 x.dst false
 have r5 := rex_len (decide (x.w = 64)) x.dst x.base false
 have r6 := rex_len (decide (x.w = 64)) x.src x.base (decide (x.w = 8))
 have m1 := mem_len x.dst x.base x.disp
 have m2 := mem_len x.src x.base x.disp
 have ite : ∀ {c : Prop} [Decidable c] {a b : List Int} {m n : Nat}, (m ≤ a.length ∧ a.length ≤ n) → (m ≤ b.length ∧ b.length ≤ n) → (m ≤ (if c then a else b).length ∧ (if c then a else b).length ≤ n) := by
  intro c _ a b m n h1 h2
  by_cases hc : c
  ·rw [if_pos hc]; exact h1
  ·rw [if_neg hc]; exact h2
 have sm : ∀ {l : List Int} {m n : Nat}, m ≤ l.length → l.length ≤ n → (m ≤ l.length ∧ l.length ≤ n) := fun a b => ⟨a, b⟩
 have l7 := @ite (x.w = 8) _ [15, 182] (if x.w = 16 then [15, 183] else [139]) 1 2 (by simp) (ite (by simp) (by simp))
 have l8 := @ite (x.w = 16) _ [102] [] 0 1 (by simp) (by simp)
 have l9 := @ite (x.w = 8) _ [136] [137] 1 1 (by simp) (by simp)
 refine ite (by simp only [List.length_append, List.length_cons, List.length_nil]; omega) (ite (by simp only [List.length_append, List.length_cons, List.length_nil]; omega) (ite (by simp only [List.length_append, List.length_cons, List.length_nil]; omega) (ite (ite (by simp only [List.length_append, List.length_cons, List.length_nil, fourM]; omega) (by simp only [List.length_append, List.length_cons, List.length_nil, fourM]; omega)) (ite (by simp only [List.length_append, List.length_cons, List.length_nil]; omega) (ite (by simp only [List.length_append, List.length_cons, List.length_nil]; omega) (ite ?_ (ite ?_ (ite (ite (by simp) (by simp [fourM])) (ite (ite (by simp) (by simp [fourM])) (ite (by simp) (by simp)))))))))))
 ·rw [List.length_append, List.length_append]; omega
 ·rw [List.length_append, List.length_append, List.length_append]; omega
end Go.Ev

namespace Go.Ev
open Go
theorem rdO_eq {x y : XS} {a b : Nat} (h : x = y) (k : a = b) : RdO.mk x a false = RdO.mk y b false := by rw [h, k]
theorem pair_ops : ∀ n : Fin 32, shapeM (n.val : Int) = 1 → (n.val = 0 ∨ n.val = 2 ∨ n.val = 3 ∨ n.val = 4 ∨ n.val = 5 ∨ n.val = 6 ∨ n.val = 7 ∨ n.val = 8) ∧ 0 ≤ codeM (n.val : Int) ∧ codeM (n.val : Int) ≤ 255 := by decide +kernel
theorem case_pair {n : Fin 32} (h : shapeM (n.val : Int) = 1) {b : List Int} {half : Bool} {W rr mm : Int} {k : Nat} {bad : Bool} (hv : ¬ rdV b k < 192) :
  rdCase b (codeM (n.val : Int)) half W rr mm k bad = ⟨⟨(n.val : Int), W, rdLo (rdV b k) mm, rdHi (rdV b k) rr, 0, 0, 0, 0⟩, rdA b k, rd2X b k bad⟩ := by
 obtain ⟨h, _⟩ := pair_ops n h
 rcases h with e | e | e | e | e | e | e | e <;> rw [e] <;> simp [rdCase, codeM, pairO, hv]
theorem grp_ops : ∀ n : Fin 32, shapeM (n.val : Int) = 3 ∨ shapeM (n.val : Int) = 4 ∨ shapeM (n.val : Int) = 5 → (n.val : Int) ≠ 1 → (let c := codeM (n.val : Int); (c = 129 ∨ c = 193 ∨ c = 211 ∨ c = 247) ∧ groupM c (numM (n.val : Int)) = n.val ∧ (shapeM (n.val : Int) = 3 → c = 129 ∨ (n.val : Int) = 15) ∧ (shapeM (n.val : Int) = 4 → c = 193 ∧ (n.val : Int) ≠ 15) ∧ (shapeM (n.val : Int) = 5 → c ≠ 129 ∧ c ≠ 193 ∧ (n.val : Int) ≠ 15)) := by decide +kernel
theorem case_grp {n : Int} (h : n = 129 ∨ n = 193 ∨ n = 211 ∨ n = 247) {b : List Int} {half : Bool} {W rr mm : Int} {k : Nat} {bad : Bool} :
  rdCase b n half W rr mm k bad = rdGrp b n (groupM n (rdHi (rdV b k) rr % 8)) W (rdLo (rdV b k) mm) (rdA b k) (rd2X b k bad) := by
 rcases h with e | e | e | e <;> rw [e] <;> simp [rdCase]
theorem groupM_n15 {base n : Int} (hb : base = 193 ∨ base = 211) (n0 : 0 ≤ n) (n1 : n ≤ 7) : groupM base n ≠ 15 := by
 have h : ∀ m : Fin 8, groupM 193 (m.val : Int) ≠ 15 ∧ groupM 211 (m.val : Int) ≠ 15 := by decide +kernel
 have := h ⟨n.toNat, by omega⟩
 have e : ((n.toNat : Nat) : Int) = n := by omega
 simp only [e] at this
 rcases hb with rfl | rfl
 ·exact this.1
 ·exact this.2
theorem rdX_le {b : List Int} {k : Nat} (h : k ≤ b.length) : rdMk b k ≤ b.length ∧ rdA4 b k ≤ b.length := by
 unfold rdMk rdA4
 have h1 := rdA_le h
 have h2 := rdA_le h1
 exact ⟨by split <;> omega, rdA_le (rdA_le h2)⟩
theorem prK_le (b : List Int) : prK b 0 ≤ b.length := by
 have h0 : pr1 b 0 ≤ b.length := by unfold pr1; split; exact rdA_le (Nat.zero_le _); exact Nat.zero_le _
 unfold prK
 split
 ·exact rdA_le (rdA_le h0)
 ·exact rdA_le h0
theorem ite_at {c : Prop} [Decidable c] {r s : RdO} {n : Nat} (h1 : r.at_ ≤ n) (h2 : s.at_ ≤ n) : (if c then r else s).at_ ≤ n := by split <;> assumption
theorem rdBeh_le {b : List Int} {W rr mm : Int} {k : Nat} {bad : Bool} (hk : k ≤ b.length) : (rdBeh b W rr mm k bad).at_ ≤ b.length := by
 have h1 := rdA_le hk
 have h2 := rdA_le h1
 have q1 := rdX_le (rdX_le h1).1
 have q2 := rdX_le h1
 unfold rdBeh
 exact ite_at h2 (ite_at h1 (ite_at h2 (ite_at q2.2 (ite_at q1.2 (ite_at q1.2 h1)))))
theorem rdRan_le {b : List Int} {n W mm : Int} {k : Nat} {bad : Bool} (hk : k ≤ b.length) : (rdRan b n W mm k bad).at_ ≤ b.length := by
 unfold rdRan
 exact ite_at (rdA_le hk) (ite_at (rdX_le hk).2 hk)
theorem rdGrp_le {b : List Int} {n o W dst : Int} {k : Nat} {bad : Bool} (hk : k ≤ b.length) : (rdGrp b n o W dst k bad).at_ ≤ b.length := by
 unfold rdGrp
 exact ite_at (rdX_le hk).2 (ite_at (rdA_le hk) hk)
theorem rdAll_le (b : List Int) : (rdAll b).at_ ≤ b.length := by
 have hk := prK_le b
 have h1 := rdA_le hk
 have m0 := rdX_le (rdX_le hk).1
 unfold rdAll rdCase
 exact ite_at (ite_at m0.2 h1) (ite_at h1 (ite_at (rdGrp_le h1) (ite_at (rdX_le h1).2 (ite_at m0.2 (ite_at m0.2 (ite_at h1 (ite_at (rdX_le hk).2 (ite_at hk (ite_at (rdBeh_le hk) (rdRan_le hk))))))))))
set_option maxHeartbeats 2000000 in
theorem rd_back {op w dst src base disp imm cc : Int} (h : mayX op w dst src base disp imm cc = true) (t : List Int) :
    rdAll (bytesM op w dst src base disp imm cc ++ t) = ⟨⟨op, w, dst, src, base, disp, imm, cc⟩, (bytesM op w dst src base disp imm cc).length, false⟩ := by
  obtain ⟨⟨d0, d1, s0, s1, b0, b1, p0, p1, i0, i1⟩, hs⟩ := mayX_parts h
  have hsh : shapeM op ≠ 0 := by
    intro e
    rw [e] at hs
    simp [mayS] at hs
  obtain ⟨k, rfl⟩ := op_fin hsh
  unfold mayS at hs
  split at hs
  · rename_i h12
    simp only [Bool.and_eq_true, decide_eq_true_eq] at hs
    obtain ⟨hw, rfl, rfl, rfl, rfl⟩ := hs
    have ew := w_back hw
    rcases h12 with h1 | h1
    ·
      obtain ⟨c1, c2, c3, -⟩ := code_pairs k h1
      obtain ⟨-, u0, u1⟩ := pair_ops k h1
      have e : bytesM (k.val : Int) w dst src 0 0 0 0 = rexM (decide (w = 64)) src dst false ++ [codeM (k.val : Int), regsM src dst] := by simp only [bytesM, h1, if_true]
      obtain ⟨q, hq, hd, ha⟩ := all_rex (b := bytesM (k.val : Int) w dst src 0 0 0 0 ++ t) (wide := decide (w = 64)) (al := false) (t := regsM src dst :: t) s0 s1 d0 d1 u0 u1 c2 c3 (by rw [e]; simp)
      obtain ⟨g1, g2, g3, g4, g5, _⟩ := rd_two s0 s1 d0 d1 hd
      rw [ha, case_pair h1 g1, g2, g3, g4, g5, ew]
      refine rdO_eq rfl ?_
      rw [hq, e]; simp
    ·
      have hk : (k.val : Int) = 16 := by
        have := shape_ops (op := (k.val : Int)) (by omega)
        revert h1
        rcases this with e | e | e | e | e | e | e | e | e | e | e | e | e | e | e | e | e | e | e | e | e | e | e | e | e | e | e | e | e | e | e | e <;> rw [e] <;> decide
      rw [hk]
      have e : bytesM 16 w dst src 0 0 0 0 = rexM (decide (w = 64)) dst src false ++ [15, 175, regsM dst src] := by
        simp only [bytesM, show shapeM 16 = 2 from rfl, show codeM 16 = 175 from rfl, if_true, show ¬ (2 : Int) = 1 by decide, if_false]
      obtain ⟨q, hq, hd, ha⟩ := all_rex (b := bytesM 16 w dst src 0 0 0 0 ++ t) (wide := decide (w = 64)) (al := false) (c := 15) (t := 175 :: regsM dst src :: t) d0 d1 s0 s1 (by decide) (by decide) (by decide) (by decide) (by rw [e]; simp)
      obtain ⟨_, v0, a0, x0, h1⟩ := rd_cons hd
      rw [← a0] at h1
      obtain ⟨g1, g2, g3, g4, g5, _⟩ := rd_two d0 d1 s0 s1 h1
      rw [ha, ew]
      simp only [rdCase, rdBeh]
      rw [v0, g2, g3, g4, x0, g5]
      simp
      rw [a0, hq, e]; simp
  · rename_i n12
    have n1 : ¬ shapeM (k.val : Int) = 1 := fun e => n12 (.inl e)
    have n2 : ¬ shapeM (k.val : Int) = 2 := fun e => n12 (.inr e)
    split at hs
    ·
      rename_i h3
      simp only [Bool.and_eq_true, decide_eq_true_eq] at hs
      obtain ⟨hw, rfl, rfl, rfl, rfl⟩ := hs
      have ew := w_back hw
      by_cases hk : (k.val : Int) = 1
      · rw [hk]
        rcases long_cases hw with rfl | rfl
        · have e : bytesM 1 32 dst 0 0 0 imm 0 = rexM false 0 dst false ++ ((184 + dst % 8) :: fourM imm) := by
            simp [bytesM, show shapeM 1 = 3 from rfl]
          obtain ⟨q, hq, hd, ha⟩ := all_rex (b := bytesM 1 32 dst 0 0 0 imm 0 ++ t) (wide := false) (al := false) (c := 184 + dst % 8) (t := fourM imm ++ t) (r := 0) (by decide) (by decide) d0 d1 (by omega) (by omega) (by omega) (by omega) (by rw [e]; simp)
          obtain ⟨f1, f2, f3, f4⟩ := rd_four i0 i1 hd
          rw [ha]
          simp only [rdCase]
          rw [if_neg (by omega), if_neg (by omega), if_neg (by omega), if_neg (by omega), if_neg (by omega), if_neg (by omega), if_neg (by omega), if_neg (by omega), if_neg (by omega), if_neg (by omega)]
          unfold rdRan
          rw [if_neg (by omega), if_pos (by omega), f1, f2, f3]
          have ed : IntKind.i8.wrap (IntKind.i8.wrap (IntKind.i64.wrap (184 + dst % 8 - 184)) + IntKind.i8.wrap (8 * (dst / 8))) = dst := by
            rw [w_i64, w_i8, w_i8, w_i8]; omega
          rw [ed]
          refine rdO_eq rfl ?_
          rw [hq, e]; simp [fourM]
        · have e : bytesM 1 64 dst 0 0 0 imm 0 = rexM true 0 dst false ++ (199 :: regsM 0 dst :: fourM imm) := by
            simp [bytesM, show shapeM 1 = 3 from rfl, show codeM 1 = 199 from rfl, show numM 1 = 0 from rfl]
          obtain ⟨q, hq, hd, ha⟩ := all_rex (b := bytesM 1 64 dst 0 0 0 imm 0 ++ t) (wide := true) (al := false) (c := 199) (t := regsM 0 dst :: (fourM imm ++ t)) (r := 0) (by decide) (by decide) d0 d1 (by decide) (by decide) (by decide) (by decide) (by rw [e]; simp)
          obtain ⟨g1, g2, g3, g4, g5, g6⟩ := rd_two (by decide) (by decide) d0 d1 hd
          rw [← g4] at g6
          obtain ⟨f1, f2, f3, f4⟩ := rd_four i0 i1 g6
          rw [ha]
          simp only [rdCase]
          rw [g3, g5, f1, f2, f3, g4]
          simp
          rw [hq, e]; simp [fourM]
      · obtain ⟨c1, c2, c3, c4, c5, c6, c7, c8, c9, c10, c11, c12, u0, u1⟩ := code_group k (.inl h3)
        obtain ⟨r1, r2, r3, -⟩ := grp_ops k (.inl h3) hk
        have e : bytesM (k.val : Int) w dst 0 0 0 imm 0 = rexM (decide (w = 64)) 0 dst false ++ (codeM (k.val : Int) :: regsM (numM (k.val : Int)) dst :: fourM imm) := by
          simp only [bytesM, h3, hk, show ¬ (3 : Int) = 1 by decide, show ¬ (3 : Int) = 2 by decide, show ¬ (3 : Int) = 6 by decide, if_false, if_true, false_and]
        obtain ⟨q, hq, hd, ha⟩ := all_rex (b := bytesM (k.val : Int) w dst 0 0 0 imm 0 ++ t) (wide := decide (w = 64)) (al := false) (t := regsM (numM (k.val : Int)) dst :: (fourM imm ++ t)) (r := 0) (by decide) (by decide) d0 d1 (by omega) (by omega) c2 c3 (by rw [e]; simp)
        obtain ⟨g2, g3, g4, g5, g6⟩ := rd_num u0 u1 d0 d1 hd
        rw [← g4] at g6
        obtain ⟨f1, f2, f3, f4⟩ := rd_four i0 i1 g6
        rw [ha, case_grp r1, show (0 : Int) / 8 = 0 by decide, g2, r2, g3, g5]
        unfold rdGrp
        rw [if_pos (r3 h3), f1, f2, f3, g4, ew]
        refine rdO_eq rfl ?_
        rw [hq, e]; simp [fourM]
    · rename_i n3
      split at hs
      ·
        rename_i h4
        simp only [Bool.and_eq_true, decide_eq_true_eq] at hs
        obtain ⟨hw, rfl, rfl, rfl, rfl, j0, j1⟩ := hs
        have ew := w_back hw
        have hw' := long_cases hw
        obtain ⟨c1, c2, c3, c4, c5, c6, c7, c8, c9, c10, c11, c12, u0, u1⟩ := code_group k (.inr (.inl h4))
        obtain ⟨r1, r2, -, r3, -⟩ := grp_ops k (.inr (.inl h4)) (by intro e; rw [e] at h4; revert h4; decide)
        have e : bytesM (k.val : Int) w dst 0 0 0 imm 0 = rexM (decide (w = 64)) 0 dst false ++ [codeM (k.val : Int), regsM (numM (k.val : Int)) dst, imm % 256] := by
          simp only [bytesM, h4, show ¬ (4 : Int) = 1 by decide, show ¬ (4 : Int) = 2 by decide, show ¬ (4 : Int) = 6 by decide, show ¬ (4 : Int) = 3 by decide, if_false, if_true]
        obtain ⟨q, hq, hd, ha⟩ := all_rex (b := bytesM (k.val : Int) w dst 0 0 0 imm 0 ++ t) (wide := decide (w = 64)) (al := false) (t := regsM (numM (k.val : Int)) dst :: (imm % 256) :: t) (r := 0) (by decide) (by decide) d0 d1 (by omega) (by omega) c2 c3 (by rw [e]; simp)
        obtain ⟨g2, g3, g4, g5, g6⟩ := rd_num u0 u1 d0 d1 hd
        rw [← g4] at g6
        obtain ⟨_, v0, a0, x0, _⟩ := rd_cons g6
        obtain ⟨q1, q2⟩ := r3 h4
        rw [ha, case_grp r1, show (0 : Int) / 8 = 0 by decide, g2, r2, g3, g5]
        unfold rdGrp
        rw [if_neg (by rintro (h | h); · omega
                       · exact q2 h), if_pos q1, v0, a0, x0, g4, ew]
        refine rdO_eq ?_ ?_
        · congr 1; omega
        · rw [hq, e]; simp
      · rename_i n4
        split at hs
        ·
          rename_i h5
          simp only [Bool.and_eq_true, decide_eq_true_eq] at hs
          obtain ⟨hw, rfl, rfl, rfl, rfl, rfl⟩ := hs
          have ew := w_back hw
          obtain ⟨c1, c2, c3, c4, c5, c6, c7, c8, c9, c10, c11, c12, u0, u1⟩ := code_group k (.inr (.inr h5))
          obtain ⟨r1, r2, -, -, r3⟩ := grp_ops k (.inr (.inr h5)) (by intro e; rw [e] at h5; revert h5; decide)
          have e : bytesM (k.val : Int) w dst 0 0 0 0 0 = rexM (decide (w = 64)) 0 dst false ++ [codeM (k.val : Int), regsM (numM (k.val : Int)) dst] := by
            simp only [bytesM, h5, show ¬ (5 : Int) = 1 by decide, show ¬ (5 : Int) = 2 by decide, show ¬ (5 : Int) = 6 by decide, show ¬ (5 : Int) = 3 by decide, show ¬ (5 : Int) = 4 by decide, if_false, if_true]
          obtain ⟨q, hq, hd, ha⟩ := all_rex (b := bytesM (k.val : Int) w dst 0 0 0 0 0 ++ t) (wide := decide (w = 64)) (al := false) (t := regsM (numM (k.val : Int)) dst :: t) (r := 0) (by decide) (by decide) d0 d1 (by omega) (by omega) c2 c3 (by rw [e]; simp)
          obtain ⟨g2, g3, g4, g5, g6⟩ := rd_num u0 u1 d0 d1 hd
          obtain ⟨q1, q2, q3⟩ := r3 h5
          rw [ha, case_grp r1, show (0 : Int) / 8 = 0 by decide, g2, r2, g3, g5]
          unfold rdGrp
          rw [if_neg (by rintro (h | h); · exact q1 h
                         · exact q3 h), if_neg q2, g4, ew]
          refine rdO_eq rfl ?_
          rw [hq, e]; simp
        · rename_i n5
          split at hs
          ·
            rename_i h6
            have hk := shape_6 k h6
            rw [hk] at h6 ⊢
            simp only [Bool.and_eq_true, decide_eq_true_eq] at hs
            obtain ⟨⟨hw, rfl, rfl, rfl⟩, hc⟩ := hs
            have ew := w_back hw
            simp only [ccM, decide_eq_true_eq] at hc
            have e : bytesM 25 w dst src 0 0 0 cc = rexM (decide (w = 64)) dst src false ++ [15, 64 + cc, regsM dst src] := by
              simp [bytesM, show shapeM 25 = 6 from rfl]
            obtain ⟨q, hq, hd, ha⟩ := all_rex (b := bytesM 25 w dst src 0 0 0 cc ++ t) (wide := decide (w = 64)) (al := false) (c := 15) (t := (64 + cc) :: regsM dst src :: t) d0 d1 s0 s1 (by decide) (by decide) (by decide) (by decide) (by rw [e]; simp)
            obtain ⟨_, v0, a0, x0, h1⟩ := rd_cons hd
            rw [← a0] at h1
            obtain ⟨g1, g2, g3, g4, g5, _⟩ := rd_two d0 d1 s0 s1 h1
            rw [ha]
            simp only [rdCase, rdBeh]
            rw [v0, g2, g3, g4, x0, g5]
            have ec : IntKind.i8.wrap (IntKind.i64.wrap (64 + cc - 64)) = cc := by rw [w_i64, w_i8]; omega
            rw [ec, if_neg (by decide), if_neg (by decide), if_neg (by decide), if_neg (by decide), if_neg (by decide), if_neg (by decide), if_neg (by decide), if_neg (by decide), if_neg (by decide), if_pos (by decide), if_neg (by omega), if_neg (by omega), if_pos (by omega), a0, ew]
            refine rdO_eq rfl ?_
            rw [hq, e]; simp
          · rename_i n6
            split at hs
            ·
              rename_i h7
              have hk := shape_7 k h7
              rw [hk] at h7 ⊢
              simp only [Bool.and_eq_true, decide_eq_true_eq] at hs
              obtain ⟨hw, rfl, rfl, rfl⟩ := hs
              have e : bytesM 26 w dst 0 base disp 0 0 = rexM (decide (w = 64)) dst base false ++ ((if w = 8 then [15, 182] else if w = 16 then [15, 183] else [139]) ++ memM dst base disp) := by
                simp [bytesM, show shapeM 26 = 7 from rfl]
              rcases width_cases hw with rfl | rfl | rfl | rfl
              · rw [if_pos rfl] at e
                obtain ⟨q, hq, hd, ha⟩ := all_rex (b := bytesM 26 8 dst 0 base disp 0 0 ++ t) (wide := decide ((8 : Int) = 64)) (al := false) (c := 15) (t := 182 :: (memM dst base disp ++ t)) d0 d1 b0 b1 (by decide) (by decide) (by decide) (by decide) (by rw [e]; simp)
                obtain ⟨_, v0, a0, x0, h1⟩ := rd_cons hd
                rw [← a0] at h1
                obtain ⟨g0, g1, g2, g3, g4, g5, g6⟩ := rd_mem d0 d1 b0 b1 p0 p1 h1
                rw [ha]
                simp only [rdCase, rdBeh]
                rw [v0, g2, g3, g4, x0, g6, g5, a0]
                simp
                rw [hq, e]; simp
                omega
              · rw [if_neg (by decide), if_pos rfl] at e
                obtain ⟨q, hq, hd, ha⟩ := all_rex (b := bytesM 26 16 dst 0 base disp 0 0 ++ t) (wide := decide ((16 : Int) = 64)) (al := false) (c := 15) (t := 183 :: (memM dst base disp ++ t)) d0 d1 b0 b1 (by decide) (by decide) (by decide) (by decide) (by rw [e]; simp)
                obtain ⟨_, v0, a0, x0, h1⟩ := rd_cons hd
                rw [← a0] at h1
                obtain ⟨g0, g1, g2, g3, g4, g5, g6⟩ := rd_mem d0 d1 b0 b1 p0 p1 h1
                rw [ha]
                simp only [rdCase, rdBeh]
                rw [v0, g2, g3, g4, x0, g6, g5, a0]
                simp
                rw [hq, e]; simp
                omega
              · rw [if_neg (by decide), if_neg (by decide)] at e
                obtain ⟨q, hq, hd, ha⟩ := all_rex (b := bytesM 26 32 dst 0 base disp 0 0 ++ t) (wide := decide ((32 : Int) = 64)) (al := false) (c := 139) (t := memM dst base disp ++ t) d0 d1 b0 b1 (by decide) (by decide) (by decide) (by decide) (by rw [e]; simp)
                obtain ⟨g0, g1, g2, g3, g4, g5, g6⟩ := rd_mem d0 d1 b0 b1 p0 p1 hd
                rw [ha]
                simp only [rdCase]
                rw [g2, g3, g4, g6, g5]
                simp
                rw [hq, e]; simp
                omega
              · rw [if_neg (by decide), if_neg (by decide)] at e
                obtain ⟨q, hq, hd, ha⟩ := all_rex (b := bytesM 26 64 dst 0 base disp 0 0 ++ t) (wide := decide ((64 : Int) = 64)) (al := false) (c := 139) (t := memM dst base disp ++ t) d0 d1 b0 b1 (by decide) (by decide) (by decide) (by decide) (by rw [e]; simp)
                obtain ⟨g0, g1, g2, g3, g4, g5, g6⟩ := rd_mem d0 d1 b0 b1 p0 p1 hd
                rw [ha]
                simp only [rdCase]
                rw [g2, g3, g4, g6, g5]
                simp
                rw [hq, e]; simp
                omega
            · rename_i n7
              split at hs
              ·
                rename_i h8
                have hk := shape_8 k h8
                rw [hk] at h8 ⊢
                simp only [Bool.and_eq_true, decide_eq_true_eq] at hs
                obtain ⟨hw, rfl, rfl, rfl⟩ := hs
                have e : bytesM 27 w 0 src base disp 0 0 = (if w = 16 then [102] else []) ++ (rexM (decide (w = 64)) src base (decide (w = 8)) ++ ((if w = 8 then [136] else [137]) ++ memM src base disp)) := by
                  simp [bytesM, show shapeM 27 = 8 from rfl]
                rcases width_cases hw with rfl | rfl | rfl | rfl
                · rw [if_neg (by decide), if_pos rfl, List.nil_append] at e
                  obtain ⟨q, hq, hd, ha⟩ := all_rex (b := bytesM 27 8 0 src base disp 0 0 ++ t) (wide := decide ((8 : Int) = 64)) (al := decide ((8 : Int) = 8)) (c := 136) (t := memM src base disp ++ t) s0 s1 b0 b1 (by decide) (by decide) (by decide) (by decide) (by rw [e]; simp)
                  obtain ⟨g0, g1, g2, g3, g4, g5, g6⟩ := rd_mem s0 s1 b0 b1 p0 p1 hd
                  rw [ha]
                  simp only [rdCase]
                  rw [g2, g3, g4, g6, g5]
                  simp
                  rw [hq, e]; simp
                  omega
                · rw [if_pos rfl, if_neg (by decide)] at e
                  obtain ⟨q, hq, hd, ha⟩ := all_half (b := bytesM 27 16 0 src base disp 0 0 ++ t) (wide := decide ((16 : Int) = 64)) (al := decide ((16 : Int) = 8)) (c := 137) (t := memM src base disp ++ t) s0 s1 b0 b1 (by decide) (by decide) (by decide) (by rw [e]; simp)
                  obtain ⟨g0, g1, g2, g3, g4, g5, g6⟩ := rd_mem s0 s1 b0 b1 p0 p1 hd
                  rw [ha]
                  simp only [rdCase]
                  rw [g2, g3, g4, g6, g5, if_pos trivial, if_pos ⟨g0, g1⟩]
                  refine rdO_eq rfl ?_
                  rw [hq, e]; simp
                  omega
                · rw [if_neg (by decide), if_neg (by decide), List.nil_append] at e
                  obtain ⟨q, hq, hd, ha⟩ := all_rex (b := bytesM 27 32 0 src base disp 0 0 ++ t) (wide := decide ((32 : Int) = 64)) (al := decide ((32 : Int) = 8)) (c := 137) (t := memM src base disp ++ t) s0 s1 b0 b1 (by decide) (by decide) (by decide) (by decide) (by rw [e]; simp)
                  obtain ⟨g0, g1, g2, g3, g4, g5, g6⟩ := rd_mem s0 s1 b0 b1 p0 p1 hd
                  rw [ha]
                  simp only [rdCase]
                  rw [g2, g3, g4, g6, g5, if_pos trivial, if_pos ⟨g0, g1⟩]
                  refine rdO_eq rfl ?_
                  rw [hq, e]; simp
                  omega
                · rw [if_neg (by decide), if_neg (by decide), List.nil_append] at e
                  obtain ⟨q, hq, hd, ha⟩ := all_rex (b := bytesM 27 64 0 src base disp 0 0 ++ t) (wide := decide ((64 : Int) = 64)) (al := decide ((64 : Int) = 8)) (c := 137) (t := memM src base disp ++ t) s0 s1 b0 b1 (by decide) (by decide) (by decide) (by decide) (by rw [e]; simp)
                  obtain ⟨g0, g1, g2, g3, g4, g5, g6⟩ := rd_mem s0 s1 b0 b1 p0 p1 hd
                  rw [ha]
                  simp only [rdCase]
                  rw [g2, g3, g4, g6, g5, if_pos trivial, if_pos ⟨g0, g1⟩]
                  refine rdO_eq rfl ?_
                  rw [hq, e]; simp
                  omega
              · rename_i n8
                split at hs
                ·
                  rename_i h9
                  have hk := shape_9 k h9
                  rw [hk] at h9 ⊢
                  simp only [Bool.and_eq_true, decide_eq_true_eq, jumpM] at hs
                  obtain ⟨hw, rfl, rfl, rfl, rfl, rfl⟩ := hs
                  have e : bytesM 28 w 0 0 0 0 imm 0 = if w = 8 then [235, imm % 256] else 233 :: fourM imm := by
                    simp [bytesM, show shapeM 28 = 9 from rfl]
                  rcases hw with rfl | ⟨rfl, j0, j1⟩
                  · rw [if_neg (by decide)] at e
                    obtain ⟨hd, ha⟩ := all_bare (b := bytesM 28 32 0 0 0 0 imm 0 ++ t) (c := 233) (t := fourM imm ++ t) (by decide) (by decide) (by decide) (by decide) (by rw [e]; simp)
                    obtain ⟨f1, f2, f3, f4⟩ := rd_four i0 i1 hd
                    rw [ha]
                    simp only [rdCase]
                    rw [f1, f2, f3]
                    simp
                    rw [e]; simp [fourM]
                  · rw [if_pos rfl] at e
                    obtain ⟨hd, ha⟩ := all_bare (b := bytesM 28 8 0 0 0 0 imm 0 ++ t) (c := 235) (t := (imm % 256) :: t) (by decide) (by decide) (by decide) (by decide) (by rw [e]; simp)
                    obtain ⟨_, v0, a0, x0, _⟩ := rd_cons hd
                    rw [ha]
                    simp only [rdCase, rdN1]
                    rw [v0, a0, x0]
                    have ei : IntKind.i8.wrap (imm % 256) = imm := by rw [w_i8]; omega
                    rw [ei]
                    simp
                    rw [e]; simp
                · rename_i n9
                  split at hs
                  ·
                    rename_i h10
                    have hk := shape_10 k h10
                    rw [hk] at h10 ⊢
                    simp only [Bool.and_eq_true, decide_eq_true_eq, jumpM] at hs
                    obtain ⟨⟨hw, rfl, rfl, rfl, rfl⟩, hc⟩ := hs
                    simp only [ccM, decide_eq_true_eq] at hc
                    have e : bytesM 29 w 0 0 0 0 imm cc = if w = 8 then [112 + cc, imm % 256] else 15 :: (128 + cc) :: fourM imm := by
                      simp [bytesM, show shapeM 29 = 10 from rfl]
                    rcases hw with rfl | ⟨rfl, j0, j1⟩
                    · rw [if_neg (by decide)] at e
                      obtain ⟨hd, ha⟩ := all_bare (b := bytesM 29 32 0 0 0 0 imm cc ++ t) (c := 15) (t := (128 + cc) :: (fourM imm ++ t)) (by decide) (by decide) (by decide) (by decide) (by rw [e]; simp)
                      obtain ⟨_, v0, a0, x0, h1⟩ := rd_cons hd
                      rw [← a0] at h1
                      obtain ⟨f1, f2, f3, f4⟩ := rd_four i0 i1 h1
                      rw [ha]
                      simp only [rdCase, rdBeh]
                      rw [v0, f1, f2, f3, x0]
                      have ec : IntKind.i8.wrap (IntKind.i64.wrap (128 + cc - 128)) = cc := by rw [w_i64, w_i8]; omega
                      rw [ec, if_neg (by decide), if_neg (by decide), if_neg (by decide), if_neg (by decide), if_neg (by decide), if_neg (by decide), if_neg (by decide), if_neg (by decide), if_neg (by decide), if_pos (by decide), if_neg (by omega), if_neg (by omega), if_neg (by omega), if_pos (by omega), a0]
                      refine rdO_eq rfl ?_
                      rw [e]; simp [fourM]
                    · rw [if_pos rfl] at e
                      obtain ⟨hd, ha⟩ := all_bare (b := bytesM 29 8 0 0 0 0 imm cc ++ t) (c := 112 + cc) (t := (imm % 256) :: t) (by omega) (by omega) (by omega) (by omega) (by rw [e]; simp)
                      obtain ⟨_, v0, a0, x0, _⟩ := rd_cons hd
                      rw [ha]
                      simp only [rdCase]
                      rw [if_neg (by omega), if_neg (by omega), if_neg (by omega), if_neg (by omega), if_neg (by omega), if_neg (by omega), if_neg (by omega), if_neg (by omega), if_neg (by omega), if_neg (by omega)]
                      unfold rdRan rdN1
                      rw [if_pos (by omega), v0, a0, x0]
                      have ei : IntKind.i8.wrap (imm % 256) = imm := by rw [w_i8]; omega
                      have ec : IntKind.i8.wrap (IntKind.i64.wrap (112 + cc - 112)) = cc := by rw [w_i64, w_i8]; omega
                      rw [ei, ec]
                      refine rdO_eq rfl ?_
                      rw [e]; simp
                  · rename_i n10
                    split at hs
                    · rename_i h11
                      simp only [decide_eq_true_eq] at hs
                      obtain ⟨rfl, rfl, rfl, rfl, rfl, rfl, rfl⟩ := hs
                      rcases shape_11 k h11 with hk | hk <;> rw [hk]
                      · have e : bytesM 30 0 0 0 0 0 0 0 = [195] := rfl
                        obtain ⟨hd, ha⟩ := all_bare (b := bytesM 30 0 0 0 0 0 0 0 ++ t) (c := 195) (t := t) (by decide) (by decide) (by decide) (by decide) (by rw [e]; rfl)
                        rw [ha]
                        simp only [rdCase]
                        simp
                        rw [e]; rfl
                      · have e : bytesM 31 0 0 0 0 0 0 0 = [15, 5] := rfl
                        obtain ⟨hd, ha⟩ := all_bare (b := bytesM 31 0 0 0 0 0 0 0 ++ t) (c := 15) (t := 5 :: t) (by decide) (by decide) (by decide) (by decide) (by rw [e]; rfl)
                        obtain ⟨_, v0, a0, x0, h1⟩ := rd_cons hd
                        rw [ha]
                        simp only [rdCase, rdBeh]
                        rw [v0, a0, x0]
                        simp
                        rw [e]; rfl
                    · cases hs
theorem doc_read (b : List Int) : docX b = readM b := by
 unfold readM
 by_cases hf : fitsX b (decM b) = true
 ·rw [if_pos hf]
  have h := hf
  unfold fitsX at h
  rw [Bool.and_eq_true, List.isPrefixOf_iff_prefix] at h
  obtain ⟨hm, t, ht⟩ := h
  have e : rdAll b = ⟨decM b, (bytesXS (decM b)).length, false⟩ := by
   have := rd_back hm t
   rw [show bytesM (decM b).op (decM b).w (decM b).dst (decM b).src (decM b).base (decM b).disp (decM b).imm (decM b).cc = bytesXS (decM b) from rfl, ht] at this
   exact this
  unfold docX
  simp only [e]
  have ht2 : bytesXS (decM b) = b.take (bytesXS (decM b)).length := by
   have := congrArg (List.take (bytesXS (decM b)).length) ht
   rw [List.take_left] at this
   exact this
  rw [if_pos ⟨trivial, hm, trivial, ht2⟩]
 ·rw [if_neg hf]
  unfold docX
  simp only
  split
  ·rename_i h
   obtain ⟨_, h1, h2, h3⟩ := h
   have : fitsX b (rdAll b).x = true := by
    unfold fitsX
    rw [Bool.and_eq_true, List.isPrefixOf_iff_prefix]
    exact ⟨h1, by rw [h3]; exact List.take_prefix _ _⟩
   exact absurd (by rw [(fits_back this).1]; exact this) hf
  ·rfl
end Go.Ev

namespace Go.Proofs.YtcngafhpodeenaaGreat
open Go Go.Ev
set_option maxRecDepth 100000
abbrev rqTT (b : List Int) (n : Int) (half : Bool) : List D := ((.lst .no 1 (bD b)) :: (.undef) :: (.ptr false 0 0) :: (.undef) :: (.undef) :: (.ptr false 1 0) :: (.ptr false 2 0) :: (.int .i64 n) :: (.bool half) :: (un 19 ++ (.int .i64 n) :: (un 200)))
abbrev rqU (b : List Int) : List D := ((.lst .no 1 (bD b)) :: (.undef) :: (.ptr false 0 0) :: (.undef) :: (.undef) :: (.ptr false 1 0) :: (.ptr false 2 0) :: (un 222))
abbrev rqB (b : List Int) (at_ : Int) (bad w : Bool) (rr mm : Int) (x : List D) : List Ob := [.box [.int .i8 0, .int .i8 0, .int .i8 0, .int .i8 0, .int .i8 0, .int .i64 0, .int .i64 0, .int .i8 0], .box [.lst .no 1 (bD b), .int .i64 at_, .bool bad, .bool w, .int .i8 rr, .int .i8 mm], .box x]
abbrev rqX (op w dst src base disp imm cc : Int) : List D := [.int .i8 op, .int .i8 w, .int .i8 dst, .int .i8 src, .int .i8 base, .int .i64 disp, .int .i64 imm, .int .i8 cc]
abbrev rqR (b : List Int) (r : RdO) (w : Bool) (rr mm : Int) : List Ob := rqB b (r.at_ : Int) r.bad w rr mm (rqX r.x.op r.x.w r.x.dst r.x.src r.x.base r.x.disp r.x.imm r.x.cc)
theorem low8i (a : Int) : IntKind.i8.wrap ((BitVec.ofInt 8 a &&& BitVec.ofInt 8 7).toNat : Int) = a % 8 := by
 have := low8 a
 rw [w_u8] at this
 rw [← this]
 have h : 0 ≤ ((BitVec.ofInt 8 a &&& BitVec.ofInt 8 7).toNat : Int) ∧ ((BitVec.ofInt 8 a &&& BitVec.ofInt 8 7).toNat : Int) < 256 := by
  have := (BitVec.ofInt 8 a &&& BitVec.ofInt 8 7).isLt
  omega
 congr 1
 omega
theorem bD_at {b : List Int} {k : Nat} (h : k < b.length) : (bD b)[Int.toNat (k : Int)]? = some (.int .u8 (rdV b k)) := by
 rw [Int.toNat_natCast]
 unfold rdV bD
 simp [h, List.getD_eq_getElem?_getD]
set_option maxHeartbeats 2000000 in
theorem rd_blk (b : List Int) (hb : isB b) (hl : b.length ≤ 1000) (k : Nat) (bad w half : Bool) (rr mm W n : Int) (n0 : 0 ≤ n) (n1 : n ≤ 255) :
    RoundRun Tryz.prog (blockB Tryz.f10 0) ⟨[0, 2, 5, 6], [0, 1, 2], []⟩ 3 (rqTT b n half) (rqB b (k : Int) bad w rr mm (rqX (-1) W 0 0 0 0 0 0)) .norm (rqU b) (rqR b (rdCase b n half W rr mm k bad) w rr mm) := by
  have hv := rdV_rng hb k
  have hl1 := len_bD b
  by_cases c : n = 137
  · subst c
    by_cases hk : k < b.length
    · have hx := bD_at hk
      by_cases h : rdV b k < 192
      · cases half
        · have := rc137m0 b hb hl k bad w false rr mm W hv.1 hv.2 (by omega) hx h
          rw [show rdCase b 137 false W rr mm k bad = ⟨⟨27, W, 0, rdHi (rdV b k) rr, rdLo (rdV b k) mm, rdN4 b (rdMk b k), 0, 0⟩, rdA4 b (rdMk b k), rdX4 b (rdMk b k) (rdMx b k bad)⟩ by simp [rdCase, hk, h]]
          exact this
        · have := rc137m1 b hb hl k bad w true rr mm W hv.1 hv.2 (by omega) hx h
          rw [show rdCase b 137 true W rr mm k bad = ⟨⟨27, 16, 0, rdHi (rdV b k) rr, rdLo (rdV b k) mm, rdN4 b (rdMk b k), 0, 0⟩, rdA4 b (rdMk b k), rdX4 b (rdMk b k) (rdMx b k bad)⟩ by simp [rdCase, hk, h]]
          exact this
      · have := rc137d b hb hl k bad w half rr mm W hv.1 hv.2 (by omega) hx (by omega)
        rw [show rdCase b 137 half W rr mm k bad = ⟨⟨0, W, rdLo (rdV b k) mm, rdHi (rdV b k) rr, 0, 0, 0, 0⟩, rdA b k, rd2X b k bad⟩ by simp [rdCase, h]]
        exact this
    · have := rc137e b hb hl k bad w half rr mm W hv.1 hv.2 (by omega)
      rw [show rdCase b 137 half W rr mm k bad = ⟨⟨0, W, rdLo (rdV b k) mm, rdHi (rdV b k) rr, 0, 0, 0, 0⟩, rdA b k, rd2X b k bad⟩ by simp [rdCase, hk]]
      exact this
  by_cases c1 : n = 1
  · subst c1; rw [show rdCase b 1 half W rr mm k bad = ⟨⟨2, W, rdLo (rdV b k) mm, rdHi (rdV b k) rr, 0, 0, 0, 0⟩, rdA b k, rd2X b k bad⟩ by simp [rdCase, pairO]]; exact rcp1 b hb hl k bad w half rr mm W hv.1 hv.2
  by_cases c9 : n = 9
  · subst c9; rw [show rdCase b 9 half W rr mm k bad = ⟨⟨3, W, rdLo (rdV b k) mm, rdHi (rdV b k) rr, 0, 0, 0, 0⟩, rdA b k, rd2X b k bad⟩ by simp [rdCase, pairO]]; exact rcp9 b hb hl k bad w half rr mm W hv.1 hv.2
  by_cases c33 : n = 33
  · subst c33; rw [show rdCase b 33 half W rr mm k bad = ⟨⟨4, W, rdLo (rdV b k) mm, rdHi (rdV b k) rr, 0, 0, 0, 0⟩, rdA b k, rd2X b k bad⟩ by simp [rdCase, pairO]]; exact rcp33 b hb hl k bad w half rr mm W hv.1 hv.2
  by_cases c41 : n = 41
  · subst c41; rw [show rdCase b 41 half W rr mm k bad = ⟨⟨5, W, rdLo (rdV b k) mm, rdHi (rdV b k) rr, 0, 0, 0, 0⟩, rdA b k, rd2X b k bad⟩ by simp [rdCase, pairO]]; exact rcp41 b hb hl k bad w half rr mm W hv.1 hv.2
  by_cases c49 : n = 49
  · subst c49; rw [show rdCase b 49 half W rr mm k bad = ⟨⟨6, W, rdLo (rdV b k) mm, rdHi (rdV b k) rr, 0, 0, 0, 0⟩, rdA b k, rd2X b k bad⟩ by simp [rdCase, pairO]]; exact rcp49 b hb hl k bad w half rr mm W hv.1 hv.2
  by_cases c57 : n = 57
  · subst c57; rw [show rdCase b 57 half W rr mm k bad = ⟨⟨7, W, rdLo (rdV b k) mm, rdHi (rdV b k) rr, 0, 0, 0, 0⟩, rdA b k, rd2X b k bad⟩ by simp [rdCase, pairO]]; exact rcp57 b hb hl k bad w half rr mm W hv.1 hv.2
  by_cases c133 : n = 133
  · subst c133; rw [show rdCase b 133 half W rr mm k bad = ⟨⟨8, W, rdLo (rdV b k) mm, rdHi (rdV b k) rr, 0, 0, 0, 0⟩, rdA b k, rd2X b k bad⟩ by simp [rdCase, pairO]]; exact rcp133 b hb hl k bad w half rr mm W hv.1 hv.2
  have hg : ∀ base : Int, (base = 129 ∨ base = 193 ∨ base = 211 ∨ base = 247) → Ret Tryz.prog 20 [.int .i64 base, .int .i8 (IntKind.i8.wrap ((BitVec.ofInt 8 (rdHi (rdV b k) rr) &&& BitVec.ofInt 8 7).toNat : Int))] (.int .i8 (groupM base (rdHi (rdV b k) rr % 8))) := by
    intro base h
    rw [low8i]
    exact group_ok h (by omega) (by omega)
  by_cases c129 : n = 129
  · subst c129
    rw [case_grp (.inl rfl)]
    have := rcg129 b hb hl k bad w half rr mm W hv.1 hv.2 _ (hg 129 (by decide))
    unfold rdGrp
    rw [if_pos (.inl rfl)]
    exact this
  by_cases c193 : n = 193
  · subst c193
    have ho : groupM 193 (rdHi (rdV b k) rr % 8) ≠ 15 := groupM_n15 (.inl rfl) (by omega) (by omega)
    rw [case_grp (.inr (.inl rfl))]
    have := rcg193 b hb hl k bad w half rr mm W hv.1 hv.2 _ (hg 193 (by decide)) ho
    unfold rdGrp
    rw [if_neg (by rintro (h | h); · omega
                   · exact ho h), if_pos rfl]
    exact this
  by_cases c211 : n = 211
  · subst c211
    have ho : groupM 211 (rdHi (rdV b k) rr % 8) ≠ 15 := groupM_n15 (.inr rfl) (by omega) (by omega)
    rw [case_grp (.inr (.inr (.inl rfl)))]
    have := rcg211 b hb hl k bad w half rr mm W hv.1 hv.2 _ (hg 211 (by decide)) ho
    unfold rdGrp
    rw [if_neg (by rintro (h | h); · omega
                   · exact ho h), if_neg (by decide)]
    exact this
  by_cases c247 : n = 247
  · subst c247
    rw [case_grp (.inr (.inr (.inr rfl)))]
    have hq := hg 247 (by decide)
    by_cases ho : groupM 247 (rdHi (rdV b k) rr % 8) = 15
    · rw [ho] at hq ⊢
      have := rcg247y b hb hl k bad w half rr mm W hv.1 hv.2 hq
      unfold rdGrp
      rw [if_pos (.inr rfl)]
      exact this
    · have := rcg247n b hb hl k bad w half rr mm W hv.1 hv.2 _ hq ho
      unfold rdGrp
      rw [if_neg (by rintro (h | h); · omega
                     · exact ho h), if_neg (by decide)]
      exact this
  by_cases c199 : n = 199
  · subst c199; rw [show rdCase b 199 half W rr mm k bad = ⟨⟨1, W, rdLo (rdV b k) mm, 0, 0, 0, rdN4 b (rdA b k), 0⟩, rdA4 b (rdA b k), rdX4 b (rdA b k) (rd2X b k bad)⟩ by simp [rdCase]]; exact rc199 b hb hl k bad w half rr mm W hv.1 hv.2
  by_cases c139 : n = 139
  · subst c139; rw [show rdCase b 139 half W rr mm k bad = ⟨⟨26, W, rdHi (rdV b k) rr, 0, rdLo (rdV b k) mm, rdN4 b (rdMk b k), 0, 0⟩, rdA4 b (rdMk b k), rdX4 b (rdMk b k) (rdMx b k bad)⟩ by simp [rdCase]]; exact rc139 b hb hl k bad w half rr mm W hv.1 hv.2
  by_cases c136 : n = 136
  · subst c136; rw [show rdCase b 136 half W rr mm k bad = ⟨⟨27, 8, 0, rdHi (rdV b k) rr, rdLo (rdV b k) mm, rdN4 b (rdMk b k), 0, 0⟩, rdA4 b (rdMk b k), rdX4 b (rdMk b k) (rdMx b k bad)⟩ by simp [rdCase]]; exact rc136 b hb hl k bad w half rr mm W hv.1 hv.2
  by_cases c235 : n = 235
  · subst c235; rw [show rdCase b 235 half W rr mm k bad = ⟨⟨28, 8, 0, 0, 0, 0, rdN1 b k, 0⟩, rdA b k, rdX b k bad⟩ by simp [rdCase]]; exact rc235 b hb hl k bad w half rr mm W hv.1 hv.2
  by_cases c233 : n = 233
  · subst c233; rw [show rdCase b 233 half W rr mm k bad = ⟨⟨28, W, 0, 0, 0, 0, rdN4 b k, 0⟩, rdA4 b k, rdX4 b k bad⟩ by simp [rdCase]]; exact rc233 b hb hl k bad w half rr mm W hv.1 hv.2
  by_cases c195 : n = 195
  · subst c195; rw [show rdCase b 195 half W rr mm k bad = ⟨⟨30, 0, 0, 0, 0, 0, 0, 0⟩, k, bad⟩ by simp [rdCase]]; exact rc195 b hb hl k bad w half rr mm W hv.1 hv.2
  by_cases c15 : n = 15
  · subst c15
    rw [show rdCase b 15 half W rr mm k bad = rdBeh b W rr mm k bad by simp [rdCase]]
    unfold rdBeh
    by_cases h175 : rdV b k = 175
    · simp only [if_pos h175]; exact rcb_mul b hb hl k bad w half rr mm W hv.1 hv.2 h175
    by_cases h5 : rdV b k = 5
    · simp only [if_neg h175, if_pos h5]; exact rcb_host b hb hl k bad w half rr mm W hv.1 hv.2 h5
    by_cases h64 : 64 ≤ rdV b k ∧ rdV b k < 80
    · simp only [if_neg h175, if_neg h5, if_pos h64]; exact rcb_cmov b hb hl k bad w half rr mm W hv.1 hv.2 h64.1 h64.2
    by_cases h128 : 128 ≤ rdV b k ∧ rdV b k < 144
    · simp only [if_neg h175, if_neg h5, if_neg h64, if_pos h128]; exact rcb_jcc b hb hl k bad w half rr mm W hv.1 hv.2 h128.1 h128.2
    by_cases h182 : rdV b k = 182
    · simp only [if_neg h175, if_neg h5, if_neg h64, if_neg h128, if_pos h182]; exact rcb_l8 b hb hl k bad w half rr mm W hv.1 hv.2 h182
    by_cases h183 : rdV b k = 183
    · simp only [if_neg h175, if_neg h5, if_neg h64, if_neg h128, if_neg h182, if_pos h183]; exact rcb_l16 b hb hl k bad w half rr mm W hv.1 hv.2 h183
    simp only [if_neg h175, if_neg h5, if_neg h64, if_neg h128, if_neg h182, if_neg h183]
    exact rcb_no b hb hl k bad w half rr mm W hv.1 hv.2 h175 h5 h182 h183 (by omega) (by omega)
  have e : rdCase b n half W rr mm k bad = rdRan b n W mm k bad := by
    simp only [rdCase]
    rw [if_neg c, if_neg (by omega), if_neg (by omega), if_neg c199, if_neg c139, if_neg c136, if_neg c235, if_neg c233, if_neg c195, if_neg c15]
  rw [e]
  unfold rdRan
  by_cases h112 : 112 ≤ n ∧ n < 128
  · simp only [if_pos h112]; exact rcr_jcc b hb hl k bad w half rr mm W hv.1 hv.2 n n0 n1 h112.1 h112.2
  by_cases h184 : 184 ≤ n ∧ n < 192
  · simp only [if_neg h112, if_pos h184]; exact rcr_mov b hb hl k bad w half rr mm W hv.1 hv.2 n n0 n1 h184.1 h184.2
  simp only [if_neg h112, if_neg h184]
  exact rcr_no b hb hl k bad w half rr mm W hv.1 hv.2 n n0 n1 (by omega) (by omega) c c1 c9 c33 c41 c49 c57 c133 c129 c193 c211 c247 c199 c139 c136 c235 c233 c195 c15
abbrev rqT (b : List Int) : List D := rqTT b (prN b 0) (rdV b 0 == 102)
abbrev rqS (b : List Int) (w : Bool) (W : Int) : List Ob := rqB b (prK b 0 : Int) (prX b 0 false) w (prR b 0) (prM b 0) (rqX (-1) W 0 0 0 0 0 0)
abbrev rqO (b : List Int) (at_ : Nat) (w bad : Bool) (op wd dst src base disp imm cc : Int) : List Ob := rqB b (at_ : Int) bad w (prR b 0) (prM b 0) (rqX op wd dst src base disp imm cc)
theorem blk_id {n0 : Nat} {c : Code} {t : List D} {s : List Ob} {ex : Ex} {t' : List D} {s' : List Ob} (h : LoopRun Tryz.prog n0 c t s ex t' s') : LoopRun Tryz.prog n0 c t s ex t' s' := h
theorem prefix0_ok (X0 X2 : List D) (b : List Int) (hb : isB b) (hl : b.length ≤ 1000) : CallRun Tryz.prog 16 [.ptr false 1 0] [.box X0, .box [.lst .no 1 (bD b), .int .i64 0, .bool false, .bool false, .int .i8 0, .int .i8 0], .box X2] (.tup [.int .i64 (prN b 0), .bool (rdV b 0 == 102)]) (rdS X0 X2 b (prK b 0) (prX b 0 false) (prW b 0) (prR b 0) (prM b 0)) :=
 prefix_ok X0 X2 b hb hl 0 false
end Go.Proofs.YtcngafhpodeenaaGreat

namespace Go.Proofs.YtcngafhpodeenaaGreat
open Go Go.Ev
set_option maxRecDepth 100000
set_option maxHeartbeats 8000000
theorem dr0_bad_ok (b : List Int) (hb : isB b) (hl : b.length ≤ 1000) (hw : prW b 0 = false) (at_ : Nat) (op w dst src base disp imm cc : Int) (hx : LoopRun Tryz.prog 3 (blockB Tryz.f10 0) (rqT b) (rqS b (prW b 0) 32) .norm (rqU b) (rqO b at_ (prW b 0) true op w dst src base disp imm cc))  : Ret Tryz.prog 10 ([.lst .no 1 (bD b)]) (.tup [xD 0 0 0 0 0 0 0 0, .int .i64 0, .int .i64 30]) := by
 have c0 := blk_id hx
 exact (o10 (d := .tup [(xD 0 0 0 0 0 0 0 0), .int .i64 0, .int .i64 30]) [.callR _ _ _ _ _ (@prefix0_ok (zX) ((xC (-1) 32 0 0 0 0 0 0)) b hb hl), tC hw, .blk ⟨[0, 2, 5, 6, 7, 8, 28], [0, 1, 2], []⟩ _ _ _ _ _ _ _ c0, tF, tF, tF, tT, tT] (by kernel_rfl)).to (by first | rfl | (simp [wk]; done) | (simp [wk, wkL, xD]; done) | (simp [wk, wkL]; done))
theorem dr0_may_ok (b : List Int) (hb : isB b) (hl : b.length ≤ 1000) (hw : prW b 0 = false) (at_ : Nat) (op w dst src base disp imm cc : Int) (hx : LoopRun Tryz.prog 3 (blockB Tryz.f10 0) (rqT b) (rqS b (prW b 0) 32) .norm (rqU b) (rqO b at_ (prW b 0) false op w dst src base disp imm cc)) (hm : Ret Tryz.prog 25 [xD op w dst src base disp imm cc] (.bool false))  : Ret Tryz.prog 10 ([.lst .no 1 (bD b)]) (.tup [xD 0 0 0 0 0 0 0 0, .int .i64 0, .int .i64 30]) := by
 have c0 := blk_id hx
 exact (o10 (d := .tup [(xD 0 0 0 0 0 0 0 0), .int .i64 0, .int .i64 30]) [.callR _ _ _ _ _ (@prefix0_ok (zX) ((xC (-1) 32 0 0 0 0 0 0)) b hb hl), tC hw, .blk ⟨[0, 2, 5, 6, 7, 8, 28], [0, 1, 2], []⟩ _ _ _ _ _ _ _ c0, tT, tT, .ret _ _ _ hm, tT, tF, tT] (by kernel_rfl)).to (by first | rfl | (simp [wk]; done) | (simp [wk, wkL, xD]; done) | (simp [wk, wkL]; done))
theorem dr0_len_ok (b : List Int) (hb : isB b) (hl : b.length ≤ 1000) (hw : prW b 0 = false) (at_ : Nat) (op w dst src base disp imm cc : Int) (hx : LoopRun Tryz.prog 3 (blockB Tryz.f10 0) (rqT b) (rqS b (prW b 0) 32) .norm (rqU b) (rqO b at_ (prW b 0) false op w dst src base disp imm cc)) (hm : Ret Tryz.prog 25 [xD op w dst src base disp imm cc] (.bool true)) (own : List Int) (hbb : Ret Tryz.prog 26 [xD op w dst src base disp imm cc] (.tup [.lst .no 1 (bD own), .int .i64 0])) (he : (((bD own).length : Int) == (at_ : Int)) = false)  : Ret Tryz.prog 10 ([.lst .no 1 (bD b)]) (.tup [xD 0 0 0 0 0 0 0 0, .int .i64 0, .int .i64 30]) := by
 have c0 := blk_id hx
 exact (o10 (d := .tup [(xD 0 0 0 0 0 0 0 0), .int .i64 0, .int .i64 30]) ([.callR _ _ _ _ _ (@prefix0_ok (zX) ((xC (-1) 32 0 0 0 0 0 0)) b hb hl), tC hw, .blk ⟨[0, 2, 5, 6, 7, 8, 28], [0, 1, 2], []⟩ _ _ _ _ _ _ _ c0, tT, tT, .ret _ _ _ hm, tT, tF, tF, .ret _ _ _ hbb] ++ List.replicate 10 (tC (eF (nt he))) ++ [tC (nt he), tT]) (by kernel_rfl)).to (by first | rfl | (simp [wk]; done) | (simp [wk, wkL, xD]; done) | (simp [wk, wkL]; done))
theorem dr0_str_ok (b : List Int) (hb : isB b) (hl : b.length ≤ 1000) (hw : prW b 0 = false) (at_ : Nat) (op w dst src base disp imm cc : Int) (hx : LoopRun Tryz.prog 3 (blockB Tryz.f10 0) (rqT b) (rqS b (prW b 0) 32) .norm (rqU b) (rqO b at_ (prW b 0) false op w dst src base disp imm cc)) (hm : Ret Tryz.prog 25 [xD op w dst src base disp imm cc] (.bool true)) (own : List Int) (hbb : Ret Tryz.prog 26 [xD op w dst src base disp imm cc] (.tup [.lst .no 1 (bD own), .int .i64 0])) (ha : (at_ : Int) ≤ ((bD b).length : Int)) (he : (((bD own).length : Int) == (at_ : Int)) = true) (hs : ((strD (bD own)).toList == (strD (List.take (Int.toNat (at_ : Int)) (bD b))).toList) = false)  : Ret Tryz.prog 10 ([.lst .no 1 (bD b)]) (.tup [xD 0 0 0 0 0 0 0 0, .int .i64 0, .int .i64 30]) := by
 have c0 := blk_id hx
 exact (o10 (d := .tup [(xD 0 0 0 0 0 0 0 0), .int .i64 0, .int .i64 30]) ([.callR _ _ _ _ _ (@prefix0_ok (zX) ((xC (-1) 32 0 0 0 0 0 0)) b hb hl), tC hw, .blk ⟨[0, 2, 5, 6, 7, 8, 28], [0, 1, 2], []⟩ _ _ _ _ _ _ _ c0, tT, tT, .ret _ _ _ hm, tT, tF, tF, .ret _ _ _ hbb, tC (eF (nt he)), tC (eF (nt he)), tC (v := true) (@allB own)] ++ List.replicate 6 (tC (eF (nt he))) ++ [.tst (decide (0 ≤ (↑at_ : Int) ∧ (↑at_ : Int) ≤ (↑(List.length (bD b)) : Int))) true (by ((try simp only [len_bD, sl2] at *); (try unfold big at *); omega)), tC (eF (nt he)), tC (v := true) (@allB_take b (Int.toNat (↑at_ : Int))), tC (eF (nt he)), tC (nt he), tC (nt hs)]) (by kernel_rfl)).to (by first | rfl | (simp [wk]; done) | (simp [wk, wkL, xD]; done) | (simp [wk, wkL]; done))
theorem dr0_ok_ok (b : List Int) (hb : isB b) (hl : b.length ≤ 1000) (hw : prW b 0 = false) (at_ : Nat) (op w dst src base disp imm cc : Int) (hx : LoopRun Tryz.prog 3 (blockB Tryz.f10 0) (rqT b) (rqS b (prW b 0) 32) .norm (rqU b) (rqO b at_ (prW b 0) false op w dst src base disp imm cc)) (hm : Ret Tryz.prog 25 [xD op w dst src base disp imm cc] (.bool true)) (own : List Int) (hbb : Ret Tryz.prog 26 [xD op w dst src base disp imm cc] (.tup [.lst .no 1 (bD own), .int .i64 0])) (ha : (at_ : Int) ≤ ((bD b).length : Int)) (he : (((bD own).length : Int) == (at_ : Int)) = true) (hs : ((strD (bD own)).toList == (strD (List.take (Int.toNat (at_ : Int)) (bD b))).toList) = true)  : Ret Tryz.prog 10 ([.lst .no 1 (bD b)]) (.tup [xD op w dst src base disp imm cc, .int .i64 (at_ : Int), .int .i64 0]) := by
 have c0 := blk_id hx
 exact (o10 (d := .tup [(xD op w dst src base disp imm cc), .int .i64 (↑at_ : Int), .int .i64 0]) ([.callR _ _ _ _ _ (@prefix0_ok (zX) ((xC (-1) 32 0 0 0 0 0 0)) b hb hl), tC hw, .blk ⟨[0, 2, 5, 6, 7, 8, 28], [0, 1, 2], []⟩ _ _ _ _ _ _ _ c0, tT, tT, .ret _ _ _ hm, tT, tF, tF, .ret _ _ _ hbb, tC (eF (nt he)), tC (eF (nt he)), tC (v := true) (@allB own)] ++ List.replicate 6 (tC (eF (nt he))) ++ [.tst (decide (0 ≤ (↑at_ : Int) ∧ (↑at_ : Int) ≤ (↑(List.length (bD b)) : Int))) true (by ((try simp only [len_bD, sl2] at *); (try unfold big at *); omega)), tC (eF (nt he)), tC (v := true) (@allB_take b (Int.toNat (↑at_ : Int))), tC (eF (nt he)), tC (nt he), tC (nt hs)]) (by kernel_rfl)).to (by first | rfl | (simp [wk]; done) | (simp [wk, wkL, xD]; done) | (simp [wk, wkL]; done))
theorem dr1_bad_ok (b : List Int) (hb : isB b) (hl : b.length ≤ 1000) (hw : prW b 0 = true) (at_ : Nat) (op w dst src base disp imm cc : Int) (hx : LoopRun Tryz.prog 3 (blockB Tryz.f10 0) (rqT b) (rqS b (prW b 0) 64) .norm (rqU b) (rqO b at_ (prW b 0) true op w dst src base disp imm cc))  : Ret Tryz.prog 10 ([.lst .no 1 (bD b)]) (.tup [xD 0 0 0 0 0 0 0 0, .int .i64 0, .int .i64 30]) := by
 have c0 := blk_id hx
 exact (o10 (d := .tup [(xD 0 0 0 0 0 0 0 0), .int .i64 0, .int .i64 30]) [.callR _ _ _ _ _ (@prefix0_ok (zX) ((xC (-1) 32 0 0 0 0 0 0)) b hb hl), tC hw, .blk ⟨[0, 2, 5, 6, 7, 8, 28], [0, 1, 2], []⟩ _ _ _ _ _ _ _ c0, tF, tF, tF, tT, tT] (by kernel_rfl)).to (by first | rfl | (simp [wk]; done) | (simp [wk, wkL, xD]; done) | (simp [wk, wkL]; done))
theorem dr1_may_ok (b : List Int) (hb : isB b) (hl : b.length ≤ 1000) (hw : prW b 0 = true) (at_ : Nat) (op w dst src base disp imm cc : Int) (hx : LoopRun Tryz.prog 3 (blockB Tryz.f10 0) (rqT b) (rqS b (prW b 0) 64) .norm (rqU b) (rqO b at_ (prW b 0) false op w dst src base disp imm cc)) (hm : Ret Tryz.prog 25 [xD op w dst src base disp imm cc] (.bool false))  : Ret Tryz.prog 10 ([.lst .no 1 (bD b)]) (.tup [xD 0 0 0 0 0 0 0 0, .int .i64 0, .int .i64 30]) := by
 have c0 := blk_id hx
 exact (o10 (d := .tup [(xD 0 0 0 0 0 0 0 0), .int .i64 0, .int .i64 30]) [.callR _ _ _ _ _ (@prefix0_ok (zX) ((xC (-1) 32 0 0 0 0 0 0)) b hb hl), tC hw, .blk ⟨[0, 2, 5, 6, 7, 8, 28], [0, 1, 2], []⟩ _ _ _ _ _ _ _ c0, tT, tT, .ret _ _ _ hm, tT, tF, tT] (by kernel_rfl)).to (by first | rfl | (simp [wk]; done) | (simp [wk, wkL, xD]; done) | (simp [wk, wkL]; done))
theorem dr1_len_ok (b : List Int) (hb : isB b) (hl : b.length ≤ 1000) (hw : prW b 0 = true) (at_ : Nat) (op w dst src base disp imm cc : Int) (hx : LoopRun Tryz.prog 3 (blockB Tryz.f10 0) (rqT b) (rqS b (prW b 0) 64) .norm (rqU b) (rqO b at_ (prW b 0) false op w dst src base disp imm cc)) (hm : Ret Tryz.prog 25 [xD op w dst src base disp imm cc] (.bool true)) (own : List Int) (hbb : Ret Tryz.prog 26 [xD op w dst src base disp imm cc] (.tup [.lst .no 1 (bD own), .int .i64 0])) (he : (((bD own).length : Int) == (at_ : Int)) = false)  : Ret Tryz.prog 10 ([.lst .no 1 (bD b)]) (.tup [xD 0 0 0 0 0 0 0 0, .int .i64 0, .int .i64 30]) := by
 have c0 := blk_id hx
 exact (o10 (d := .tup [(xD 0 0 0 0 0 0 0 0), .int .i64 0, .int .i64 30]) ([.callR _ _ _ _ _ (@prefix0_ok (zX) ((xC (-1) 32 0 0 0 0 0 0)) b hb hl), tC hw, .blk ⟨[0, 2, 5, 6, 7, 8, 28], [0, 1, 2], []⟩ _ _ _ _ _ _ _ c0, tT, tT, .ret _ _ _ hm, tT, tF, tF, .ret _ _ _ hbb] ++ List.replicate 10 (tC (eF (nt he))) ++ [tC (nt he), tT]) (by kernel_rfl)).to (by first | rfl | (simp [wk]; done) | (simp [wk, wkL, xD]; done) | (simp [wk, wkL]; done))
theorem dr1_str_ok (b : List Int) (hb : isB b) (hl : b.length ≤ 1000) (hw : prW b 0 = true) (at_ : Nat) (op w dst src base disp imm cc : Int) (hx : LoopRun Tryz.prog 3 (blockB Tryz.f10 0) (rqT b) (rqS b (prW b 0) 64) .norm (rqU b) (rqO b at_ (prW b 0) false op w dst src base disp imm cc)) (hm : Ret Tryz.prog 25 [xD op w dst src base disp imm cc] (.bool true)) (own : List Int) (hbb : Ret Tryz.prog 26 [xD op w dst src base disp imm cc] (.tup [.lst .no 1 (bD own), .int .i64 0])) (ha : (at_ : Int) ≤ ((bD b).length : Int)) (he : (((bD own).length : Int) == (at_ : Int)) = true) (hs : ((strD (bD own)).toList == (strD (List.take (Int.toNat (at_ : Int)) (bD b))).toList) = false)  : Ret Tryz.prog 10 ([.lst .no 1 (bD b)]) (.tup [xD 0 0 0 0 0 0 0 0, .int .i64 0, .int .i64 30]) := by
 have c0 := blk_id hx
 exact (o10 (d := .tup [(xD 0 0 0 0 0 0 0 0), .int .i64 0, .int .i64 30]) ([.callR _ _ _ _ _ (@prefix0_ok (zX) ((xC (-1) 32 0 0 0 0 0 0)) b hb hl), tC hw, .blk ⟨[0, 2, 5, 6, 7, 8, 28], [0, 1, 2], []⟩ _ _ _ _ _ _ _ c0, tT, tT, .ret _ _ _ hm, tT, tF, tF, .ret _ _ _ hbb, tC (eF (nt he)), tC (eF (nt he)), tC (v := true) (@allB own)] ++ List.replicate 6 (tC (eF (nt he))) ++ [.tst (decide (0 ≤ (↑at_ : Int) ∧ (↑at_ : Int) ≤ (↑(List.length (bD b)) : Int))) true (by ((try simp only [len_bD, sl2] at *); (try unfold big at *); omega)), tC (eF (nt he)), tC (v := true) (@allB_take b (Int.toNat (↑at_ : Int))), tC (eF (nt he)), tC (nt he), tC (nt hs)]) (by kernel_rfl)).to (by first | rfl | (simp [wk]; done) | (simp [wk, wkL, xD]; done) | (simp [wk, wkL]; done))
theorem dr1_ok_ok (b : List Int) (hb : isB b) (hl : b.length ≤ 1000) (hw : prW b 0 = true) (at_ : Nat) (op w dst src base disp imm cc : Int) (hx : LoopRun Tryz.prog 3 (blockB Tryz.f10 0) (rqT b) (rqS b (prW b 0) 64) .norm (rqU b) (rqO b at_ (prW b 0) false op w dst src base disp imm cc)) (hm : Ret Tryz.prog 25 [xD op w dst src base disp imm cc] (.bool true)) (own : List Int) (hbb : Ret Tryz.prog 26 [xD op w dst src base disp imm cc] (.tup [.lst .no 1 (bD own), .int .i64 0])) (ha : (at_ : Int) ≤ ((bD b).length : Int)) (he : (((bD own).length : Int) == (at_ : Int)) = true) (hs : ((strD (bD own)).toList == (strD (List.take (Int.toNat (at_ : Int)) (bD b))).toList) = true)  : Ret Tryz.prog 10 ([.lst .no 1 (bD b)]) (.tup [xD op w dst src base disp imm cc, .int .i64 (at_ : Int), .int .i64 0]) := by
 have c0 := blk_id hx
 exact (o10 (d := .tup [(xD op w dst src base disp imm cc), .int .i64 (↑at_ : Int), .int .i64 0]) ([.callR _ _ _ _ _ (@prefix0_ok (zX) ((xC (-1) 32 0 0 0 0 0 0)) b hb hl), tC hw, .blk ⟨[0, 2, 5, 6, 7, 8, 28], [0, 1, 2], []⟩ _ _ _ _ _ _ _ c0, tT, tT, .ret _ _ _ hm, tT, tF, tF, .ret _ _ _ hbb, tC (eF (nt he)), tC (eF (nt he)), tC (v := true) (@allB own)] ++ List.replicate 6 (tC (eF (nt he))) ++ [.tst (decide (0 ≤ (↑at_ : Int) ∧ (↑at_ : Int) ≤ (↑(List.length (bD b)) : Int))) true (by ((try simp only [len_bD, sl2] at *); (try unfold big at *); omega)), tC (eF (nt he)), tC (v := true) (@allB_take b (Int.toNat (↑at_ : Int))), tC (eF (nt he)), tC (nt he), tC (nt hs)]) (by kernel_rfl)).to (by first | rfl | (simp [wk]; done) | (simp [wk, wkL, xD]; done) | (simp [wk, wkL]; done))
end Go.Proofs.YtcngafhpodeenaaGreat

namespace Go.Proofs.YtcngafhpodeenaaGreat
open Go Go.Ev
theorem shape_none {op : Int} (h : op < 0 ∨ 32 ≤ op) : shapeM op = 0 ∧ codeM op = 0 ∧ numM op = 0 := by
 refine ⟨?_, ?_, ?_⟩
 ·unfold shapeM; repeat (rw [if_neg (by omega)])
 ·unfold codeM; repeat (rw [if_neg (by omega)])
 ·unfold numM; repeat (rw [if_neg (by omega)])
theorem of_any_ok (op : Int) (ho : op ≤ 127) : Ret Tryz.prog 34 [.int .i8 op] (.tup [.agg [.int .i8 (shapeM op), .int .u8 (codeM op), .int .i8 (numM op)], .bool (decide (0 ≤ op ∧ op ≤ 31))]) := by
 by_cases h1 : op < 0
 ·obtain ⟨e1, e2, e3⟩ := shape_none (.inl h1)
  rw [e1, e2, e3, decide_eq_false (by omega)]
  exact of_low_ok op h1
 ·by_cases h2 : 32 ≤ op
  ·obtain ⟨e1, e2, e3⟩ := shape_none (.inr h2)
   rw [e1, e2, e3, decide_eq_false (by omega)]
   exact of_high_ok op h2 ho
  ·rcases (by omega : op = 0 ∨ op = 1 ∨ op = 2 ∨ op = 3 ∨ op = 4 ∨ op = 5 ∨ op = 6 ∨ op = 7 ∨ op = 8 ∨ op = 9 ∨ op = 10 ∨ op = 11 ∨ op = 12 ∨ op = 13 ∨ op = 14 ∨ op = 15 ∨ op = 16 ∨ op = 17 ∨ op = 18 ∨ op = 19 ∨ op = 20 ∨ op = 21 ∨ op = 22 ∨ op = 23 ∨ op = 24 ∨ op = 25 ∨ op = 26 ∨ op = 27 ∨ op = 28 ∨ op = 29 ∨ op = 30 ∨ op = 31) with rfl | rfl | rfl | rfl | rfl | rfl | rfl | rfl | rfl | rfl | rfl | rfl | rfl | rfl | rfl | rfl | rfl | rfl | rfl | rfl | rfl | rfl | rfl | rfl | rfl | rfl | rfl | rfl | rfl | rfl | rfl | rfl
   ·exact of_0_ok
   ·exact of_1_ok
   ·exact of_2_ok
   ·exact of_3_ok
   ·exact of_4_ok
   ·exact of_5_ok
   ·exact of_6_ok
   ·exact of_7_ok
   ·exact of_8_ok
   ·exact of_9_ok
   ·exact of_10_ok
   ·exact of_11_ok
   ·exact of_12_ok
   ·exact of_13_ok
   ·exact of_14_ok
   ·exact of_15_ok
   ·exact of_16_ok
   ·exact of_17_ok
   ·exact of_18_ok
   ·exact of_19_ok
   ·exact of_20_ok
   ·exact of_21_ok
   ·exact of_22_ok
   ·exact of_23_ok
   ·exact of_24_ok
   ·exact of_25_ok
   ·exact of_26_ok
   ·exact of_27_ok
   ·exact of_28_ok
   ·exact of_29_ok
   ·exact of_30_ok
   ·exact of_31_ok
theorem bare_1_ok (op w dst src base disp imm cc sh : Int) (h : (sh == 1) = true) : Ret Tryz.prog 58 [xD op w dst src base disp imm cc, .int .i8 sh] (xD 0 0 0 0 base disp imm cc) := by
 obtain rfl := eq_of_beq h
 exact bareL_1_ok op w dst src base disp imm cc
theorem bare_2_ok (op w dst src base disp imm cc sh : Int) (h : (sh == 2) = true) : Ret Tryz.prog 58 [xD op w dst src base disp imm cc, .int .i8 sh] (xD 0 0 0 0 base disp imm cc) := by
 obtain rfl := eq_of_beq h
 exact bareL_2_ok op w dst src base disp imm cc
theorem bare_3_ok (op w dst src base disp imm cc sh : Int) (h : (sh == 3) = true) : Ret Tryz.prog 58 [xD op w dst src base disp imm cc, .int .i8 sh] (xD 0 0 0 src base disp 0 cc) := by
 obtain rfl := eq_of_beq h
 exact bareL_3_ok op w dst src base disp imm cc
theorem bare_4_ok (op w dst src base disp imm cc sh : Int) (h : (sh == 4) = true) : Ret Tryz.prog 58 [xD op w dst src base disp imm cc, .int .i8 sh] (xD 0 0 0 src base disp 0 cc) := by
 obtain rfl := eq_of_beq h
 exact bareL_4_ok op w dst src base disp imm cc
theorem bare_5_ok (op w dst src base disp imm cc sh : Int) (h : (sh == 5) = true) : Ret Tryz.prog 58 [xD op w dst src base disp imm cc, .int .i8 sh] (xD 0 0 0 src base disp imm cc) := by
 obtain rfl := eq_of_beq h
 exact bareL_5_ok op w dst src base disp imm cc
theorem bare_6_ok (op w dst src base disp imm cc sh : Int) (h : (sh == 6) = true) : Ret Tryz.prog 58 [xD op w dst src base disp imm cc, .int .i8 sh] (xD 0 0 0 0 base disp imm 0) := by
 obtain rfl := eq_of_beq h
 exact bareL_6_ok op w dst src base disp imm cc
theorem bare_7_ok (op w dst src base disp imm cc sh : Int) (h : (sh == 7) = true) : Ret Tryz.prog 58 [xD op w dst src base disp imm cc, .int .i8 sh] (xD 0 0 0 src 0 0 imm cc) := by
 obtain rfl := eq_of_beq h
 exact bareL_7_ok op w dst src base disp imm cc
theorem bare_8_ok (op w dst src base disp imm cc sh : Int) (h : (sh == 8) = true) : Ret Tryz.prog 58 [xD op w dst src base disp imm cc, .int .i8 sh] (xD 0 0 dst 0 0 0 imm cc) := by
 obtain rfl := eq_of_beq h
 exact bareL_8_ok op w dst src base disp imm cc
theorem bare_9_ok (op w dst src base disp imm cc sh : Int) (h : (sh == 9) = true) : Ret Tryz.prog 58 [xD op w dst src base disp imm cc, .int .i8 sh] (xD 0 0 dst src base disp 0 cc) := by
 obtain rfl := eq_of_beq h
 exact bareL_9_ok op w dst src base disp imm cc
theorem bare_10_ok (op w dst src base disp imm cc sh : Int) (h : (sh == 10) = true) : Ret Tryz.prog 58 [xD op w dst src base disp imm cc, .int .i8 sh] (xD 0 0 dst src base disp 0 0) := by
 obtain rfl := eq_of_beq h
 exact bareL_10_ok op w dst src base disp imm cc
theorem bare_11_ok (op w dst src base disp imm cc sh : Int) (h : (sh == 11) = true) : Ret Tryz.prog 58 [xD op w dst src base disp imm cc, .int .i8 sh] (xD 0 w dst src base disp imm cc) := by
 obtain rfl := eq_of_beq h
 exact bareL_11_ok op w dst src base disp imm cc
end Go.Proofs.YtcngafhpodeenaaGreat

namespace Go.Proofs.YtcngafhpodeenaaGreat
open Go Go.Ev
set_option maxRecDepth 100000
set_option maxHeartbeats 8000000
theorem mayX_0_ok (op w dst src base disp imm cc : Int) (ho : op ≤ 127) (h : (shapeM op == 0) = true) (hin : decide (0 ≤ op ∧ op ≤ 31) = false) : Ret Tryz.prog 28 ([xD op w dst src base disp imm cc]) (.bool (mayX op w dst src base disp imm cc)) := by
 have c0 := @of_any_ok op ho
 rw [show (shapeM op) = 0 from (eq_of_beq h)] at c0
 generalize g2 : codeM op = r1 at c0
 generalize g4 : numM op = r3 at c0
 exact (o28 (d := .bool false) ([.ret _ _ _ c0] ++ List.replicate 6 (tC (eF (nt hin))) ++ [tC (nt hin), tF, tF, tF, tF, tT, tF, tF, tF, tF, tT, tF, tF, tF, tF, tT, tF, tF, tF, tF, tT, tF, tF, tF, tF, tT, tT]) (by kernel_rfl)).to (by (try simp only [sl0, wk, wkL, wkO, eqCells, eqCell, mayX, regM, mayS, longM, widthM, jumpM, ccM] at *); (simp [wk, wkL, wkO, eqCells, eqCell, mayX, regM, mayS, longM, widthM, jumpM, ccM, *]; done))
theorem mayX_1_ok (op w dst src base disp imm cc : Int) (ho : op ≤ 127) (h : (shapeM op == 1) = true) (hin : decide (0 ≤ op ∧ op ≤ 31) = true) : Ret Tryz.prog 28 ([xD op w dst src base disp imm cc]) (.bool (mayX op w dst src base disp imm cc)) := by
 have c0 := @of_any_ok op ho
 rw [show (shapeM op) = 1 from (eq_of_beq h)] at c0
 generalize g2 : codeM op = r1 at c0
 generalize g4 : numM op = r3 at c0
 have c5 := @bare_1_ok op w dst src base disp imm cc 1 (rfl : true = true)
 let E1 : EL := ([.ret _ _ _ c0] ++ List.replicate 4 (tC (eF (nt hin))) ++ [.ret _ _ _ c5, tC (eF (nt hin)), tC (eF (nt hin)), .flat _ _ flat_X, tC (nt hin)])
 rcases bft (eqCells [.int .i8 0, .int .i8 0, .int .i8 0, .int .i8 0, .int .i8 base, .int .i64 disp, .int .i64 imm, .int .i8 cc] [.int .i8 0, .int .i8 0, .int .i8 0, .int .i8 0, .int .i8 0, .int .i64 0, .int .i64 0, .int .i8 0]) with h6 | h6
 ·have c7 := @reg_ok dst
  generalize g9 : regM dst = r8 at c7
  let E2 : EL := E1 ++ List.replicate 3 (tC (eF (nt h6))) ++ [.ret _ _ _ c7, tC (eF (nt h6)), tC (nt h6)]
  cases r8
  ·exact (o28 (d := .bool false) (E2 ++ [tF, tF, tF, tF, tT, tF, tF, tF, tF, tT, tF, tF, tF, tF, tT, tF, tF, tF, tF, tT, tT]) (by kernel_rfl)).to (by clear E1 E2; (try simp only [sl0, wk, wkL, wkO, eqCells, eqCell, mayX, regM, mayS, longM, widthM, jumpM, ccM] at *); (simp [wk, wkL, wkO, eqCells, eqCell, mayX, regM, mayS, longM, widthM, jumpM, ccM, *]; done))
  have c10 := @reg_ok src
  generalize g12 : regM src = r11 at c10
  let E3 : EL := E2 ++ [tT, tT, tT, .ret _ _ _ c10, tT, tF]
  cases r11
  ·exact (o28 (d := .bool false) (E3 ++ [tF, tF, tF, tF, tT, tF, tF, tF, tF, tT, tF, tF, tF, tF, tT, tT]) (by kernel_rfl)).to (by clear E1 E2 E3; (try simp only [sl0, wk, wkL, wkO, eqCells, eqCell, mayX, regM, mayS, longM, widthM, jumpM, ccM] at *); (simp [wk, wkL, wkO, eqCells, eqCell, mayX, regM, mayS, longM, widthM, jumpM, ccM, *]; done))
  have c13 := @reg_ok base
  generalize g15 : regM base = r14 at c13
  let E4 : EL := E3 ++ [tT, tT, tT, .ret _ _ _ c13, tT, tF]
  cases r14
  ·exact (o28 (d := .bool false) (E4 ++ [tF, tF, tF, tF, tT, tF, tF, tF, tF, tT, tT]) (by kernel_rfl)).to (by clear E1 E2 E3 E4; (try simp only [sl0, wk, wkL, wkO, eqCells, eqCell, mayX, regM, mayS, longM, widthM, jumpM, ccM] at *); (simp [wk, wkL, wkO, eqCells, eqCell, mayX, regM, mayS, longM, widthM, jumpM, ccM, *]; done))
  have c16 := @within_ok disp (-2147483648) 2147483647
  let E5 : EL := E4 ++ [tT, tT, tT, .ret _ _ _ c16, tT, tF]
  rcases bft (decide (disp < (-2147483648))) with h17 | h17
  ·exact (o28 (d := .bool false) (E5 ++ List.replicate 4 (tC (eF (nt (andF (y := decide (disp ≤ 2147483647)) (leL (-2147483648) h17))))) ++ [tC (nt (andF (y := decide (disp ≤ 2147483647)) (leL (-2147483648) h17))), tT]) (by kernel_rfl)).to (by clear E1 E2 E3 E4 E5; (try simp only [sl0, wk, wkL, wkO, eqCells, eqCell, mayX, regM, mayS, longM, widthM, jumpM, ccM] at *); (simp [wk, wkL, wkO, eqCells, eqCell, mayX, regM, mayS, longM, widthM, jumpM, ccM, *]; omega))
  rcases bft (decide (disp < 2147483648)) with h18 | h18
  ·have c19 := @within_ok imm (-2147483648) 2147483647
   let E6 : EL := E5 ++ List.replicate 3 (tC (eF (nt (andT (leL (-2147483648) h17) (leC 2147483647 h18))))) ++ [.ret _ _ _ c19, tC (eF (nt (andT (leL (-2147483648) h17) (leC 2147483647 h18)))), tC (nt (andT (leL (-2147483648) h17) (leC 2147483647 h18)))]
   rcases bft (decide (imm < (-2147483648))) with h20 | h20
   ·exact (o28 (d := .bool false) (E6 ++ [tC (nt (andF (y := decide (imm ≤ 2147483647)) (leL (-2147483648) h20)))]) (by kernel_rfl)).to (by clear E1 E2 E3 E4 E5 E6; (try simp only [sl0, wk, wkL, wkO, eqCells, eqCell, mayX, regM, mayS, longM, widthM, jumpM, ccM] at *); (simp [wk, wkL, wkO, eqCells, eqCell, mayX, regM, mayS, longM, widthM, jumpM, ccM, *]; omega))
   rcases bft (decide (imm < 2147483648)) with h21 | h21
   ·let E7 : EL := E6 ++ [tC (nt (andT (leL (-2147483648) h20) (leC 2147483647 h21)))]
    by_cases h22 : w = 32
    ·subst h22
     exact (o28 (d := .bool true) (E7 ++ [tF, tF, tF, tT, tF, tF, tF, tF, tF, tT, tT, tT]) (by kernel_rfl)).to (by clear E1 E2 E3 E4 E5 E6 E7; (try simp only [sl0, wk, wkL, wkO, eqCells, eqCell, mayX, regM, mayS, longM, widthM, jumpM, ccM] at *); (rw [Bool.eq_iff_iff]; simp [wk, wkL, wkO, eqCells, eqCell, mayX, regM, mayS, longM, widthM, jumpM, ccM, *]; grind))
    let E8 : EL := E7 ++ List.replicate 3 (tC (eF (neOf h22))) ++ [tC (neOf h22)] ++ List.replicate 4 (tC (eF (neOf h22)))
    by_cases h23 : w = 8
    ·subst h23
     have c24 := @within_ok imm (-128) 127
     exact (o28 (d := .bool false) (E8 ++ [tT, tT, tT, .ret _ _ _ c24, tT, tT, tF, tT, tT]) (by kernel_rfl)).to (by clear E1 E2 E3 E4 E5 E6 E7 E8; (try simp only [sl0, wk, wkL, wkO, eqCells, eqCell, mayX, regM, mayS, longM, widthM, jumpM, ccM] at *); (simp [wk, wkL, wkO, eqCells, eqCell, mayX, regM, mayS, longM, widthM, jumpM, ccM, *]; done))
    exact (o28 (d := .bool (w == 64)) (E8 ++ List.replicate 3 (tC (eT (neOf h23))) ++ [tC (eF (neOf h22)), tC (neOf h23), tC (neOf h22), tT, tT]) (by kernel_rfl)).to (by clear E1 E2 E3 E4 E5 E6 E7 E8; (try simp only [sl0, wk, wkL, wkO, eqCells, eqCell, mayX, regM, mayS, longM, widthM, jumpM, ccM] at *); (rw [Bool.eq_iff_iff]; simp [wk, wkL, wkO, eqCells, eqCell, mayX, regM, mayS, longM, widthM, jumpM, ccM, *]; grind))
   exact (o28 (d := .bool false) (E6 ++ [tC (nt (andT (leL (-2147483648) h20) (leC 2147483647 h21)))]) (by kernel_rfl)).to (by clear E1 E2 E3 E4 E5 E6; (try simp only [sl0, wk, wkL, wkO, eqCells, eqCell, mayX, regM, mayS, longM, widthM, jumpM, ccM] at *); (simp [wk, wkL, wkO, eqCells, eqCell, mayX, regM, mayS, longM, widthM, jumpM, ccM, *]; omega))
  exact (o28 (d := .bool false) (E5 ++ List.replicate 4 (tC (eF (nt (andT (leL (-2147483648) h17) (leC 2147483647 h18))))) ++ [tC (nt (andT (leL (-2147483648) h17) (leC 2147483647 h18))), tT]) (by kernel_rfl)).to (by clear E1 E2 E3 E4 E5; (try simp only [sl0, wk, wkL, wkO, eqCells, eqCell, mayX, regM, mayS, longM, widthM, jumpM, ccM] at *); (simp [wk, wkL, wkO, eqCells, eqCell, mayX, regM, mayS, longM, widthM, jumpM, ccM, *]; omega))
 exact (o28 (d := .bool false) (E1 ++ List.replicate 4 (tC (eF (nt h6))) ++ [tC (nt h6), tF, tF, tF, tF, tT, tF, tF, tF, tF, tT, tF, tF, tF, tF, tT, tF, tF, tF, tF, tT, tT]) (by kernel_rfl)).to (by clear E1; (try simp only [sl0, wk, wkL, wkO, eqCells, eqCell, mayX, regM, mayS, longM, widthM, jumpM, ccM] at *); (rw [Bool.eq_iff_iff]; simp [wk, wkL, wkO, eqCells, eqCell, mayX, regM, mayS, longM, widthM, jumpM, ccM, *]; grind))
theorem mayX_2_ok (op w dst src base disp imm cc : Int) (ho : op ≤ 127) (h : (shapeM op == 2) = true) (hin : decide (0 ≤ op ∧ op ≤ 31) = true) : Ret Tryz.prog 28 ([xD op w dst src base disp imm cc]) (.bool (mayX op w dst src base disp imm cc)) := by
 have c0 := @of_any_ok op ho
 rw [show (shapeM op) = 2 from (eq_of_beq h)] at c0
 generalize g2 : codeM op = r1 at c0
 generalize g4 : numM op = r3 at c0
 have c5 := @bare_2_ok op w dst src base disp imm cc 2 (rfl : true = true)
 let E1 : EL := ([.ret _ _ _ c0] ++ List.replicate 4 (tC (eF (nt hin))) ++ [.ret _ _ _ c5, tC (eF (nt hin)), tC (eF (nt hin)), .flat _ _ flat_X, tC (nt hin)])
 rcases bft (eqCells [.int .i8 0, .int .i8 0, .int .i8 0, .int .i8 0, .int .i8 base, .int .i64 disp, .int .i64 imm, .int .i8 cc] [.int .i8 0, .int .i8 0, .int .i8 0, .int .i8 0, .int .i8 0, .int .i64 0, .int .i64 0, .int .i8 0]) with h6 | h6
 ·have c7 := @reg_ok dst
  generalize g9 : regM dst = r8 at c7
  let E2 : EL := E1 ++ List.replicate 3 (tC (eF (nt h6))) ++ [.ret _ _ _ c7, tC (eF (nt h6)), tC (nt h6)]
  cases r8
  ·exact (o28 (d := .bool false) (E2 ++ [tF, tF, tF, tF, tT, tF, tF, tF, tF, tT, tF, tF, tF, tF, tT, tF, tF, tF, tF, tT, tT]) (by kernel_rfl)).to (by clear E1 E2; (try simp only [sl0, wk, wkL, wkO, eqCells, eqCell, mayX, regM, mayS, longM, widthM, jumpM, ccM] at *); (simp [wk, wkL, wkO, eqCells, eqCell, mayX, regM, mayS, longM, widthM, jumpM, ccM, *]; done))
  have c10 := @reg_ok src
  generalize g12 : regM src = r11 at c10
  let E3 : EL := E2 ++ [tT, tT, tT, .ret _ _ _ c10, tT, tF]
  cases r11
  ·exact (o28 (d := .bool false) (E3 ++ [tF, tF, tF, tF, tT, tF, tF, tF, tF, tT, tF, tF, tF, tF, tT, tT]) (by kernel_rfl)).to (by clear E1 E2 E3; (try simp only [sl0, wk, wkL, wkO, eqCells, eqCell, mayX, regM, mayS, longM, widthM, jumpM, ccM] at *); (simp [wk, wkL, wkO, eqCells, eqCell, mayX, regM, mayS, longM, widthM, jumpM, ccM, *]; done))
  have c13 := @reg_ok base
  generalize g15 : regM base = r14 at c13
  let E4 : EL := E3 ++ [tT, tT, tT, .ret _ _ _ c13, tT, tF]
  cases r14
  ·exact (o28 (d := .bool false) (E4 ++ [tF, tF, tF, tF, tT, tF, tF, tF, tF, tT, tT]) (by kernel_rfl)).to (by clear E1 E2 E3 E4; (try simp only [sl0, wk, wkL, wkO, eqCells, eqCell, mayX, regM, mayS, longM, widthM, jumpM, ccM] at *); (simp [wk, wkL, wkO, eqCells, eqCell, mayX, regM, mayS, longM, widthM, jumpM, ccM, *]; done))
  have c16 := @within_ok disp (-2147483648) 2147483647
  let E5 : EL := E4 ++ [tT, tT, tT, .ret _ _ _ c16, tT, tF]
  rcases bft (decide (disp < (-2147483648))) with h17 | h17
  ·exact (o28 (d := .bool false) (E5 ++ List.replicate 4 (tC (eF (nt (andF (y := decide (disp ≤ 2147483647)) (leL (-2147483648) h17))))) ++ [tC (nt (andF (y := decide (disp ≤ 2147483647)) (leL (-2147483648) h17))), tT]) (by kernel_rfl)).to (by clear E1 E2 E3 E4 E5; (try simp only [sl0, wk, wkL, wkO, eqCells, eqCell, mayX, regM, mayS, longM, widthM, jumpM, ccM] at *); (simp [wk, wkL, wkO, eqCells, eqCell, mayX, regM, mayS, longM, widthM, jumpM, ccM, *]; omega))
  rcases bft (decide (disp < 2147483648)) with h18 | h18
  ·have c19 := @within_ok imm (-2147483648) 2147483647
   let E6 : EL := E5 ++ List.replicate 3 (tC (eF (nt (andT (leL (-2147483648) h17) (leC 2147483647 h18))))) ++ [.ret _ _ _ c19, tC (eF (nt (andT (leL (-2147483648) h17) (leC 2147483647 h18)))), tC (nt (andT (leL (-2147483648) h17) (leC 2147483647 h18)))]
   rcases bft (decide (imm < (-2147483648))) with h20 | h20
   ·exact (o28 (d := .bool false) (E6 ++ [tC (nt (andF (y := decide (imm ≤ 2147483647)) (leL (-2147483648) h20)))]) (by kernel_rfl)).to (by clear E1 E2 E3 E4 E5 E6; (try simp only [sl0, wk, wkL, wkO, eqCells, eqCell, mayX, regM, mayS, longM, widthM, jumpM, ccM] at *); (simp [wk, wkL, wkO, eqCells, eqCell, mayX, regM, mayS, longM, widthM, jumpM, ccM, *]; omega))
   rcases bft (decide (imm < 2147483648)) with h21 | h21
   ·let E7 : EL := E6 ++ [tC (nt (andT (leL (-2147483648) h20) (leC 2147483647 h21)))]
    by_cases h22 : w = 32
    ·subst h22
     exact (o28 (d := .bool true) (E7 ++ [tF, tF, tF, tT, tF, tF, tF, tF, tF, tT, tF, tT, tT]) (by kernel_rfl)).to (by clear E1 E2 E3 E4 E5 E6 E7; (try simp only [sl0, wk, wkL, wkO, eqCells, eqCell, mayX, regM, mayS, longM, widthM, jumpM, ccM] at *); (rw [Bool.eq_iff_iff]; simp [wk, wkL, wkO, eqCells, eqCell, mayX, regM, mayS, longM, widthM, jumpM, ccM, *]; grind))
    let E8 : EL := E7 ++ List.replicate 3 (tC (eF (neOf h22))) ++ [tC (neOf h22)] ++ List.replicate 4 (tC (eF (neOf h22)))
    by_cases h23 : w = 8
    ·subst h23
     have c24 := @within_ok imm (-128) 127
     exact (o28 (d := .bool false) (E8 ++ [tT, tT, tT, .ret _ _ _ c24, tT, tT, tF, tF, tT, tT]) (by kernel_rfl)).to (by clear E1 E2 E3 E4 E5 E6 E7 E8; (try simp only [sl0, wk, wkL, wkO, eqCells, eqCell, mayX, regM, mayS, longM, widthM, jumpM, ccM] at *); (simp [wk, wkL, wkO, eqCells, eqCell, mayX, regM, mayS, longM, widthM, jumpM, ccM, *]; done))
    exact (o28 (d := .bool (w == 64)) (E8 ++ List.replicate 3 (tC (eT (neOf h23))) ++ [tC (eF (neOf h22)), tC (neOf h23), tC (neOf h22), tF, tT, tT]) (by kernel_rfl)).to (by clear E1 E2 E3 E4 E5 E6 E7 E8; (try simp only [sl0, wk, wkL, wkO, eqCells, eqCell, mayX, regM, mayS, longM, widthM, jumpM, ccM] at *); (rw [Bool.eq_iff_iff]; simp [wk, wkL, wkO, eqCells, eqCell, mayX, regM, mayS, longM, widthM, jumpM, ccM, *]; grind))
   exact (o28 (d := .bool false) (E6 ++ [tC (nt (andT (leL (-2147483648) h20) (leC 2147483647 h21)))]) (by kernel_rfl)).to (by clear E1 E2 E3 E4 E5 E6; (try simp only [sl0, wk, wkL, wkO, eqCells, eqCell, mayX, regM, mayS, longM, widthM, jumpM, ccM] at *); (simp [wk, wkL, wkO, eqCells, eqCell, mayX, regM, mayS, longM, widthM, jumpM, ccM, *]; omega))
  exact (o28 (d := .bool false) (E5 ++ List.replicate 4 (tC (eF (nt (andT (leL (-2147483648) h17) (leC 2147483647 h18))))) ++ [tC (nt (andT (leL (-2147483648) h17) (leC 2147483647 h18))), tT]) (by kernel_rfl)).to (by clear E1 E2 E3 E4 E5; (try simp only [sl0, wk, wkL, wkO, eqCells, eqCell, mayX, regM, mayS, longM, widthM, jumpM, ccM] at *); (simp [wk, wkL, wkO, eqCells, eqCell, mayX, regM, mayS, longM, widthM, jumpM, ccM, *]; omega))
 exact (o28 (d := .bool false) (E1 ++ List.replicate 4 (tC (eF (nt h6))) ++ [tC (nt h6), tF, tF, tF, tF, tT, tF, tF, tF, tF, tT, tF, tF, tF, tF, tT, tF, tF, tF, tF, tT, tT]) (by kernel_rfl)).to (by clear E1; (try simp only [sl0, wk, wkL, wkO, eqCells, eqCell, mayX, regM, mayS, longM, widthM, jumpM, ccM] at *); (rw [Bool.eq_iff_iff]; simp [wk, wkL, wkO, eqCells, eqCell, mayX, regM, mayS, longM, widthM, jumpM, ccM, *]; grind))
end Go.Proofs.YtcngafhpodeenaaGreat

namespace Go.Proofs.YtcngafhpodeenaaGreat
open Go Go.Ev
set_option maxRecDepth 100000
set_option maxHeartbeats 8000000
def SpXMay10 (k0_ : Int) : Prop := ∀ (op w dst src base disp imm cc : Int) (ho : op ≤ 127) (h : (shapeM op == k0_) = true) (hin : decide (0 ≤ op ∧ op ≤ 31) = true), Ret Tryz.prog 28 ([xD op w dst src base disp imm cc]) (.bool (mayX op w dst src base disp imm cc))
theorem mayX_3_ok : SpXMay10 3 := by
 intro op w dst src base disp imm cc ho h hin
 have c0 := @of_any_ok op ho
 rw [eq_of_beq h] at c0
 generalize g2 : codeM op = r1 at c0
 generalize g4 : numM op = r3 at c0
 have c5 := @bare_3_ok op w dst src base disp imm cc 3 (rfl : true = true)
 let E1 : EL := ([.ret _ _ _ c0] ++ List.replicate 4 (tC (eF (nt hin))) ++ [.ret _ _ _ c5, tC (eF (nt hin)), tC (eF (nt hin)), .flat _ _ flat_X, tC (nt hin)])
 rcases bft (eqCells [.int .i8 0, .int .i8 0, .int .i8 0, .int .i8 src, .int .i8 base, .int .i64 disp, .int .i64 0, .int .i8 cc] [.int .i8 0, .int .i8 0, .int .i8 0, .int .i8 0, .int .i8 0, .int .i64 0, .int .i64 0, .int .i8 0]) with h6 | h6
 ·have c7 := @reg_ok dst
  generalize g9 : regM dst = r8 at c7
  let E2 : EL := E1 ++ List.replicate 3 (tC (eF (nt h6))) ++ [.ret _ _ _ c7, tC (eF (nt h6)), tC (nt h6)]
  cases r8
  ·exact (o28 (d := .bool false) (E2 ++ [tF, tF, tF, tF, tT, tF, tF, tF, tF, tT, tF, tF, tF, tF, tT, tF, tF, tF, tF, tT, tT]) (by kernel_rfl)).to (by clear E1 E2; (try simp only [sl0, wk, wkL, wkO, eqCells, eqCell, mayX, regM, mayS, longM, widthM, jumpM, ccM] at *); (simp [wk, wkL, wkO, eqCells, eqCell, mayX, regM, mayS, longM, widthM, jumpM, ccM, *]; done))
  have c10 := @reg_ok src
  generalize g12 : regM src = r11 at c10
  let E3 : EL := E2 ++ [tT, tT, tT, .ret _ _ _ c10, tT, tF]
  cases r11
  ·exact (o28 (d := .bool false) (E3 ++ [tF, tF, tF, tF, tT, tF, tF, tF, tF, tT, tF, tF, tF, tF, tT, tT]) (by kernel_rfl)).to (by clear E1 E2 E3; (try simp only [sl0, wk, wkL, wkO, eqCells, eqCell, mayX, regM, mayS, longM, widthM, jumpM, ccM] at *); (simp [wk, wkL, wkO, eqCells, eqCell, mayX, regM, mayS, longM, widthM, jumpM, ccM, *]; done))
  have c13 := @reg_ok base
  generalize g15 : regM base = r14 at c13
  let E4 : EL := E3 ++ [tT, tT, tT, .ret _ _ _ c13, tT, tF]
  cases r14
  ·exact (o28 (d := .bool false) (E4 ++ [tF, tF, tF, tF, tT, tF, tF, tF, tF, tT, tT]) (by kernel_rfl)).to (by clear E1 E2 E3 E4; (try simp only [sl0, wk, wkL, wkO, eqCells, eqCell, mayX, regM, mayS, longM, widthM, jumpM, ccM] at *); (simp [wk, wkL, wkO, eqCells, eqCell, mayX, regM, mayS, longM, widthM, jumpM, ccM, *]; done))
  have c16 := @within_ok disp (-2147483648) 2147483647
  let E5 : EL := E4 ++ [tT, tT, tT, .ret _ _ _ c16, tT, tF]
  rcases bft (decide (disp < (-2147483648))) with h17 | h17
  ·exact (o28 (d := .bool false) (E5 ++ List.replicate 4 (tC (eF (nt (andF (y := decide (disp ≤ 2147483647)) (leL (-2147483648) h17))))) ++ [tC (nt (andF (y := decide (disp ≤ 2147483647)) (leL (-2147483648) h17))), tT]) (by kernel_rfl)).to (by clear E1 E2 E3 E4 E5; (try simp only [sl0, wk, wkL, wkO, eqCells, eqCell, mayX, regM, mayS, longM, widthM, jumpM, ccM] at *); (simp [wk, wkL, wkO, eqCells, eqCell, mayX, regM, mayS, longM, widthM, jumpM, ccM, *]; omega))
  rcases bft (decide (disp < 2147483648)) with h18 | h18
  ·have c19 := @within_ok imm (-2147483648) 2147483647
   let E6 : EL := E5 ++ List.replicate 3 (tC (eF (nt (andT (leL (-2147483648) h17) (leC 2147483647 h18))))) ++ [.ret _ _ _ c19, tC (eF (nt (andT (leL (-2147483648) h17) (leC 2147483647 h18)))), tC (nt (andT (leL (-2147483648) h17) (leC 2147483647 h18)))]
   rcases bft (decide (imm < (-2147483648))) with h20 | h20
   ·exact (o28 (d := .bool false) (E6 ++ [tC (nt (andF (y := decide (imm ≤ 2147483647)) (leL (-2147483648) h20)))]) (by kernel_rfl)).to (by clear E1 E2 E3 E4 E5 E6; (try simp only [sl0, wk, wkL, wkO, eqCells, eqCell, mayX, regM, mayS, longM, widthM, jumpM, ccM] at *); (simp [wk, wkL, wkO, eqCells, eqCell, mayX, regM, mayS, longM, widthM, jumpM, ccM, *]; omega))
   rcases bft (decide (imm < 2147483648)) with h21 | h21
   ·let E7 : EL := E6 ++ [tC (nt (andT (leL (-2147483648) h20) (leC 2147483647 h21)))]
    by_cases h22 : w = 32
    ·subst h22
     exact (o28 (d := .bool true) (E7 ++ [tF, tF, tF, tT, tF, tF, tF, tF, tF, tT, tF, tF, tT, tT]) (by kernel_rfl)).to (by clear E1 E2 E3 E4 E5 E6 E7; (try simp only [sl0, wk, wkL, wkO, eqCells, eqCell, mayX, regM, mayS, longM, widthM, jumpM, ccM] at *); (rw [Bool.eq_iff_iff]; simp [wk, wkL, wkO, eqCells, eqCell, mayX, regM, mayS, longM, widthM, jumpM, ccM, *]; grind))
    let E8 : EL := E7 ++ List.replicate 3 (tC (eF (neOf h22))) ++ [tC (neOf h22)] ++ List.replicate 4 (tC (eF (neOf h22)))
    by_cases h23 : w = 8
    ·subst h23
     have c24 := @within_ok imm (-128) 127
     exact (o28 (d := .bool false) (E8 ++ [tT, tT, tT, .ret _ _ _ c24, tT, tT, tF, tF, tF, tT, tT]) (by kernel_rfl)).to (by clear E1 E2 E3 E4 E5 E6 E7 E8; (try simp only [sl0, wk, wkL, wkO, eqCells, eqCell, mayX, regM, mayS, longM, widthM, jumpM, ccM] at *); (simp [wk, wkL, wkO, eqCells, eqCell, mayX, regM, mayS, longM, widthM, jumpM, ccM, *]; done))
    exact (o28 (d := .bool (w == 64)) (E8 ++ List.replicate 3 (tC (eT (neOf h23))) ++ [tC (eF (neOf h22)), tC (neOf h23), tC (neOf h22), tF, tF, tT, tT]) (by kernel_rfl)).to (by clear E1 E2 E3 E4 E5 E6 E7 E8; (try simp only [sl0, wk, wkL, wkO, eqCells, eqCell, mayX, regM, mayS, longM, widthM, jumpM, ccM] at *); (rw [Bool.eq_iff_iff]; simp [wk, wkL, wkO, eqCells, eqCell, mayX, regM, mayS, longM, widthM, jumpM, ccM, *]; grind))
   exact (o28 (d := .bool false) (E6 ++ [tC (nt (andT (leL (-2147483648) h20) (leC 2147483647 h21)))]) (by kernel_rfl)).to (by clear E1 E2 E3 E4 E5 E6; (try simp only [sl0, wk, wkL, wkO, eqCells, eqCell, mayX, regM, mayS, longM, widthM, jumpM, ccM] at *); (simp [wk, wkL, wkO, eqCells, eqCell, mayX, regM, mayS, longM, widthM, jumpM, ccM, *]; omega))
  exact (o28 (d := .bool false) (E5 ++ List.replicate 4 (tC (eF (nt (andT (leL (-2147483648) h17) (leC 2147483647 h18))))) ++ [tC (nt (andT (leL (-2147483648) h17) (leC 2147483647 h18))), tT]) (by kernel_rfl)).to (by clear E1 E2 E3 E4 E5; (try simp only [sl0, wk, wkL, wkO, eqCells, eqCell, mayX, regM, mayS, longM, widthM, jumpM, ccM] at *); (simp [wk, wkL, wkO, eqCells, eqCell, mayX, regM, mayS, longM, widthM, jumpM, ccM, *]; omega))
 exact (o28 (d := .bool false) (E1 ++ List.replicate 4 (tC (eF (nt h6))) ++ [tC (nt h6), tF, tF, tF, tF, tT, tF, tF, tF, tF, tT, tF, tF, tF, tF, tT, tF, tF, tF, tF, tT, tT]) (by kernel_rfl)).to (by clear E1; (try simp only [sl0, wk, wkL, wkO, eqCells, eqCell, mayX, regM, mayS, longM, widthM, jumpM, ccM] at *); (rw [Bool.eq_iff_iff]; simp [wk, wkL, wkO, eqCells, eqCell, mayX, regM, mayS, longM, widthM, jumpM, ccM, *]; grind))
theorem mayX_4_ok : SpXMay10 4 := by
 intro op w dst src base disp imm cc ho h hin
 have c0 := @of_any_ok op ho
 rw [eq_of_beq h] at c0
 generalize g2 : codeM op = r1 at c0
 generalize g4 : numM op = r3 at c0
 have c5 := @bare_4_ok op w dst src base disp imm cc 4 (rfl : true = true)
 let E1 : EL := ([.ret _ _ _ c0] ++ List.replicate 4 (tC (eF (nt hin))) ++ [.ret _ _ _ c5, tC (eF (nt hin)), tC (eF (nt hin)), .flat _ _ flat_X, tC (nt hin)])
 rcases bft (eqCells [.int .i8 0, .int .i8 0, .int .i8 0, .int .i8 src, .int .i8 base, .int .i64 disp, .int .i64 0, .int .i8 cc] [.int .i8 0, .int .i8 0, .int .i8 0, .int .i8 0, .int .i8 0, .int .i64 0, .int .i64 0, .int .i8 0]) with h6 | h6
 ·have c7 := @reg_ok dst
  generalize g9 : regM dst = r8 at c7
  let E2 : EL := E1 ++ List.replicate 3 (tC (eF (nt h6))) ++ [.ret _ _ _ c7, tC (eF (nt h6)), tC (nt h6)]
  cases r8
  ·exact (o28 (d := .bool false) (E2 ++ [tF, tF, tF, tF, tT, tF, tF, tF, tF, tT, tF, tF, tF, tF, tT, tF, tF, tF, tF, tT, tT]) (by kernel_rfl)).to (by clear E1 E2; (try simp only [sl0, wk, wkL, wkO, eqCells, eqCell, mayX, regM, mayS, longM, widthM, jumpM, ccM] at *); (simp [wk, wkL, wkO, eqCells, eqCell, mayX, regM, mayS, longM, widthM, jumpM, ccM, *]; done))
  have c10 := @reg_ok src
  generalize g12 : regM src = r11 at c10
  let E3 : EL := E2 ++ [tT, tT, tT, .ret _ _ _ c10, tT, tF]
  cases r11
  ·exact (o28 (d := .bool false) (E3 ++ [tF, tF, tF, tF, tT, tF, tF, tF, tF, tT, tF, tF, tF, tF, tT, tT]) (by kernel_rfl)).to (by clear E1 E2 E3; (try simp only [sl0, wk, wkL, wkO, eqCells, eqCell, mayX, regM, mayS, longM, widthM, jumpM, ccM] at *); (simp [wk, wkL, wkO, eqCells, eqCell, mayX, regM, mayS, longM, widthM, jumpM, ccM, *]; done))
  have c13 := @reg_ok base
  generalize g15 : regM base = r14 at c13
  let E4 : EL := E3 ++ [tT, tT, tT, .ret _ _ _ c13, tT, tF]
  cases r14
  ·exact (o28 (d := .bool false) (E4 ++ [tF, tF, tF, tF, tT, tF, tF, tF, tF, tT, tT]) (by kernel_rfl)).to (by clear E1 E2 E3 E4; (try simp only [sl0, wk, wkL, wkO, eqCells, eqCell, mayX, regM, mayS, longM, widthM, jumpM, ccM] at *); (simp [wk, wkL, wkO, eqCells, eqCell, mayX, regM, mayS, longM, widthM, jumpM, ccM, *]; done))
  have c16 := @within_ok disp (-2147483648) 2147483647
  let E5 : EL := E4 ++ [tT, tT, tT, .ret _ _ _ c16, tT, tF]
  rcases bft (decide (disp < (-2147483648))) with h17 | h17
  ·exact (o28 (d := .bool false) (E5 ++ List.replicate 4 (tC (eF (nt (andF (y := decide (disp ≤ 2147483647)) (leL (-2147483648) h17))))) ++ [tC (nt (andF (y := decide (disp ≤ 2147483647)) (leL (-2147483648) h17))), tT]) (by kernel_rfl)).to (by clear E1 E2 E3 E4 E5; (try simp only [sl0, wk, wkL, wkO, eqCells, eqCell, mayX, regM, mayS, longM, widthM, jumpM, ccM] at *); (simp [wk, wkL, wkO, eqCells, eqCell, mayX, regM, mayS, longM, widthM, jumpM, ccM, *]; omega))
  rcases bft (decide (disp < 2147483648)) with h18 | h18
  ·have c19 := @within_ok imm (-2147483648) 2147483647
   let E6 : EL := E5 ++ List.replicate 3 (tC (eF (nt (andT (leL (-2147483648) h17) (leC 2147483647 h18))))) ++ [.ret _ _ _ c19, tC (eF (nt (andT (leL (-2147483648) h17) (leC 2147483647 h18)))), tC (nt (andT (leL (-2147483648) h17) (leC 2147483647 h18)))]
   rcases bft (decide (imm < (-2147483648))) with h20 | h20
   ·exact (o28 (d := .bool false) (E6 ++ [tC (nt (andF (y := decide (imm ≤ 2147483647)) (leL (-2147483648) h20)))]) (by kernel_rfl)).to (by clear E1 E2 E3 E4 E5 E6; (try simp only [sl0, wk, wkL, wkO, eqCells, eqCell, mayX, regM, mayS, longM, widthM, jumpM, ccM] at *); (simp [wk, wkL, wkO, eqCells, eqCell, mayX, regM, mayS, longM, widthM, jumpM, ccM, *]; omega))
   rcases bft (decide (imm < 2147483648)) with h21 | h21
   ·let E7 : EL := E6 ++ [tC (nt (andT (leL (-2147483648) h20) (leC 2147483647 h21)))]
    by_cases h22 : w = 32
    ·subst h22
     have c23 := @within_ok imm 0 31
     exact (o28 (d := .bool (decide (0 ≤ imm) && decide (imm ≤ 31))) (E7 ++ [tF, tF, tF, tT, tF, tF, tF, tF, tF, tT, tF, tF, tF, tF] ++ List.replicate 8 tT ++ [.ret _ _ _ c23, tT]) (by kernel_rfl)).to (by clear E1 E2 E3 E4 E5 E6 E7; (try simp only [sl0, wk, wkL, wkO, eqCells, eqCell, mayX, regM, mayS, longM, widthM, jumpM, ccM] at *); (rw [Bool.eq_iff_iff]; simp [wk, wkL, wkO, eqCells, eqCell, mayX, regM, mayS, longM, widthM, jumpM, ccM, *]; grind))
    let E8 : EL := E7 ++ List.replicate 3 (tC (eF (neOf h22))) ++ [tC (neOf h22)] ++ List.replicate 4 (tC (eF (neOf h22)))
    by_cases h24 : w = 8
    ·subst h24
     have c25 := @within_ok imm (-128) 127
     exact (o28 (d := .bool false) (E8 ++ [tT, tT, tT, .ret _ _ _ c25, tT, tT, tF, tF, tF, tF, tF, tT] ++ List.replicate 8 tF) (by kernel_rfl)).to (by clear E1 E2 E3 E4 E5 E6 E7 E8; (try simp only [sl0, wk, wkL, wkO, eqCells, eqCell, mayX, regM, mayS, longM, widthM, jumpM, ccM] at *); (simp [wk, wkL, wkO, eqCells, eqCell, mayX, regM, mayS, longM, widthM, jumpM, ccM, *]; done))
    let E9 : EL := E8 ++ List.replicate 3 (tC (eT (neOf h24))) ++ [tC (eF (neOf h22)), tC (neOf h24), tC (neOf h22), tF, tF, tF, tF, tT]
    by_cases h26 : w = 64
    ·subst h26
     have c27 := @within_ok imm 0 63
     exact (o28 (d := .bool (decide (0 ≤ imm) && decide (imm ≤ 63))) (E9 ++ [tT, tT, tT, tT, tT, tT, tT, .ret _ _ _ c27, tT]) (by kernel_rfl)).to (by clear E1 E2 E3 E4 E5 E6 E7 E8 E9; (try simp only [sl0, wk, wkL, wkO, eqCells, eqCell, mayX, regM, mayS, longM, widthM, jumpM, ccM] at *); (rw [Bool.eq_iff_iff]; simp [wk, wkL, wkO, eqCells, eqCell, mayX, regM, mayS, longM, widthM, jumpM, ccM, *]; grind))
    exact (o28 (d := .bool false) (E9 ++ List.replicate 7 (tC (eT (neOf h26))) ++ [tC (neOf h26)]) (by kernel_rfl)).to (by clear E1 E2 E3 E4 E5 E6 E7 E8 E9; (try simp only [sl0, wk, wkL, wkO, eqCells, eqCell, mayX, regM, mayS, longM, widthM, jumpM, ccM] at *); (simp [wk, wkL, wkO, eqCells, eqCell, mayX, regM, mayS, longM, widthM, jumpM, ccM, *]; done))
   exact (o28 (d := .bool false) (E6 ++ [tC (nt (andT (leL (-2147483648) h20) (leC 2147483647 h21)))]) (by kernel_rfl)).to (by clear E1 E2 E3 E4 E5 E6; (try simp only [sl0, wk, wkL, wkO, eqCells, eqCell, mayX, regM, mayS, longM, widthM, jumpM, ccM] at *); (simp [wk, wkL, wkO, eqCells, eqCell, mayX, regM, mayS, longM, widthM, jumpM, ccM, *]; omega))
  exact (o28 (d := .bool false) (E5 ++ List.replicate 4 (tC (eF (nt (andT (leL (-2147483648) h17) (leC 2147483647 h18))))) ++ [tC (nt (andT (leL (-2147483648) h17) (leC 2147483647 h18))), tT]) (by kernel_rfl)).to (by clear E1 E2 E3 E4 E5; (try simp only [sl0, wk, wkL, wkO, eqCells, eqCell, mayX, regM, mayS, longM, widthM, jumpM, ccM] at *); (simp [wk, wkL, wkO, eqCells, eqCell, mayX, regM, mayS, longM, widthM, jumpM, ccM, *]; omega))
 exact (o28 (d := .bool false) (E1 ++ List.replicate 4 (tC (eF (nt h6))) ++ [tC (nt h6), tF, tF, tF, tF, tT, tF, tF, tF, tF, tT, tF, tF, tF, tF, tT, tF, tF, tF, tF, tT, tT]) (by kernel_rfl)).to (by clear E1; (try simp only [sl0, wk, wkL, wkO, eqCells, eqCell, mayX, regM, mayS, longM, widthM, jumpM, ccM] at *); (rw [Bool.eq_iff_iff]; simp [wk, wkL, wkO, eqCells, eqCell, mayX, regM, mayS, longM, widthM, jumpM, ccM, *]; grind))
theorem mayX_5_ok : SpXMay10 5 := by
 intro op w dst src base disp imm cc ho h hin
 have c0 := @of_any_ok op ho
 rw [eq_of_beq h] at c0
 generalize g2 : codeM op = r1 at c0
 generalize g4 : numM op = r3 at c0
 have c5 := @bare_5_ok op w dst src base disp imm cc 5 (rfl : true = true)
 let E1 : EL := ([.ret _ _ _ c0] ++ List.replicate 4 (tC (eF (nt hin))) ++ [.ret _ _ _ c5, tC (eF (nt hin)), tC (eF (nt hin)), .flat _ _ flat_X, tC (nt hin)])
 rcases bft (eqCells [.int .i8 0, .int .i8 0, .int .i8 0, .int .i8 src, .int .i8 base, .int .i64 disp, .int .i64 imm, .int .i8 cc] [.int .i8 0, .int .i8 0, .int .i8 0, .int .i8 0, .int .i8 0, .int .i64 0, .int .i64 0, .int .i8 0]) with h6 | h6
 ·have c7 := @reg_ok dst
  generalize g9 : regM dst = r8 at c7
  let E2 : EL := E1 ++ List.replicate 3 (tC (eF (nt h6))) ++ [.ret _ _ _ c7, tC (eF (nt h6)), tC (nt h6)]
  cases r8
  ·exact (o28 (d := .bool false) (E2 ++ [tF, tF, tF, tF, tT, tF, tF, tF, tF, tT, tF, tF, tF, tF, tT, tF, tF, tF, tF, tT, tT]) (by kernel_rfl)).to (by clear E1 E2; (try simp only [sl0, wk, wkL, wkO, eqCells, eqCell, mayX, regM, mayS, longM, widthM, jumpM, ccM] at *); (simp [wk, wkL, wkO, eqCells, eqCell, mayX, regM, mayS, longM, widthM, jumpM, ccM, *]; done))
  have c10 := @reg_ok src
  generalize g12 : regM src = r11 at c10
  let E3 : EL := E2 ++ [tT, tT, tT, .ret _ _ _ c10, tT, tF]
  cases r11
  ·exact (o28 (d := .bool false) (E3 ++ [tF, tF, tF, tF, tT, tF, tF, tF, tF, tT, tF, tF, tF, tF, tT, tT]) (by kernel_rfl)).to (by clear E1 E2 E3; (try simp only [sl0, wk, wkL, wkO, eqCells, eqCell, mayX, regM, mayS, longM, widthM, jumpM, ccM] at *); (simp [wk, wkL, wkO, eqCells, eqCell, mayX, regM, mayS, longM, widthM, jumpM, ccM, *]; done))
  have c13 := @reg_ok base
  generalize g15 : regM base = r14 at c13
  let E4 : EL := E3 ++ [tT, tT, tT, .ret _ _ _ c13, tT, tF]
  cases r14
  ·exact (o28 (d := .bool false) (E4 ++ [tF, tF, tF, tF, tT, tF, tF, tF, tF, tT, tT]) (by kernel_rfl)).to (by clear E1 E2 E3 E4; (try simp only [sl0, wk, wkL, wkO, eqCells, eqCell, mayX, regM, mayS, longM, widthM, jumpM, ccM] at *); (simp [wk, wkL, wkO, eqCells, eqCell, mayX, regM, mayS, longM, widthM, jumpM, ccM, *]; done))
  have c16 := @within_ok disp (-2147483648) 2147483647
  let E5 : EL := E4 ++ [tT, tT, tT, .ret _ _ _ c16, tT, tF]
  rcases bft (decide (disp < (-2147483648))) with h17 | h17
  ·exact (o28 (d := .bool false) (E5 ++ List.replicate 4 (tC (eF (nt (andF (y := decide (disp ≤ 2147483647)) (leL (-2147483648) h17))))) ++ [tC (nt (andF (y := decide (disp ≤ 2147483647)) (leL (-2147483648) h17))), tT]) (by kernel_rfl)).to (by clear E1 E2 E3 E4 E5; (try simp only [sl0, wk, wkL, wkO, eqCells, eqCell, mayX, regM, mayS, longM, widthM, jumpM, ccM] at *); (simp [wk, wkL, wkO, eqCells, eqCell, mayX, regM, mayS, longM, widthM, jumpM, ccM, *]; omega))
  rcases bft (decide (disp < 2147483648)) with h18 | h18
  ·have c19 := @within_ok imm (-2147483648) 2147483647
   let E6 : EL := E5 ++ List.replicate 3 (tC (eF (nt (andT (leL (-2147483648) h17) (leC 2147483647 h18))))) ++ [.ret _ _ _ c19, tC (eF (nt (andT (leL (-2147483648) h17) (leC 2147483647 h18)))), tC (nt (andT (leL (-2147483648) h17) (leC 2147483647 h18)))]
   rcases bft (decide (imm < (-2147483648))) with h20 | h20
   ·exact (o28 (d := .bool false) (E6 ++ [tC (nt (andF (y := decide (imm ≤ 2147483647)) (leL (-2147483648) h20)))]) (by kernel_rfl)).to (by clear E1 E2 E3 E4 E5 E6; (try simp only [sl0, wk, wkL, wkO, eqCells, eqCell, mayX, regM, mayS, longM, widthM, jumpM, ccM] at *); (simp [wk, wkL, wkO, eqCells, eqCell, mayX, regM, mayS, longM, widthM, jumpM, ccM, *]; omega))
   rcases bft (decide (imm < 2147483648)) with h21 | h21
   ·let E7 : EL := E6 ++ [tC (nt (andT (leL (-2147483648) h20) (leC 2147483647 h21)))]
    by_cases h22 : w = 32
    ·subst h22
     exact (o28 (d := .bool true) (E7 ++ [tF, tF, tF, tT, tF, tF, tF, tF, tF, tT, tF, tF, tF, tT]) (by kernel_rfl)).to (by clear E1 E2 E3 E4 E5 E6 E7; (try simp only [sl0, wk, wkL, wkO, eqCells, eqCell, mayX, regM, mayS, longM, widthM, jumpM, ccM] at *); (rw [Bool.eq_iff_iff]; simp [wk, wkL, wkO, eqCells, eqCell, mayX, regM, mayS, longM, widthM, jumpM, ccM, *]; grind))
    let E8 : EL := E7 ++ List.replicate 3 (tC (eF (neOf h22))) ++ [tC (neOf h22)] ++ List.replicate 4 (tC (eF (neOf h22)))
    by_cases h23 : w = 8
    ·subst h23
     have c24 := @within_ok imm (-128) 127
     exact (o28 (d := .bool false) (E8 ++ [tT, tT, tT, .ret _ _ _ c24, tT, tT, tF, tF, tF, tF, tT]) (by kernel_rfl)).to (by clear E1 E2 E3 E4 E5 E6 E7 E8; (try simp only [sl0, wk, wkL, wkO, eqCells, eqCell, mayX, regM, mayS, longM, widthM, jumpM, ccM] at *); (simp [wk, wkL, wkO, eqCells, eqCell, mayX, regM, mayS, longM, widthM, jumpM, ccM, *]; done))
    exact (o28 (d := .bool (w == 64)) (E8 ++ List.replicate 3 (tC (eT (neOf h23))) ++ [tC (eF (neOf h22)), tC (neOf h23), tC (neOf h22), tF, tF, tF, tT]) (by kernel_rfl)).to (by clear E1 E2 E3 E4 E5 E6 E7 E8; (try simp only [sl0, wk, wkL, wkO, eqCells, eqCell, mayX, regM, mayS, longM, widthM, jumpM, ccM] at *); (rw [Bool.eq_iff_iff]; simp [wk, wkL, wkO, eqCells, eqCell, mayX, regM, mayS, longM, widthM, jumpM, ccM, *]; grind))
   exact (o28 (d := .bool false) (E6 ++ [tC (nt (andT (leL (-2147483648) h20) (leC 2147483647 h21)))]) (by kernel_rfl)).to (by clear E1 E2 E3 E4 E5 E6; (try simp only [sl0, wk, wkL, wkO, eqCells, eqCell, mayX, regM, mayS, longM, widthM, jumpM, ccM] at *); (simp [wk, wkL, wkO, eqCells, eqCell, mayX, regM, mayS, longM, widthM, jumpM, ccM, *]; omega))
  exact (o28 (d := .bool false) (E5 ++ List.replicate 4 (tC (eF (nt (andT (leL (-2147483648) h17) (leC 2147483647 h18))))) ++ [tC (nt (andT (leL (-2147483648) h17) (leC 2147483647 h18))), tT]) (by kernel_rfl)).to (by clear E1 E2 E3 E4 E5; (try simp only [sl0, wk, wkL, wkO, eqCells, eqCell, mayX, regM, mayS, longM, widthM, jumpM, ccM] at *); (simp [wk, wkL, wkO, eqCells, eqCell, mayX, regM, mayS, longM, widthM, jumpM, ccM, *]; omega))
 exact (o28 (d := .bool false) (E1 ++ List.replicate 4 (tC (eF (nt h6))) ++ [tC (nt h6), tF, tF, tF, tF, tT, tF, tF, tF, tF, tT, tF, tF, tF, tF, tT, tF, tF, tF, tF, tT, tT]) (by kernel_rfl)).to (by clear E1; (try simp only [sl0, wk, wkL, wkO, eqCells, eqCell, mayX, regM, mayS, longM, widthM, jumpM, ccM] at *); (rw [Bool.eq_iff_iff]; simp [wk, wkL, wkO, eqCells, eqCell, mayX, regM, mayS, longM, widthM, jumpM, ccM, *]; grind))
end Go.Proofs.YtcngafhpodeenaaGreat
