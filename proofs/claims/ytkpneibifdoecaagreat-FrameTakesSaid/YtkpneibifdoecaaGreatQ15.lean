/- Contracts and plain laws that a statement's proof leans on (texts merged: FT6). -/
import Derived.Test.YtkpneibifdoecaaGreatQ10
import Derived.Test.YtkpneibifdoecaaGreatQ14
set_option linter.unusedVariables false
set_option linter.unusedSimpArgs false
set_option maxRecDepth 100000
namespace Go.Proofs.YtkpneibifdoecaaGreat
open Go Go.Ev
def u64s (s : List Int) : List D := s.map (.int .u64)
theorem u64s_clean (s : List Int) : ∀ c ∈ u64s s, c.clean = true := by
 intro c hc
 obtain ⟨n, _, rfl⟩ := List.mem_map.1 hc
 rfl
theorem u64s_demote (s : List Int) : (u64s s).map D.demote = u64s s := by
 simp only [u64s, List.map_map]
 rfl
theorem u64s_set (s : List Int) (i : Nat) (v : Int) : (u64s s).set i (.int .u64 v) = u64s (s.set i v) := by simp [u64s, List.map_set]
theorem u64s_get {s : List Int} {i : Nat} (h : i < s.length) : (u64s s)[i]? = some (.int .u64 (s.getD i 0)) := by
 simp [u64s, h, List.getD_eq_getElem?_getD]
theorem w8 {n : Int} (h : 0 ≤ n ∧ n < 11) : IntKind.i64.wrap (8 * IntKind.i64.wrap n) = 8 * n := by rw [w_i64, w_i64]; omega
theorem at_slot {m : MachS} {s : List Int} {k n v : Int} (hl : s.length = 11) (hn : 0 ≤ n ∧ n < 11) (hk : k = 2) (h : atM m s k n = v) : (u64s s)[n.toNat * 1]? = some (.int .u64 v) := by
 unfold atM at h
 rw [if_neg (by omega), if_pos hk] at h
 rw [Nat.mul_one, u64s_get (by omega), h]
theorem at_slot0 {m : MachS} {s : List Int} {k n v : Int} (hl : s.length = 11) (hn : 0 ≤ n ∧ n < 11) (hk : k = 2) (h : atM m s k n = v) : (u64s s)[0 + n.toNat * 1]? = some (.int .u64 v) := by
 rw [Nat.zero_add]; exact at_slot hl hn hk h
theorem at_home {m : MachS} {s : List Int} {k n v : Int} (hk : k = 1) (h : atM m s k n = v) : (rg m.rl n == v) = true := by
 unfold atM at h
 rw [if_pos hk] at h
 rw [h, beq_self_eq_true]
theorem kb {k : Int} : (k = 0 → (k == 2) = false ∧ (k == 1) = false ∧ (k == 0) = true) ∧ (k = 1 → (k == 2) = false ∧ (k == 1) = true ∧ (k == 0) = false) ∧ (k = 2 → (k == 2) = true ∧ (k == 1) = false ∧ (k == 0) = false) := by
 refine ⟨?_, ?_, ?_⟩ <;> (rintro rfl; decide)
theorem nx (k : Nat) (h : k ≤ 11) : IntKind.i64.wrap ((k : Int) + 1) = ((k + 1 : Nat) : Int) := by rw [w_i64]; omega
theorem home_le {k n : Int} (h : plOK k n = true) (hk : k = 1) : 0 ≤ n ∧ n ≤ 15 := by
 have := home_rg h hk; omega
section
variable {p : PlS} {r m1 m2 : MachS} {s s2 : List Int} {gx : List D} {reg phys : Int}
theorem fa_rounds (hm : p.may = true) (hl : s.length = 11) (u0 : 0 ≤ phys) (u1 : phys ≤ 15) (hk : ∀ i : Int, 0 ≤ i → i ≤ 10 → atM m1 s (p.k i) (p.n i) = atM (zM r) s (p.k i) (p.n i)) : ∀ j k : Nat, k + j = 11 →
  Rounds Tryz.prog (loopB Tryz.f4 0) 18 (faT gx reg phys k) (fS p r m1 (u64s s) (u64s s) 2) (.exit 0) (faU gx reg phys) (fS p r m1 (u64s s) (u64s s) 2)
 | 0, k, hj => by
  have := fa_end p r m1 (u64s s) (u64s s) gx (u64s_clean s) (u64s_clean s) reg phys k (by omega) u0 u1 (by omega)
  rw [u64s_demote] at this
  exact Rounds.last this (fun h => by cases h)
 | j + 1, k, hj => by
  have ih := fa_rounds hm hl u0 u1 hk j (k + 1) (by omega)
  have hp := PlS.may_at hm (i := k) (by omega) (by omega)
  have he := hk k (by omega) (by omega)
  rcases plOK_form hp with ⟨h1, h2⟩ | ⟨h1, h2⟩ | ⟨h1, h2, h3⟩
  ·obtain ⟨a, b, c⟩ := kb.1 h1
   have := fa_0 p r m1 (u64s s) (u64s s) gx (u64s_clean s) (u64s_clean s) reg phys k (by omega) u0 u1 (by omega) b a
   rw [u64s_demote, nx k (by omega)] at this
   exact Rounds.more this ih
  ·obtain ⟨a, b, c⟩ := kb.2.1 h1
   have hh := home_le hp h1
   have e2 : atM (zM r) s (p.k k) (p.n k) = rg r.rl (p.n k) := by unfold atM; rw [if_pos h1]; rfl
   have := fa_1 p r m1 (u64s s) (u64s s) gx (u64s_clean s) (u64s_clean s) reg phys k (by omega) u0 u1 (by omega) b a hh.1 hh.2 (at_home h1 (he.trans e2))
   rw [u64s_demote, nx k (by omega)] at this
   exact Rounds.more this ih
  ·obtain ⟨a, b, c⟩ := kb.2.2 h1
   have := fa_2 p r m1 (u64s s) (u64s s) gx (u64s_clean s) (u64s_clean s) reg phys k (by omega) u0 u1 (by omega) b a h2 h3 _ (at_slot0 hl ⟨h2, h3⟩ h1 rfl) (at_slot hl ⟨h2, h3⟩ h1 he)
   rw [u64s_demote, nx k (by omega)] at this
   exact Rounds.more this ih
theorem fb20_rounds (hm : p.may = true) (hl : s.length = 11) (hl2 : s2.length = 11) (u0 : 0 ≤ phys) (u1 : phys ≤ 15) (hk : ∀ i : Int, 0 ≤ i → i ≤ 10 → atM m2 s2 (p.k i) (p.n i) = if i = reg ∧ p.k i ≠ 0 then rg r.rl phys else atM (zM r) s (p.k i) (p.n i)) : ∀ j k : Nat, k + j = 11 →
  Rounds Tryz.prog (loopB Tryz.f4 1) 20 (fbT reg phys k) (fS p r m2 (u64s s) (u64s s2) 4) (.exit 2) fbU (List.replicate 20 .dead)
 | 0, k, hj => Rounds.last (fb20_end p r m2 (u64s s) (u64s s2) [] (u64s_clean s) (u64s_clean s2) reg phys k (by omega) u0 u1 (by omega)) (fun h => by cases h)
 | j + 1, k, hj => by
  have ih := fb20_rounds hm hl hl2 u0 u1 hk j (k + 1) (by omega)
  have hp := PlS.may_at hm (i := k) (by omega) (by omega)
  have he := hk k (by omega) (by omega)
  by_cases hi : (k : Int) = reg
  ·have hb : ((k : Int) == reg) = true := by rw [beq_iff_eq]; exact hi
   rcases plOK_form hp with ⟨h1, h2⟩ | ⟨h1, h2⟩ | ⟨h1, h2, h3⟩
   ·obtain ⟨a, b, c⟩ := kb.1 h1
    have := fb20_r0 p r m2 (u64s s) (u64s s2) [] (u64s_clean s) (u64s_clean s2) reg phys k (by omega) u0 u1 (by omega) hb c b a
    rw [u64s_demote, u64s_demote, nx k (by omega)] at this
    exact Rounds.more this ih
   ·obtain ⟨a, b, c⟩ := kb.2.1 h1
    have hh := home_le hp h1
    rw [if_pos ⟨hi, by omega⟩] at he
    have := fb20_r1 p r m2 (u64s s) (u64s s2) [] (u64s_clean s) (u64s_clean s2) reg phys k (by omega) u0 u1 (by omega) hb c b a hh.1 hh.2 (at_home h1 he)
    rw [u64s_demote, u64s_demote, nx k (by omega)] at this
    exact Rounds.more this ih
   ·obtain ⟨a, b, c⟩ := kb.2.2 h1
    rw [if_pos ⟨hi, by omega⟩] at he
    have := fb20_r2 p r m2 (u64s s) (u64s s2) [] (u64s_clean s) (u64s_clean s2) reg phys k (by omega) u0 u1 (by omega) hb c b a h2 h3 _ (at_slot0 (m := zM r) hl ⟨h2, h3⟩ h1 rfl) (at_slot hl2 ⟨h2, h3⟩ h1 he)
    rw [u64s_demote, u64s_demote, nx k (by omega)] at this
    exact Rounds.more this ih
  ·have hb : ((k : Int) == reg) = false := by rw [beq_eq_false_iff_ne]; exact hi
   rw [if_neg (fun h => hi h.1)] at he
   rcases plOK_form hp with ⟨h1, h2⟩ | ⟨h1, h2⟩ | ⟨h1, h2, h3⟩
   ·obtain ⟨a, b, c⟩ := kb.1 h1
    have := fb20_n0 p r m2 (u64s s) (u64s s2) [] (u64s_clean s) (u64s_clean s2) reg phys k (by omega) u0 u1 (by omega) hb b a
    rw [u64s_demote, u64s_demote, nx k (by omega)] at this
    exact Rounds.more this ih
   ·obtain ⟨a, b, c⟩ := kb.2.1 h1
    have hh := home_le hp h1
    have e2 : atM (zM r) s (p.k k) (p.n k) = rg r.rl (p.n k) := by unfold atM; rw [if_pos h1]; rfl
    have := fb20_n1 p r m2 (u64s s) (u64s s2) [] (u64s_clean s) (u64s_clean s2) reg phys k (by omega) u0 u1 (by omega) hb b a hh.1 hh.2 (at_home h1 (he.trans e2))
    rw [u64s_demote, u64s_demote, nx k (by omega)] at this
    exact Rounds.more this ih
   ·obtain ⟨a, b, c⟩ := kb.2.2 h1
    have := fb20_n2 p r m2 (u64s s) (u64s s2) [] (u64s_clean s) (u64s_clean s2) reg phys k (by omega) u0 u1 (by omega) hb b a h2 h3 _ (at_slot0 hl ⟨h2, h3⟩ h1 rfl) (at_slot hl2 ⟨h2, h3⟩ h1 he)
    rw [u64s_demote, u64s_demote, nx k (by omega)] at this
    exact Rounds.more this ih
theorem fb23_rounds (hm : p.may = true) (hl : s.length = 11) (hl2 : s2.length = 11) (u0 : 0 ≤ phys) (u1 : phys ≤ 15) (hk : ∀ i : Int, 0 ≤ i → i ≤ 10 → atM m2 s2 (p.k i) (p.n i) = if i = reg ∧ p.k i ≠ 0 then rg r.rl phys else atM (zM r) s (p.k i) (p.n i)) : ∀ j k : Nat, k + j = 11 →
  Rounds Tryz.prog (loopB Tryz.f4 1) 23 (fbT reg phys k) (fS p r m2 (u64s s) (u64s s2) 7) (.exit 2) fbU (List.replicate 23 .dead)
 | 0, k, hj => Rounds.last (fb23_end p r m2 (u64s s) (u64s s2) [] (u64s_clean s) (u64s_clean s2) reg phys k (by omega) u0 u1 (by omega)) (fun h => by cases h)
 | j + 1, k, hj => by
  have ih := fb23_rounds hm hl hl2 u0 u1 hk j (k + 1) (by omega)
  have hp := PlS.may_at hm (i := k) (by omega) (by omega)
  have he := hk k (by omega) (by omega)
  by_cases hi : (k : Int) = reg
  ·have hb : ((k : Int) == reg) = true := by rw [beq_iff_eq]; exact hi
   rcases plOK_form hp with ⟨h1, h2⟩ | ⟨h1, h2⟩ | ⟨h1, h2, h3⟩
   ·obtain ⟨a, b, c⟩ := kb.1 h1
    have := fb23_r0 p r m2 (u64s s) (u64s s2) [] (u64s_clean s) (u64s_clean s2) reg phys k (by omega) u0 u1 (by omega) hb c b a
    rw [u64s_demote, u64s_demote, nx k (by omega)] at this
    exact Rounds.more this ih
   ·obtain ⟨a, b, c⟩ := kb.2.1 h1
    have hh := home_le hp h1
    rw [if_pos ⟨hi, by omega⟩] at he
    have := fb23_r1 p r m2 (u64s s) (u64s s2) [] (u64s_clean s) (u64s_clean s2) reg phys k (by omega) u0 u1 (by omega) hb c b a hh.1 hh.2 (at_home h1 he)
    rw [u64s_demote, u64s_demote, nx k (by omega)] at this
    exact Rounds.more this ih
   ·obtain ⟨a, b, c⟩ := kb.2.2 h1
    rw [if_pos ⟨hi, by omega⟩] at he
    have := fb23_r2 p r m2 (u64s s) (u64s s2) [] (u64s_clean s) (u64s_clean s2) reg phys k (by omega) u0 u1 (by omega) hb c b a h2 h3 _ (at_slot0 (m := zM r) hl ⟨h2, h3⟩ h1 rfl) (at_slot hl2 ⟨h2, h3⟩ h1 he)
    rw [u64s_demote, u64s_demote, nx k (by omega)] at this
    exact Rounds.more this ih
  ·have hb : ((k : Int) == reg) = false := by rw [beq_eq_false_iff_ne]; exact hi
   rw [if_neg (fun h => hi h.1)] at he
   rcases plOK_form hp with ⟨h1, h2⟩ | ⟨h1, h2⟩ | ⟨h1, h2, h3⟩
   ·obtain ⟨a, b, c⟩ := kb.1 h1
    have := fb23_n0 p r m2 (u64s s) (u64s s2) [] (u64s_clean s) (u64s_clean s2) reg phys k (by omega) u0 u1 (by omega) hb b a
    rw [u64s_demote, u64s_demote, nx k (by omega)] at this
    exact Rounds.more this ih
   ·obtain ⟨a, b, c⟩ := kb.2.1 h1
    have hh := home_le hp h1
    have e2 : atM (zM r) s (p.k k) (p.n k) = rg r.rl (p.n k) := by unfold atM; rw [if_pos h1]; rfl
    have := fb23_n1 p r m2 (u64s s) (u64s s2) [] (u64s_clean s) (u64s_clean s2) reg phys k (by omega) u0 u1 (by omega) hb b a hh.1 hh.2 (at_home h1 (he.trans e2))
    rw [u64s_demote, u64s_demote, nx k (by omega)] at this
    exact Rounds.more this ih
   ·obtain ⟨a, b, c⟩ := kb.2.2 h1
    have := fb23_n2 p r m2 (u64s s) (u64s s2) [] (u64s_clean s) (u64s_clean s2) reg phys k (by omega) u0 u1 (by omega) hb b a h2 h3 _ (at_slot0 hl ⟨h2, h3⟩ h1 rfl) (at_slot hl2 ⟨h2, h3⟩ h1 he)
    rw [u64s_demote, u64s_demote, nx k (by omega)] at this
    exact Rounds.more this ih
theorem fb24_rounds (hm : p.may = true) (hl : s.length = 11) (hl2 : s2.length = 11) (u0 : 0 ≤ phys) (u1 : phys ≤ 15) (hk : ∀ i : Int, 0 ≤ i → i ≤ 10 → atM m2 s2 (p.k i) (p.n i) = if i = reg ∧ p.k i ≠ 0 then rg r.rl phys else atM (zM r) s (p.k i) (p.n i)) : ∀ j k : Nat, k + j = 11 →
  Rounds Tryz.prog (loopB Tryz.f4 1) 24 (fbT reg phys k) (fS p r m2 (u64s s) (u64s s2) 8) (.exit 2) fbU (List.replicate 24 .dead)
 | 0, k, hj => Rounds.last (fb24_end p r m2 (u64s s) (u64s s2) [] (u64s_clean s) (u64s_clean s2) reg phys k (by omega) u0 u1 (by omega)) (fun h => by cases h)
 | j + 1, k, hj => by
  have ih := fb24_rounds hm hl hl2 u0 u1 hk j (k + 1) (by omega)
  have hp := PlS.may_at hm (i := k) (by omega) (by omega)
  have he := hk k (by omega) (by omega)
  by_cases hi : (k : Int) = reg
  ·have hb : ((k : Int) == reg) = true := by rw [beq_iff_eq]; exact hi
   rcases plOK_form hp with ⟨h1, h2⟩ | ⟨h1, h2⟩ | ⟨h1, h2, h3⟩
   ·obtain ⟨a, b, c⟩ := kb.1 h1
    have := fb24_r0 p r m2 (u64s s) (u64s s2) [] (u64s_clean s) (u64s_clean s2) reg phys k (by omega) u0 u1 (by omega) hb c b a
    rw [u64s_demote, u64s_demote, nx k (by omega)] at this
    exact Rounds.more this ih
   ·obtain ⟨a, b, c⟩ := kb.2.1 h1
    have hh := home_le hp h1
    rw [if_pos ⟨hi, by omega⟩] at he
    have := fb24_r1 p r m2 (u64s s) (u64s s2) [] (u64s_clean s) (u64s_clean s2) reg phys k (by omega) u0 u1 (by omega) hb c b a hh.1 hh.2 (at_home h1 he)
    rw [u64s_demote, u64s_demote, nx k (by omega)] at this
    exact Rounds.more this ih
   ·obtain ⟨a, b, c⟩ := kb.2.2 h1
    rw [if_pos ⟨hi, by omega⟩] at he
    have := fb24_r2 p r m2 (u64s s) (u64s s2) [] (u64s_clean s) (u64s_clean s2) reg phys k (by omega) u0 u1 (by omega) hb c b a h2 h3 _ (at_slot0 (m := zM r) hl ⟨h2, h3⟩ h1 rfl) (at_slot hl2 ⟨h2, h3⟩ h1 he)
    rw [u64s_demote, u64s_demote, nx k (by omega)] at this
    exact Rounds.more this ih
  ·have hb : ((k : Int) == reg) = false := by rw [beq_eq_false_iff_ne]; exact hi
   rw [if_neg (fun h => hi h.1)] at he
   rcases plOK_form hp with ⟨h1, h2⟩ | ⟨h1, h2⟩ | ⟨h1, h2, h3⟩
   ·obtain ⟨a, b, c⟩ := kb.1 h1
    have := fb24_n0 p r m2 (u64s s) (u64s s2) [] (u64s_clean s) (u64s_clean s2) reg phys k (by omega) u0 u1 (by omega) hb b a
    rw [u64s_demote, u64s_demote, nx k (by omega)] at this
    exact Rounds.more this ih
   ·obtain ⟨a, b, c⟩ := kb.2.1 h1
    have hh := home_le hp h1
    have e2 : atM (zM r) s (p.k k) (p.n k) = rg r.rl (p.n k) := by unfold atM; rw [if_pos h1]; rfl
    have := fb24_n1 p r m2 (u64s s) (u64s s2) [] (u64s_clean s) (u64s_clean s2) reg phys k (by omega) u0 u1 (by omega) hb b a hh.1 hh.2 (at_home h1 (he.trans e2))
    rw [u64s_demote, u64s_demote, nx k (by omega)] at this
    exact Rounds.more this ih
   ·obtain ⟨a, b, c⟩ := kb.2.2 h1
    have := fb24_n2 p r m2 (u64s s) (u64s s2) [] (u64s_clean s) (u64s_clean s2) reg phys k (by omega) u0 u1 (by omega) hb b a h2 h3 _ (at_slot0 hl ⟨h2, h3⟩ h1 rfl) (at_slot hl2 ⟨h2, h3⟩ h1 he)
    rw [u64s_demote, u64s_demote, nx k (by omega)] at this
    exact Rounds.more this ih
end
theorem ex_do {m m1 : MachS} {x : XS} {v : Int} (ho : x.op ≤ 127) (e : execS m x v = (m1, 0)) : Ret Tryz.prog 55 [.agg (maC m), xD x.op x.w x.dst x.src x.base x.disp x.imm x.cc, .int .u64 v] (.tup [.agg (maC m1), .int .i64 0]) := by
 have := exec_s_ok m x v ho
 rw [e] at this
 exact this
def sl11 (s : Int → Int) : List Int := [s 0, s 1, s 2, s 3, s 4, s 5, s 6, s 7, s 8, s 9, s 10]
theorem takes_any (p : PlS) (r : MachS) (s : Int → Int) (reg phys : Int) (hph : phys ≤ 127) : Ret Tryz.prog 4 [.agg (plC p), .int .i64 reg, .int .i8 phys, .agg (reC r), .agg (slC s)] (.bool true) := by
 by_cases hg0 : 0 ≤ reg
 case neg => exact ft_err_ok p r s reg phys (take_n1_ok p reg phys (by omega)) (give_n1_ok p reg phys (by omega))
 by_cases hg1 : reg ≤ 10
 case neg => exact ft_err_ok p r s reg phys (take_n2_ok p reg phys (by omega)) (give_n2_ok p reg phys (by omega))
 by_cases h0 : 0 ≤ phys
 case neg => exact ft_err_ok p r s reg phys (take_n3_ok p reg phys hg0 hg1 (by omega)) (give_n3_ok p reg phys hg0 hg1 (by omega))
 have hI := itake_ok phys h0 hph
 cases hs : scrM phys with
 | false =>
  rw [hs] at hI
  exact ft_err_ok p r s reg phys (take_n4_ok p reg phys hg0 hg1 h0 hI) (give_n4_ok p reg phys hg0 hg1 h0 hI)
 | true =>
 rw [hs] at hI
 have hM := aMay_ok p
 cases hm : p.may with
 | false =>
  rw [hm] at hM
  exact ft_err_ok p r s reg phys (take_n5_ok p reg phys hg0 hg1 h0 hI hM) (give_n5_ok p reg phys hg0 hg1 h0 hI hM)
 | true =>
 rw [hm] at hM
 have hR := rMay_ok p
 rw [hm] at hR
 have hS := rscr_ok phys
 rw [hs] at hS
 have hA := ap_ok p
 have hsc : phys = 0 ∨ phys = 1 ∨ phys = 2 ∨ phys = 11 := by unfold scrM at hs; simpa using hs
 have hd : 0 ≤ phys ∧ phys ≤ 15 := by omega
 have hp := PlS.may_at hm hg0 hg1
 have hl : (sl11 s).length = 11 := rfl
 rcases plOK_form hp with ⟨k1, k2⟩ | ⟨k1, k2⟩ | ⟨k1, k2, k3⟩
 ·obtain ⟨a, b, c⟩ := kb.1 k1
  have hT := take_0_ok p reg phys hg0 hg1 h0 hI hM a b
  have hG : Ret Tryz.prog 15 [.int .i64 reg, .int .i8 phys, .agg (plC p)] (.tup [.lst .no 8 [], .int .i64 0]) := (give_0_ok p reg phys hg0 hg1 h0 hI hM a b).to (by exact ⟨⟨rfl, .inr rfl, trivial, .inl rfl⟩, rfl, trivial⟩)
  cases hap : p.apart with
  | false => rw [hap] at hA; exact fs_0_ok p r s reg phys 0 hg0 hg1 hR hS hd.1 hd.2 hA hT hG
  | true =>
   rw [hap] at hA
   obtain ⟨q, e⟩ := ex_put (m := zM r) (dst := phys) (n := 0) (v := 0) hd (by decide)
   have hk := keeps_put (m := zM r) (s := sl11 s) (p := q) (v := 0) hsc
   have hA1 := LoopRun.of_rounds (show 18 ≤ 18 by decide) (fa_rounds (gx := []) (reg := reg) hm hl hd.1 hd.2 (fun i i0 i1 => hk.at_ _ _ (PlS.may_at hm i0 i1) (by rcases plOK_form (PlS.may_at hm i0 i1) with w | w | w <;> omega)) 11 0 rfl)
   have hB1 := LoopRun.of_rounds (show 20 ≤ 20 by decide) (fb20_rounds (r := r) (m2 := zM r) (s2 := sl11 s) hm hl hl hd.1 hd.2 (fun i i0 i1 => given_at hm hap hg0 hg1 ⟨rfl, rfl, fun _ _ _ _ => rfl⟩ (fun h => absurd k1 h) i0 i1) 11 0 rfl)
   exact ft_0_ok p r s reg phys hg0 hg1 hR hS hd.1 hd.2 hA b a hT hG _ (zM r) (ex_do (x := putX phys 0) (show (1 : Int) ≤ 127 by decide) e) (by rw [rg_put phys hd.1 hd.2, if_pos rfl]; rfl) hA1 hB1
 ·obtain ⟨a, b, c⟩ := kb.2.1 k1
  have hh := home_le hp k1
  have hT := take_1_ok p reg phys hg0 hg1 h0 hI hM a b
  have hG := give_1_ok p reg phys hg0 hg1 h0 hI hM a b
  cases hap : p.apart with
  | false => rw [hap] at hA; exact fs_1_ok p r s reg phys 0 hg0 hg1 hR hS hd.1 hd.2 hA hT hG
  | true =>
   rw [hap] at hA
   obtain ⟨q, e⟩ := ex_mov (m := zM r) (dst := phys) (src := p.n reg) (v := 0) hd hh
   obtain ⟨q2, e2⟩ := ex_mov (m := zM r) (dst := p.n reg) (src := phys) (v := 0) hh hd
   have hk := keeps_put (m := zM r) (s := sl11 s) (p := q) (v := rg (zM r).rl (p.n reg)) hsc
   have hp1 : plOK 1 (p.n reg) = true := by rw [← k1]; exact hp
   obtain ⟨h1, h2⟩ := keeps_home (m := zM r) (s := sl11 s) (p := q2) (v := rg (zM r).rl phys) hp1
   rw [← k1] at h1 h2
   have hA1 := LoopRun.of_rounds (show 18 ≤ 18 by decide) (fa_rounds (gx := [xD 0 64 (p.n reg) phys 0 0 0 0]) (reg := reg) hm hl hd.1 hd.2 (fun i i0 i1 => hk.at_ _ _ (PlS.may_at hm i0 i1) (by rcases plOK_form (PlS.may_at hm i0 i1) with w | w | w <;> omega)) 11 0 rfl)
   have hB1 := LoopRun.of_rounds (show 23 ≤ 23 by decide) (fb23_rounds (r := r) hm hl hl hd.1 hd.2 (fun i i0 i1 => given_at hm hap hg0 hg1 h1 (fun _ => h2) i0 i1) 11 0 rfl)
   exact ft_1_ok p r s reg phys hg0 hg1 hR hS hd.1 hd.2 hA b a hh.1 hh.2 hT hG _ _ (ex_do (x := ⟨0, 64, phys, p.n reg, 0, 0, 0, 0⟩) (show (0 : Int) ≤ 127 by decide) e) (by rw [rg_put phys hd.1 hd.2, if_pos rfl]; exact beq_self_eq_true _) (ex_do (x := ⟨0, 64, p.n reg, phys, 0, 0, 0, 0⟩) (show (0 : Int) ≤ 127 by decide) e2) hA1 hB1
 ·obtain ⟨a, b, c⟩ := kb.2.2 k1
  have hT := take_2_ok p reg phys hg0 hg1 h0 hI hM a b
  have hG := give_2_ok p reg phys hg0 hg1 h0 hI hM a b
  rw [w8 ⟨k2, k3⟩] at hT hG
  cases hap : p.apart with
  | false => rw [hap] at hA; exact fs_2_ok p r s reg phys (8 * p.n reg) hg0 hg1 hR hS hd.1 hd.2 hA hT hG
  | true =>
   rw [hap] at hA
   have hW : IntKind.i64.wrap ((8 * p.n reg).tdiv 8) = p.n reg := by
    rw [Int.mul_tdiv_cancel_left _ (by decide), w_i64]; omega
   obtain ⟨q, e⟩ := ex_load (m := zM r) (dst := phys) (n := p.n reg) (v := s (p.n reg)) hd ⟨k2, k3⟩
   obtain ⟨q2, e2⟩ := ex_store (m := zM r) (src := phys) (n := p.n reg) (v := s (p.n reg)) hd ⟨k2, k3⟩
   have hk := keeps_put (m := zM r) (s := sl11 s) (p := q) (v := s (p.n reg)) hsc
   obtain ⟨h1, h2⟩ := keeps_slot (m := zM r) (s := sl11 s) (p := q2) (v := rg (zM r).rl phys) hl ⟨k2, k3⟩
   rw [← k1] at h1 h2
   have hA1 := LoopRun.of_rounds (show 18 ≤ 18 by decide) (fa_rounds (gx := [xD 27 64 0 phys 4 (8 * p.n reg) 0 0]) (reg := reg) hm hl hd.1 hd.2 (fun i i0 i1 => hk.at_ _ _ (PlS.may_at hm i0 i1) (by rcases plOK_form (PlS.may_at hm i0 i1) with w | w | w <;> omega)) 11 0 rfl)
   have hB1 := LoopRun.of_rounds (show 24 ≤ 24 by decide) (fb24_rounds (r := r) hm hl (h1.len.trans hl) hd.1 hd.2 (fun i i0 i1 => given_at hm hap hg0 hg1 h1 (fun _ => h2) i0 i1) 11 0 rfl)
   have hos : List.map D.demote ((slC s).set (Int.toNat (IntKind.i64.wrap ((8 * p.n reg).tdiv 8)) * 1) (.int .u64 (rg r.rl phys))) = u64s ((sl11 s).set (p.n reg).toNat (rg (zM r).rl phys)) := by
    rw [hW, Nat.mul_one, show slC s = u64s (sl11 s) from rfl, u64s_set, u64s_demote]
    rfl
   refine ft_2_ok p r s reg phys hg0 hg1 hR hS hd.1 hd.2 hA b a k2 k3 (8 * p.n reg) (by rw [Int.mul_tmod_right]; rfl) (by rw [hW]; exact k2) (by rw [hW]; exact k3) hT hG _ _ (by rw [hW]; exact ex_do (x := ⟨26, 64, phys, 0, 4, 8 * p.n reg, 0, 0⟩) (show (26 : Int) ≤ 127 by decide) e) (by rw [rg_put phys hd.1 hd.2, if_pos rfl]; exact beq_self_eq_true _) (by rw [hW]; exact ex_do (x := storeX phys (p.n reg)) (show (27 : Int) ≤ 127 by decide) e2) (stored_ok (zM r) phys (8 * p.n reg) hd.1 hd.2 (may_store hd ⟨k2, k3⟩)) hA1 ?_
   rw [hos]
   exact hB1
end Go.Proofs.YtkpneibifdoecaaGreat
