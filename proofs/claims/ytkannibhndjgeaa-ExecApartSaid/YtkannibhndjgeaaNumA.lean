/- modrm.Num of four bytes: walked, and as a contract. -/
import Derived.Test.YtkannibhndjgeaaXB0
import Derived.WalkKit
import Derived.IntWalk
import Derived.KernelRfl
import Derived.LoopN
namespace Go.Proofs.Ytkannibhndjgeaa
open Go Go.RowKit Go.Ev
set_option linter.unusedVariables false
set_option linter.unusedSimpArgs false
set_option maxRecDepth 100000

set_option maxHeartbeats 4000000 in
theorem num4_walk (v : Int) (h0 : -2147483648 ≤ v) (h1 : v ≤ 2147483647) (w : World) :
    Calls Try.prog 78 #[.int .i64 v, .int .i64 4] w fun e w' => e = .returned (.tuple #[.slice (some ⟨w.heap.size, 0, none⟩) 4 4, .int .i64 0]) ∧
      w' = w.alloc (.cells #[.int .u8 (v % 256), .int .u8 (v / 256 % 256), .int .u8 (v / 65536 % 256), .int .u8 (v / 16777216 % 256)] 5) := by
  have hmk : ∀ w, (Instr.makeSlice 69 (.int .i64 4) (.int .i64 4)).run Try.prog w = .ok (.slice (some ⟨w.heap.size, 0, none⟩) 4 4) (w.alloc (.cells #[.int .u8 0, .int .u8 0, .int .u8 0, .int .u8 0] 5)) := fun _ => by kernel_rfl
  go_enter Try.func78, Try.ntmps78
  go_wp2
  refine wp_loop_rounds 5 ?_
  rw [rounds_succ]; go_wp2
  rw [rounds_succ]; go_wp2
  rw [rounds_succ]; go_wp2
  rw [rounds_succ]; go_wp2
  rw [rounds_succ]; go_wp2
  go_ret2
  exact ⟨rfl, rfl⟩

/-- A new block of bytes is laid. -/
theorem ext_alloc {C : Nat → Nat → Option Value} {w : World} (hC : ∀ b o v, C b o = some v → w.cell? ⟨b, o, none⟩ = some v) (cells : Array Value) (ty : TypeId) :
    Ext (bareOf C) w (bareOf fun b o => if b = w.heap.size then cells[o]? else C b o) (w.alloc (.cells cells ty)) := by
  have hlt : ∀ b o v, C b o = some v → b < w.heap.size := fun b o v h => World.block_lt_of_cell? w _ (hC b o v h)
  refine ⟨(Below.refl _ _).alloc (Nat.le_refl _) _, ?_, ?_, ?_⟩
  · intro b o v h
    have := hlt b o v h
    show (if b = w.heap.size then cells[o]? else C b o) = some v
    rw [if_neg (by omega)]
    exact h
  · intro b o v h hb
    have h' : (if b = w.heap.size then cells[o]? else C b o) = some v := h
    rw [if_neg (by omega)] at h'
    exact h'
  · intro b o v h
    have h' : (if b = w.heap.size then cells[o]? else C b o) = some v := h
    split at h'
    · rename_i e
      subst e
      have hh : (w.alloc (.cells cells ty)).heap[w.heap.size]? = some (.cells cells ty) := by
        show (w.heap.push _)[w.heap.size]? = _
        simp
      simp only [World.cell?, hh]
      exact h'
    · have hb := hlt b o v h'
      rw [World.cell?_alloc_lt _ _ _ hb]
      exact hC b o v h'
theorem rep_new {C : Nat → Nat → Option Value} {b : Nat} {k : IntKind} (xs : List Int) (cells : Array Value) (hc : cells = (xs.map fun n => Value.int k n).toArray) :
    Rep (bareOf fun b' o => if b' = b then cells[o]? else C b' o) (.lst .tight 1 (xs.map fun n => .int k n)) (.slice (some ⟨b, 0, none⟩) xs.length xs.length) := by
  subst hc
  have key : ∀ (i : Nat) (x : D) (cs : List D) (j : Nat) (c : D), (xs.map fun n => D.int k n)[i]? = some x → x.cells = some cs → cs[j]? = some c → ∃ n, xs[i]? = some n ∧ c = .int k n ∧ j = 0 := by
    intro i x cs j c h1 h2 h3
    rw [List.getElem?_map, Option.map_eq_some_iff] at h1
    obtain ⟨n, hn, rfl⟩ := h1
    simp only [D.cells, Option.some.injEq] at h2
    subst h2
    cases j with
    | zero => simp at h3; exact ⟨n, hn, h3.symm, rfl⟩
    | succ j => simp at h3
  refine .lst b 0 (fun i _ => .int k (xs.getD i 0)) (by simp) (Nat.le_refl _) (fun _ => rfl) ?_ ?_ ?_ ?_ rfl
  · intro i x hx
    rw [List.getElem?_map, Option.map_eq_some_iff] at hx
    obtain ⟨n, hn, rfl⟩ := hx
    exact ⟨[.int k n], rfl, rfl⟩
  · intro i x cs j c h1 h2 h3
    obtain ⟨n, hn, rfl, rfl⟩ := key i x cs j c h1 h2 h3
    simp [bareOf, hn]
  · intro i x cs j c h1 h2 h3
    obtain ⟨n, hn, rfl, rfl⟩ := key i x cs j c h1 h2 h3
    simp only [List.getD_eq_getElem?_getD, hn, Option.getD_some]
    exact .int k n
  · intro i x cs c h1 h2 h3
    rw [List.getElem?_map, Option.map_eq_some_iff] at h1
    obtain ⟨n, hn, rfl⟩ := h1
    simp only [D.cells, Option.some.injEq] at h2
    subst h2
    simp at h3
    subst h3
    rfl

theorem num4_ok (v : Int) (h0 : -2147483648 ≤ v) (h1 : v ≤ 2147483647) : Ret Try.prog 78 [.int .i64 v, .int .i64 4] (.tup [.lst .tight 1 [.int .u8 (v % 256), .int .u8 (v / 256 % 256), .int .u8 (v / 65536 % 256), .int .u8 (v / 16777216 % 256)], .int .i64 0]) := by
  refine ⟨⟨_, _, Try.func78, rfl, by kernel_rfl⟩, fun w C vs hC ha => ?_⟩
  obtain ⟨hl, hr⟩ := ha
  obtain ⟨a, b, rfl⟩ : ∃ a b, vs = #[a, b] := by
    rcases vs with ⟨l⟩
    match l, hl with
    | [a, b], _ => exact ⟨a, b, rfl⟩
  have ra := hr 0 _ a rfl rfl
  have rb := hr 1 _ b rfl rfl
  cases ra
  cases rb
  refine Calls.mono (num4_walk v h0 h1 w) ?_
  rintro e w' ⟨rfl, rfl⟩
  have rl := rep_new (C := C) (b := w.heap.size) (k := .u8) [v % 256, v / 256 % 256, v / 65536 % 256, v / 16777216 % 256] _ rfl
  refine ⟨_, _, rfl, ext_alloc hC _ _, .tup rfl ?_, ?_⟩
  · intro i d u p q
    match i, p, q with
    | 0, p, q => simp at p q; subst p q; exact rl
    | 1, p, q => simp at p q; subst p q; exact .int _ _
  · refine ⟨fun sz sz' xs h => (by cases h), ?_⟩
    intro ds vs hd hv i sz sz' xs hi
    simp only [D.tup.injEq] at hd
    subst hd
    match i, hi with
    | 0, hi => simp at hi
    | 1, hi => simp at hi
end Go.Proofs.Ytkannibhndjgeaa
