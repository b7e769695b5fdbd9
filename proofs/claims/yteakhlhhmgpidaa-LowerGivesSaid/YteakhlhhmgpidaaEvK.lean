/- The evaluation of one operation is sound: all operations in one theorem. -/
import Derived.Test.YteakhlhhmgpidaaEvJ
namespace Go.Ev
open Go Go.RowKit
set_option linter.unusedVariables false
set_option linter.unusedSimpArgs false

section
variable {ρ' : Type} {P : Program} {r : ρ'} {o : Oper} {ρ : Operand → D}

theorem foldl_push (l : List D) (h : l.all isByte = true) : ∃ ns : List Int, l = ns.map (fun n => D.int .u8 n) ∧ strD l = ns.foldl (fun r n => r.push (UInt8.ofNat n.toNat)) ByteArray.empty := by
  have key : ∀ (l : List D) (s : ByteArray), l.all isByte = true → ∃ ns : List Int, l = ns.map (fun n => D.int .u8 n) ∧ (⟨s.data ++ (l.map byteOf).toArray⟩ : ByteArray) = ns.foldl (fun r n => r.push (UInt8.ofNat n.toNat)) s := by
    intro l
    induction l with
    | nil => intro s _; exact ⟨[], rfl, by simp⟩
    | cons d t ih =>
      intro s h
      rw [List.all_cons, Bool.and_eq_true] at h
      obtain ⟨n, rfl⟩ : ∃ n, d = .int .u8 n := by
        have h1 := h.1
        unfold isByte at h1
        split at h1
        · exact ⟨_, rfl⟩
        · cases h1
      obtain ⟨ns, e1, e2⟩ := ih (s.push (UInt8.ofNat n.toNat)) h.2
      refine ⟨n :: ns, by simp [e1], ?_⟩
      rw [List.foldl_cons, ← e2]
      congr 1
      apply Array.ext'
      simp [byteOf, ByteArray.push]
  obtain ⟨ns, e1, e2⟩ := key l ByteArray.empty h
  refine ⟨ns, e1, ?_⟩
  rw [← e2]
  unfold strD
  congr 1
  apply Array.ext'
  simp [ByteArray.empty, ByteArray.emptyWithCapacity]
  rfl

theorem convc_out {z : Z P} {src dst : TypeId} {x : Operand} {K : Z P → Eff → Option ρ'} (ho : o.op = .convert src dst x) (h : convc P z src dst (ρ x) K = some r) :
    ∃ e z', K z' e = some r ∧ (z'.c → z.c ∧ OpOK P o ρ e) ∧ ((∃ d, e = .pure d) ∨ ∃ q m, e = .new q m) := by
  unfold convc at h
  split at h
  · rename_i hs hd hx
    refine ⟨_, z, h, fun c => ⟨c, opOK_pure fun M w a _ hr => ?_⟩, .inl ⟨_, rfl⟩⟩
    have h1 := int_of_rep (hr x (by simp [ho, Op.operands])) hx
    rename_i d k _ n _
    exact ⟨.int _ _, by simp [execOp, ho, h1, convert, run_underlying hs, run_underlying hd, Conv.intToInt], .int _ _⟩
  · rename_i hs hd hx
    refine ⟨_, z, h, fun c => ⟨c, opOK_pure fun M w a _ hr => ?_⟩, .inl ⟨_, rfl⟩⟩
    have h1 := hr x (by simp [ho, Op.operands])
    rw [hx] at h1
    generalize hv : a.eval x = v at h1
    cases h1
    exact ⟨.string _, by simp [execOp, ho, hv, convert, run_underlying hs, run_underlying hd], .str _⟩
  · rename_i e s hs hd hx
    split at h
    · rename_i he
      refine ⟨_, z, h, fun c => ⟨c, ?_⟩, .inr ⟨_, _, rfl⟩⟩
      intro w0 M own σ w a id hw hr hpre next Q hn
      have h1 := hr x (by simp [ho, Op.operands])
      rw [hx] at h1
      generalize hv : a.eval x = v at h1
      cases h1
      -- the new row
      let cap := grownCap w s.size 0 e
      have hcap : s.size ≤ cap := grownCap_ge w _ _ _
      let arr : Array Value := (s.data.map fun b => Value.int .u8 b.toNat) ++ Array.replicate (cap - s.size) (.int .u8 0)
      have hss : s.data.size = s.size := rfl
      have harr : arr.size = cap := by simp [arr, hss]; omega
      have hrow : RowOf M 1 (bytesD s) arr := by
        have hb : ∀ {i : Nat} {x : D}, (bytesD s)[i]? = some x → ∃ c, s.data[i]? = some c ∧ x = byteD c := by
          intro i x hi
          unfold bytesD at hi
          rw [List.getElem?_map, Option.map_eq_some_iff] at hi
          obtain ⟨c, hc, rfl⟩ := hi
          exact ⟨c, by simpa using hc, rfl⟩
        refine ⟨?_, ?_, ?_, ?_⟩
        · rw [harr, Nat.mul_one]; simp [bytesD, hss]; exact hcap
        · intro i x hi
          obtain ⟨c, _, rfl⟩ := hb hi
          exact ⟨[byteD c], rfl, rfl⟩
        · intro i x cs j c hi hcs hj
          obtain ⟨b, hb1, rfl⟩ := hb hi
          simp only [byteD, D.cells, Option.some.injEq] at hcs
          subst hcs
          cases j with
          | succ j => simp at hj
          | zero =>
            simp at hj
            subst hj
            refine ⟨.int .u8 b.toNat, ?_, .int _ _⟩
            have hlt : i < s.data.size := by
              rcases Nat.lt_or_ge i s.data.size with q | q
              · exact q
              · simp [Array.getElem?_eq_none q] at hb1
            simp only [arr, Nat.mul_one, Nat.add_zero]
            rw [Array.getElem?_append_left (by simpa using hlt)]
            simp [hb1]
        · intro i x cs c hi hcs hcc
          obtain ⟨b, _, rfl⟩ := hb hi
          simp only [byteD, D.cells, Option.some.injEq] at hcs
          subst hcs
          simp at hcc
          subst hcc
          rfl
      have hlen : (bytesD s).length = s.size := by simp [bytesD, hss]
      have hx2 := ext_lay (M := M) (w := w) (wd := w.drew) (arr := arr) (ty := e) (n := s.size) hw.cells rfl (Below.refl _ _).drew (arr.size, arr.size + 1)
      obtain ⟨hw2, le2⟩ := hw.ext hx2 rfl rfl
      have hheap : (w.drew.alloc (.cells arr e (arr.size, arr.size + 1))).heap[w.heap.size]? = some (.cells arr e (arr.size, arr.size + 1)) := by
        show (w.heap.push _)[w.heap.size]? = _
        simp
      have hfree : own w.heap.size = none := by
        cases e : own w.heap.size with
        | none => rfl
        | some q => have := hw.owned _ _ e; omega
      obtain ⟨own', hw3⟩ := hw2.setFam (id := id) (ver := 0) (fun v _ => hpre.2 v) (a := some ⟨w.heap.size, 0, none⟩) (len := s.size) (cap := cap) 1
        (.inr ⟨w.heap.size, arr, e, (arr.size, arr.size + 1), rfl, hw.below.size, .inl hfree, hheap, fun o ho h => by have := h.1; simp at this; omega, by rw [harr]; omega, fun o ho => by
          simp only [MM.lay, MM.withCells, if_true]; rw [if_neg (by omega)]⟩)
      have le3 := MM.le_withHist (M := M.lay w.heap.size arr s.size) (id := id) (ver := 0) (v := .slice (some ⟨w.heap.size, 0, none⟩) s.size cap) (hpre.2 0)
      refine wp_value (v := .slice (some ⟨w.heap.size, 0, none⟩) s.size cap) (w' := w.drew.alloc (.cells arr e (arr.size, arr.size + 1))) ?_ (hn _ _ own' _ (le2.trans le3) ⟨fun _ _ => rfl, fun j hj => by funext k; simp [MM.withHist, hj, MM.lay, MM.withCells]⟩ hw3 ?_)
      · have hfz : (w.drew.alloc (.cells arr e)).freeze ⟨w.heap.size, arr.size, none⟩ 1 = w.drew.alloc (.cells arr e (arr.size, arr.size + 1)) := by
          unfold World.freeze World.alloc
          simp only [Nat.one_ne_zero, if_false]
          congr 1
          apply Array.ext_getElem?
          intro k
          rw [Array.getElem?_modify]
          by_cases e1 : w.heap.size = k
          · subst e1
            rw [if_pos rfl]
            show Option.map _ ((w.heap.push _)[w.heap.size]?) = (w.heap.push _)[w.heap.size]?
            simp
          · rw [if_neg e1]
            show (w.heap.push _)[k]? = (w.heap.push _)[k]?
            rw [Array.getElem?_push, Array.getElem?_push, if_neg (Ne.symm e1), if_neg (Ne.symm e1)]
        have hshape : (w.drew.alloc (.cells arr e)).shape? w.heap.size = some (e, arr.size) := by
          unfold World.shape?
          have : (w.drew.alloc (.cells arr e)).heap[w.heap.size]? = some (.cells arr e) := by
            show (w.heap.push _)[w.heap.size]? = _
            simp
          rw [this]
        have hforced : (Question.appendCap s.size 0 e).forced = false := rfl
        have hch : (choose (.appendCap s.size 0 e)).run P w = .ok cap w.drew := by
          rw [run_choose, hforced]; rfl
        have hrow2 : (newRow e arr).run P w.drew = .ok ⟨w.heap.size, 0, none⟩ (w.drew.alloc (.cells arr e)) := by simp [newRow]; rfl
        simp only [execOp, ho, hv, convert, Sem.run_bind, run_underlying hs, run_underlying hd, run_underlying he, Result.andThen_ok, Conv.stringToBytes, hch]
        rw [show (newRow e ((s.data.map fun b => Value.int .u8 b.toNat) ++ Array.replicate (cap - s.size) (.int .u8 0))) = newRow e arr from rfl, hrow2]
        simp only [Result.andThen_ok, markStringish, Sem.run_bind, run_shape, hshape, run_freeze, hfz, Sem.run_pure]
      · have h5 := rep_lay (M := M) (b := w.heap.size) (o := .no) (cap := cap) (n := s.size) hrow (cell_none_of_size hw.cells (Nat.le_refl _)) (by rw [hlen]; exact hcap) (by rw [hlen]; omega) trivial
        rw [hlen] at h5
        exact (h5.mono le3).flag _ (by simp [MM.owns, MM.withHist])
    · cases h
  · rename_i e ow sz xs hs hd hx
    split at h
    · rename_i he
      obtain ⟨z', h1, h2⟩ := ask_out h
      refine ⟨_, z', h1, fun c => ⟨(h2 c).1, opOK_pure fun M w a hw hr => ?_⟩, .inl ⟨_, rfl⟩⟩
      have hrx := hr x (by simp [ho, Op.operands])
      rw [hx] at hrx
      generalize hv : a.eval x = v at hrx
      obtain ⟨ns, e1, e2⟩ := foldl_push xs (h2 c).2
      cases hrx with
      | lst b off vs hl hcap ha hsz hc hrr hst ho' =>
        rename_i ad len cap
        have hrep : Rep M (.lst ow sz xs) (.slice ad len cap) := .lst b off vs hl hcap ha hsz hc hrr hst ho'
        have hsz1 : sz = 1 ∨ xs = [] := by
          cases xs with
          | nil => exact .inr rfl
          | cons d t =>
            left
            obtain ⟨cs, q1, q2⟩ := hsz 0 d rfl
            cases ns with
            | nil => simp at e1
            | cons n ns => simp at e1; rw [e1.1] at q1; simp [D.cells] at q1; subst q1; simpa using q2.symm
        obtain ⟨arr, os, orow, orun, _⟩ := rep_row (P := P) hrep hsz1 hw
        have harr : arr = (ns.map (Value.int .u8)).toArray := by
          apply Array.ext_getElem?
          intro k
          have hlen : xs.length = ns.length := by rw [e1]; simp
          rcases Nat.lt_or_ge k ns.length with q | q
          · have hxk : xs[k]? = some (.int .u8 ns[k]) := by rw [e1]; simp [q]
            obtain ⟨u, hu, hru⟩ := orow.get k _ [.int .u8 ns[k]] 0 _ hxk rfl rfl
            cases hru
            rw [Nat.mul_one, Nat.add_zero] at hu
            rw [hu]
            simp [q]
          · rw [Array.getElem?_eq_none (by omega), Array.getElem?_eq_none (by simpa using q)]
        have hfin : (Conv.bytesToString (.slice ad len cap)).run P w = .ok (.string (strD xs)) w := by
          rw [e2]
          cases ad with
          | none =>
            have : xs = [] := by
              cases xs with
              | nil => rfl
              | cons d t => have := ha (by simp); cases this
            subst this
            have : ns = [] := by simpa using e1.symm
            subst this
            simp [Conv.bytesToString]
          | some ad =>
            have := orun w (fun _ => rfl)
            simp only [Builtin.firstCells, Nat.mul_one] at this
            rw [harr] at this
            exact run_bytesToString w ad len cap ns this
        refine ⟨.string (strD xs), ?_, .str _⟩
        simp only [execOp, ho, hv, Sem.run_bind, run_convert_bytes_string w src dst e ad len cap hs he hd, hfin, Result.andThen_ok, Sem.run_pure]
    · cases h
  · cases h

theorem appendc_out {z : Z P} {c : Call} {x y : Operand} {rest : List Operand} {s : List Ob} {K : Z P → Eff → Option ρ'} (ho : o.op = .call c) (hc : c.callee = .builtin .append) (hargs : c.args.toList = x :: y :: rest) (h : appendc P z c.argTypes (ρ x) (ρ y) s K = some r) :
    ∃ e z', K z' e = some r ∧ (z'.c → z.c ∧ EffOK P o ρ s e) := by
  have hx : x ∈ o.op.operands := by
    have : x ∈ c.args.toList := by rw [hargs]; simp
    simp only [ho, Op.operands, Call.operands, hc]; simpa using this
  have hy : y ∈ o.op.operands := by
    have : y ∈ c.args.toList := by rw [hargs]; simp
    simp only [ho, Op.operands, Call.operands, hc]; simpa using this
  have ga : ∀ a : Act, (c.args.map a.eval)[0]? = some (a.eval x) ∧ (c.args.map a.eval)[1]? = some (a.eval y) := by
    intro a
    have e0 : c.args[0]? = some x := by rw [← Array.getElem?_toList, hargs]; rfl
    have e1 : c.args[1]? = some y := by rw [← Array.getElem?_toList, hargs]; rfl
    simp [e0, e1]
  unfold appendc at h
  split at h
  · rename_i st xt ts hts
    have t0 : c.argTypes[0]? = some st := by rw [← Array.getElem?_toList, hts]; rfl
    have t1 : c.argTypes[1]? = some xt := by rw [← Array.getElem?_toList, hts]; rfl
    split at h
    · rename_i ety e2 ht hx2
      split at h
      · rename_i ow sz xs ow' sz' ys hρx hρy
        have hh := chk_out h
        clear h
        obtain ⟨hchk, h⟩ := hh
        simp only [Bool.and_eq_true, Nat.ble_eq] at hchk
        obtain ⟨⟨⟨⟨_, hzero⟩, hs1⟩, hs2⟩, hb⟩ := hchk
        have hh := askLen_out h
        clear h
        obtain ⟨z1, h, hz1⟩ := hh
        have hexec : ∀ (a : Act) (w w' : World) (v : Value), (Builtin.append_ c.argTypes o.type (c.args.map a.eval)).run P w = .ok v w' → (execOp a.eval o).run P w = .ok (.value v) w' := by
          intro a w w' v hv
          rw [exec_builtin ho hc]
          simp only [builtin, Sem.run_bind, hv, Result.andThen_ok, Sem.run_pure]
        split at h
        · -- no room behind the end
          refine ⟨_, z1, h, fun hc1 => ⟨(hz1 hc1).1, ?_⟩⟩
          intro w0 M own σ w a id hw hr hpre next Q hn
          have hrx := hr x hx
          have hry := hr y hy
          rw [hρx] at hrx
          rw [hρy] at hry
          obtain ⟨v, M', own', w', q1, q2, q3, q4, q5, q6⟩ := append_core (rty := o.type) hw ht hx2 t0 t1 hzero hb (ga a).1 (ga a).2 hrx hry (okSz_out hs1) (okSz_out hs2) (hz1 hc1).2 (id := id) (ver := 0) (fun v _ => hpre.2 v)
            (fun ad len cap e => by
              rw [e] at hrx
              cases hrx with
              | lst b off vs hl hcap ha hsz hc hr hst ho => exact .inl ho)
          exact wp_value (hexec a w w' v q1) (hn v M' own' w' q2 ⟨fun j _ => by rw [q5], q6⟩ q3 q4)
        · rename_i t v
          split at h
          · rename_i v' sz2 hst
            obtain ⟨hk, h⟩ := chk_out h
            rw [Bool.and_eq_true, Nat.beq_eq, Nat.beq_eq] at hk
            obtain ⟨rfl, rfl⟩ := hk
            refine ⟨_, z1, h, fun hc1 => ⟨(hz1 hc1).1, ⟨hst, lt_of_getD (by rw [hst]; intro e; cases e)⟩, ?_⟩⟩
            intro w0 M own σ w a id hw hr hpre next Q hn
            have hpre' : σ t = .fam v' (P.cellsOf ety) := hpre
            have hrx := hr x hx
            have hry := hr y hy
            rw [hρx] at hrx
            rw [hρy] at hry
            obtain ⟨fa, flen, fcap, hfam⟩ := hw.fam t v' _ hpre'
            obtain ⟨u, M', own', w', q1, q2, q3, q4, q5, q6⟩ := append_core (rty := o.type) hw ht hx2 t0 t1 hzero hb (ga a).1 (ga a).2 hrx hry (okSz_out hs1) (okSz_out hs2) (hz1 hc1).2 (id := t) (ver := v' + 1) (fun v hv => hfam.last v (by omega))
              (fun ad len cap e => by
                rw [e] at hrx
                cases hrx with
                | lst b off vs hl hcap ha hsz hc hr hst ho =>
                  have ho2 : M.hist t v' = some (.slice ad len cap) := ho
                  rw [hfam.hist] at ho2
                  simp only [Option.some.injEq, Value.slice.injEq] at ho2
                  obtain ⟨rfl, rfl, rfl⟩ := ho2
                  rcases hfam.room with q | ⟨b', vs', ty', fz', e1, r⟩
                  · exact .inl q
                  · exact .inr ⟨b', vs', ty', fz', v', _, e1, r, hpre'⟩)
            exact wp_value (hexec a w w' u q1) (hn u M' own' w' q2 ⟨q5, q6⟩ q3 q4)
          · cases h
        · cases h
      · cases h
    · cases h
  · cases h

theorem partc_id {z : Z P} {c : Prop} (h : z.c → c) : z.c → z.c ∧ c := fun x => ⟨x, h x⟩
end

section
variable {ρ' : Type} {P : Program} {r : ρ'} {o : Oper} {t : List D} {s : List Ob}
/-- EVERY OPERATION. -/
theorem opc_out {inl : Inl P ρ'} (hinl : InlSound P inl) {z : Z P} {K : Z P → Eff → Option ρ'} (h : opc P inl o t s z K = some r) :
    ∃ e z', K z' e = some r ∧ (z'.c → z.c ∧ EffOK P o (opnd t) s e) := by
  unfold opc at h
  split at h
  case h_1 x ho => exact ⟨_, z, h, fun c => ⟨c, ok_move (.inl ho)⟩⟩
  case h_2 x ho => exact ⟨_, z, h, fun c => ⟨c, ok_move (.inr ho)⟩⟩
  case h_3 c x y ho =>
    split at h
    · rename_i q hq
      obtain ⟨z', ⟨h1, h2⟩ | ⟨h1, h2⟩⟩ := branch_out h
      · refine ⟨_, z', h1, fun c => ⟨(h2 c).1, ?_⟩⟩
        have := ok_pick (P := P) (ρ := opnd t) ho hq
        rw [(h2 c).2] at this
        exact this
      · refine ⟨_, z', h1, fun c => ⟨(h2 c).1, ?_⟩⟩
        have := ok_pick (P := P) (ρ := opnd t) ho hq
        rw [(h2 c).2] at this
        exact this
    · cases h
  case h_4 e x ho =>
    split at h
    · rename_i cs hcs; exact ⟨_, z, h, fun c => ⟨c, ok_box ho hcs⟩⟩
    · cases h
  case h_5 e ho =>
    split at h
    · rename_i d hd
      split at h
      · rename_i cs hcs; exact ⟨_, z, h, fun c => ⟨c, ok_alloc ho hd hcs⟩⟩
      · cases h
    · cases h
  case h_6 ty parts ho =>
    split at h
    · rename_i d hd; exact ⟨_, z, h, fun c => ⟨c, ok_build ho hd⟩⟩
    · cases h
  case h_7 ty len parts ho =>
    split at h
    · rename_i e ht
      split at h
      · rename_i d hd
        split at h
        · rename_i zc hzc
          obtain ⟨hk, h⟩ := chk_out h
          simp only [Bool.and_eq_true, Nat.beq_eq, Nat.ble_eq, List.all_eq_true] at hk
          obtain ⟨⟨⟨⟨h1, h2⟩, h3⟩, _⟩, h5⟩ := hk
          obtain ⟨xs, q1, q2⟩ := ok_buildSlice (P := P) (ρ := opnd t) ho ht hd hzc h1 h2 h3 h5 h
          exact ⟨_, z, q1, fun c => ⟨c, q2⟩⟩
        · cases h
      · cases h
    · cases h
  case h_8 ty a ho =>
    unfold loadc at h
    split at h
    · rename_i dyn id off hx
      split at h
      · rename_i cs hcs
        obtain ⟨z', d, h1, h2⟩ := partc_out h
        exact ⟨_, z', h1, fun c => ⟨(h2 c).1, ⟨hcs, lt_of_getD (by rw [hcs]; intro e; cases e)⟩, ok_load_box ho hx (h2 c).2⟩⟩
      · cases h
    · rename_i dyn y off hx
      split at h
      · rename_i cs hcs
        obtain ⟨z', d, h1, h2⟩ := partc_out h
        exact ⟨_, z', h1, fun c => ⟨(h2 c).1, ok_load_elem ho hx hcs (h2 c).2⟩⟩
      · cases h
    · cases h
  case h_9 ty a x ho =>
    unfold storec at h
    split at h
    · rename_i dyn id off hx
      split at h
      · rename_i cs hcs
        split at h
        · rename_i vc hvc
          obtain ⟨hk, h⟩ := chk_out h
          simp only [Bool.and_eq_true, Nat.beq_eq, List.all_eq_true] at hk
          obtain ⟨⟨k1, k2⟩, k3⟩ := hk
          have hid := lt_of_getD (s := s) (i := id) (by rw [hcs]; intro e; cases e)
          split at h
          · obtain ⟨hl, h⟩ := chk_out h
            rw [Nat.ble_eq] at hl
            exact ⟨_, z, h, fun c => ⟨c, ⟨hcs, hid⟩, ok_store ho hx hvc k1 k2 k3 hl⟩⟩
          · split at h
            · rename_i l i xs l' hg rest _
              refine ⟨_, _, h, fun c => ⟨c.2, ⟨hcs, hid⟩, ?_⟩⟩
              have e1 := c.1.1
              have e2 := c.1.2.1
              have e3 := c.1.2.2
              subst e1 e2 e3
              have := ok_store (P := P) (ρ := opnd t) ho hx hvc k1 k2 k3 hg.2
              unfold splice at this
              rw [hg.1] at this
              exact this
            · cases h
        · cases h
      · cases h
    · cases h
  case h_10 x ho =>
    split at h
    · rename_i dyn id off hx
      exact ⟨_, z, h, fun c => ⟨c, by have := ok_nilCheck (P := P) (ρ := opnd t) ho (.inl ⟨dyn, id, off, hx⟩); rw [hx] at this; exact this⟩⟩
    · rename_i dyn y off hx
      exact ⟨_, z, h, fun c => ⟨c, by have := ok_nilCheck (P := P) (ρ := opnd t) ho (.inr (.inl ⟨dyn, y, off, hx⟩)); rw [hx] at this; exact this⟩⟩
    · rename_i g a b hx
      exact ⟨_, z, h, fun c => ⟨c, by have := ok_nilCheck (P := P) (ρ := opnd t) ho (.inr (.inr ⟨g, a, b, hx⟩)); rw [hx] at this; exact this⟩⟩
    · cases h
  case h_11 op ty x y ty' ho =>
    obtain ⟨z', d, h1, h2⟩ := binc_out h
    exact ⟨_, z', h1, fun c => ⟨(h2 c).1, ok_bin ho fun M w u v hu hv => (h2 c).2 M w x y u v hu hv⟩⟩
  case h_12 op ty x ho =>
    obtain ⟨d, h1, h2⟩ := unc_out (P := P) h
    refine ⟨_, z, h1, fun c => ⟨c, opOK_pure fun M w a _ hr => ?_⟩⟩
    obtain ⟨v, q1, q2⟩ := h2 M w _ (hr x (by simp [ho, Op.operands]))
    exact ⟨v, by simp only [execOp, ho, Sem.run_bind, q1, Result.andThen_ok, Sem.run_pure], q2⟩
  case h_13 src dst x ho =>
    obtain ⟨e, z', h1, h2, h3⟩ := convc_out (ρ := opnd t) ho h
    refine ⟨e, z', h1, fun c => ⟨(h2 c).1, ?_⟩⟩
    rcases h3 with ⟨d, rfl⟩ | ⟨q, m, rfl⟩ <;> exact (h2 c).2
  case h_14 f first cap ho => exact ⟨_, z, h, fun c => ⟨c, ok_makeFunc ho⟩⟩
  case h_15 ty x lo hi mx ho =>
    split at h
    · rename_i e ow sz xs ht hx
      obtain ⟨hk, h⟩ := chk_out h
      rw [Bool.and_eq_true, Nat.beq_eq] at hk
      obtain ⟨n1, h, o1⟩ := optIdx_out h
      obtain ⟨n2, h, o2⟩ := optIdx_out h
      obtain ⟨n3, h, o3⟩ := optIdx_out h
      obtain ⟨z', d, h1, h2⟩ := slicec_out h
      refine ⟨_, z', h1, fun c => ⟨(h2 c).1, opOK_pure fun M w a _ hr => ?_⟩⟩
      have hrx := hr x (by simp [ho, Op.operands])
      rw [hx] at hrx
      have r1 := o1 M a (fun y hy => hr y (by simp [ho, Op.operands, hy]))
      have r2 := o2 M a (fun y hy => hr y (by simp [ho, Op.operands, hy]))
      have r3 := o3 M a (fun y hy => hr y (by simp [ho, Op.operands, hy]))
      obtain ⟨v, q1, q2⟩ := (h2 c).2 M w ty e _ _ _ _ ht hk.1 hk.2 hrx r1 r2 r3
      exact ⟨v, by simp only [execOp, ho, Sem.run_bind, q1, Result.andThen_ok, Sem.run_pure], q2⟩
    · cases h
  case h_16 ty x f ho =>
    unfold fieldAddrc at h
    split at h
    · rename_i fields ht
      split at h
      · rename_i fd hfd
        obtain ⟨hk, h⟩ := chk_out h
        rw [Bool.and_eq_true] at hk
        have hpos : 0 < P.cellsOf fd.type := Nat.lt_of_succ_le (by simpa [Nat.blt, Nat.ble_eq] using hk.2)
        obtain ⟨g1, g2⟩ := ok_fieldAddr (P := P) (ρ := opnd t) ho ht hfd hk.1 hpos
        split at h
        · rename_i dyn id off hx; exact ⟨_, z, h, fun c => ⟨c, g1 _ _ _ hx⟩⟩
        · rename_i dyn y off hx; exact ⟨_, z, h, fun c => ⟨c, g2 _ _ _ hx⟩⟩
        · cases h
      · cases h
    · cases h
  case h_17 ty x f ho =>
    split at h
    · rename_i fields cs ht hx
      split at h
      · rename_i fd hfd
        obtain ⟨z', d, h1, h2⟩ := partc_out h
        exact ⟨_, z', h1, fun c => ⟨(h2 c).1, ok_field ho ht hfd hx (h2 c).2⟩⟩
      · cases h
    · cases h
  case h_18 ty x ix ho =>
    unfold indexAddrc at h
    split at h
    · rename_i k i hi
      split at h
      · rename_i len elem dyn id off ht hx
        obtain ⟨hk, h⟩ := chk_out h
        obtain ⟨z', h1, h2⟩ := askIf_out h
        exact ⟨_, z', h1, fun c => ⟨(h2 c).1, (ok_indexAddr (P := P) (ρ := opnd t) ho hi ht hk (by simpa using (h2 c).2) _).1 _ _ _ hx⟩⟩
      · rename_i len elem dyn y off ht hx
        obtain ⟨hk, h⟩ := chk_out h
        obtain ⟨z', h1, h2⟩ := askIf_out h
        exact ⟨_, z', h1, fun c => ⟨(h2 c).1, (ok_indexAddr (P := P) (ρ := opnd t) ho hi ht hk (by simpa using (h2 c).2) _).2 _ _ _ hx⟩⟩
      · rename_i elem ow sz xs ht hx
        obtain ⟨hk, h⟩ := chk_out h
        rw [Bool.and_eq_true, Nat.beq_eq] at hk
        obtain ⟨z', h1, h2⟩ := askIf_out h
        obtain ⟨z2, y, h3, h4⟩ := pick_out h1
        exact ⟨_, z2, h3, fun c => ⟨(h2 (h4 c).1).1, ok_indexAddr_lst ho hi ht hk.1 hk.2 (by simpa using (h2 (h4 c).1).2) hx (h4 c).2⟩⟩
      · cases h
    · cases h
  case h_19 ty x ix ho =>
    unfold indexc at h
    split at h
    · rename_i k i hi
      split at h
      · rename_i len elem cs ht hx
        obtain ⟨hk, h⟩ := chk_out h
        obtain ⟨z', h1, h2⟩ := askIf_out h
        obtain ⟨z2, d, h3, h4⟩ := partc_out h1
        exact ⟨_, z2, h3, fun c => ⟨(h2 (h4 c).1).1, ok_index_arr ho hi ht hk (by simpa using (h2 (h4 c).1).2) hx (h4 c).2⟩⟩
      · rename_i s' ht hx
        obtain ⟨z', h1, h2⟩ := askIf_out h
        obtain ⟨z2, d, h3, h4⟩ := pick_out h1
        exact ⟨_, z2, h3, fun c => ⟨(h2 (h4 c).1).1, ok_index_str ho hi ht (by simpa using (h2 (h4 c).1).2) hx (h4 c).2⟩⟩
      · cases h
    · cases h
  case h_20 x i ho =>
    split at h
    · rename_i ds hx
      split at h
      · rename_i d hd; exact ⟨_, z, h, fun c => ⟨c, ok_extract ho hx hd⟩⟩
      · cases h
    · cases h
  case h_21 c ho =>
    have hmem : ∀ {x : Operand}, x ∈ c.args.toList → x ∈ o.op.operands := by
      intro x hx
      simp only [ho, Op.operands, Call.operands]
      exact Array.mem_append.2 (.inr (by simpa using hx))
    split at h
    · rename_i hc
      split at h
      · rename_i x rest ty ts hargs hts
        obtain ⟨d, h1, h2⟩ := lenc_out (P := P) h
        refine ⟨_, z, h1, fun cc => ⟨cc, opOK_pure fun M w a _ hr => ?_⟩⟩
        obtain ⟨v, q1, q2⟩ := h2 M w _ c.argTypes o.type (c.args.map a.eval) (hr x (hmem (by rw [hargs]; simp))) (by rw [← Array.getElem?_toList, hts]; rfl) (by
          have : c.args[0]? = some x := by rw [← Array.getElem?_toList, hargs]; rfl
          simp [this])
        exact ⟨v, by rw [exec_builtin ho hc]; simp only [builtin, Sem.run_bind, q1, Result.andThen_ok, Sem.run_pure], q2⟩
      · cases h
    · rename_i hc
      split at h
      · rename_i x y rest hargs
        exact appendc_out ho hc hargs h
      · cases h
    · rename_i hc
      split at h
      · rename_i x y hargs
        obtain ⟨d, h1, h2⟩ := minc_out (P := P) h
        refine ⟨_, z, h1, fun cc => ⟨cc, opOK_pure fun M w a _ hr => ?_⟩⟩
        obtain ⟨v, q1, q2⟩ := h2 M w _ _ c.argTypes o.type (c.args.map a.eval) (hr x (hmem (by rw [hargs]; simp))) (hr y (hmem (by rw [hargs]; simp))) (by rw [Array.toList_map, hargs]; rfl)
        exact ⟨v, by rw [exec_builtin ho hc]; simp only [builtin, Sem.run_bind, q1, Result.andThen_ok, Sem.run_pure], q2⟩
      · cases h
    · rename_i hc
      split at h
      · rename_i x y hargs
        obtain ⟨d, h1, h2⟩ := maxc_out (P := P) h
        refine ⟨_, z, h1, fun cc => ⟨cc, opOK_pure fun M w a _ hr => ?_⟩⟩
        obtain ⟨v, q1, q2⟩ := h2 M w _ _ c.argTypes o.type (c.args.map a.eval) (hr x (hmem (by rw [hargs]; simp))) (hr y (hmem (by rw [hargs]; simp))) (by rw [Array.toList_map, hargs]; rfl)
        exact ⟨v, by rw [exec_builtin ho hc]; simp only [builtin, Sem.run_bind, q1, Result.andThen_ok, Sem.run_pure], q2⟩
      · cases h
    · rename_i f hc
      split at h
      · rename_i g first cap hf
        unfold calleec at h
        split at h
        · rename_i rest _
          obtain ⟨d, s', z', h1, h2⟩ := hinl g _ s _ _ r h
          exact ⟨_, z', h1, fun cc => ⟨(h2 cc).1, ok_all ho hc hf (h2 cc).2⟩⟩
        · rename_i g' as d hret rest _
          have hh := chk_out h
          clear h
          obtain ⟨hk, h⟩ := hh
          rw [Nat.beq_eq] at hk
          subst hk
          obtain ⟨as', h1, h2⟩ := plainsc_out h
          refine ⟨_, _, h1, fun cc => ⟨cc.2, ?_⟩⟩
          exact ok_ret ho hc hf hret (fun M vs hv => by rw [cc.1]; exact h2 M vs hv)
        · cases h
      · cases h
    · cases h
  case h_22 => cases h
end

end Go.Ev
