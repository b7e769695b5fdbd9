import Derived.Test.YtkpneibifdoecaaGreatU05
import Derived.Test.YtkpneibifdoecaaGreatU06
import Derived.Test.YtkpneibifdoecaaGreatU09
import Derived.Test.YtkpneibifdoecaaGreatU15
import Derived.Test.YtkpneibifdoecaaGreatU16
open List renaming replicate→Vc,length_append→Vd,length_cons→Vf,length_nil→Vg,length_set→Vj,length_map→Vl,length→Vt,map→VG,mem_cons_self→Wn
open Bool renaming and_eq_true→Vi,not_eq_true'→Vm,not_eq_false'→Vo,or_eq_true→Vp
open Int renaming lt_add_one_of_le→Vu,toNat→VB,not_lt→VF,toNat_natCast→Ws
open Go renaming IntKind→WO
/- Contracts and plain laws that a statement's proof leans on (texts merged:I5,I6,I14,MdFs,FSH,FS1,FS1A,FS2,FS2A,FS4,FS4A). -/
set_option linter.unusedVariables false
set_option linter.unusedSimpArgs false
set_option maxRecDepth 100000
set_option maxHeartbeats 8000000
namespace Go.Proofs.YtkpneibifdoecaaGreat
open Go Go.Ev
theorem hY (L0:List D):∀(l:List cd) (r:aq) (m:ab),l.length≤9223372036854775807→fQ l→(∀s∈l,s.may=true)→(cB l r m).2.2.2=0→
  aF Tryz.prog (aI Tryz.f34 0) 4 [.aj .no 13 L0,uu,uu,.ptr false 0 0,.ptr false 1 0,.ptr false 2 0,uu,uu,uu,uu,.aj .tight 13 (l.map cd.d),uu,uu,uu,uu,uu,uu,uu,uu,uu,uu,uu,uu,uu,uu,uu,uu,uu,uu,uu,uu,uu,uu,uu,uu,uu,uu,uu,uu,uu,uu,uu,uu,uu,uu,uu,uu,uu,uu,uu,uu,uu,uu,uu,uu,uu,uu,uu,uu,uu,uu,uu,uu,uu,uu,uu,uu,uu,uu,uu,uu,uu,uu,uu,uu,uu,uu,uu,uu,uu,uu,uu,uu,uu,uu] [.box r.c,.box [.int .u64 0,.int .u64 0,.int .u64 0,.int .u64 0,.int .u64 0,.int .u64 0,.int .u64 0,.int .u64 0,.int .u64 0,.int .u64 0,.int .u64 0],.box m.c,.dead] (.exit 0) [.aj .no 13 L0,uu,uu,.ptr false 0 0,.ptr false 1 0,.ptr false 2 0,uu,uu,uu,uu,.aj .tight 13 ((jZ l r m).map cd.d),uu,uu,uu,uu,uu,uu,uu,uu,uu,uu,uu,uu,uu,uu,uu,uu,uu,uu,uu,uu,uu,uu,uu,uu,uu,uu,uu,uu,uu,uu,uu,uu,uu,uu,uu,uu,uu,uu,uu,uu,uu,uu,uu,uu,uu,uu,uu,uu,uu,uu,uu,uu,uu,uu,uu,uu,uu,uu,uu,uu,uu,uu,uu,uu,uu,uu,uu,uu,uu,uu,uu,uu,uu,uu] [.box (cB l r m).1.c,.box [.int .u64 0,.int .u64 0,.int .u64 0,.int .u64 0,.int .u64 0,.int .u64 0,.int .u64 0,.int .u64 0,.int .u64 0,.int .u64 0,.int .u64 0],.box (cB l r m).2.1.c,.dead]
 | [],r,m,_,_,_,_=>aF.last (H7 L0 [] r m) (by simp)
 |s::t,r,m,hl,ho,hm,he=>by
  have So:=fun s' RO=>hm s' (List.mem_cons_of_mem _ RO)
  have PX:fQ t:=fun s' RO=>ho s' (List.mem_cons_of_mem _ RO)
  have Pj:(t.map cd.d).length<9223372036854775807:=by simp only [Vf] at hl;simp;omega
  obtain ⟨a0,a1,Qe,hc,hp,g0,g1⟩:=ho s (Wn ..)
  cases hs:s.stops
  ·by_cases h1:s.kind=1
   ·have e:=kK (t:=t) (r:=r) (m:=m) h1
    rw [lK e,e]
    rw [e] at he
    obtain ⟨b0,b1,Q6⟩:=oD (hm s (Wn ..)) (.inl h1)
    have Qo:0≤s.aC∧s.aC≤15:=by simp only [eY,decide_eq_true_eq] at Q6;omega
    obtain ⟨kind,op,w,dst,src,base,aa,ai,cc,aP,aC,num,to⟩:=s
    obtain rfl:kind=1:=h1
    exact aF.cG (Ac L0 (t.map cd.d) r m Pj op w dst src base aa ai cc aP aC num to b0 b1 Qo.1 Qo.2) (hY L0 t r _ (by simp only [Vf] at hl;omega) PX So he)
   ·by_cases h2:s.kind=2
    ·have e:=jn (t:=t) (r:=r) (m:=m) h2
     rw [lK e,e]
     rw [e] at he
     obtain ⟨b0,b1,Q6⟩:=oD (hm s (Wn ..)) (.inr h2)
     have Qo:0≤s.aC∧s.aC≤15:=by simp only [eY,decide_eq_true_eq] at Q6;omega
     obtain ⟨kind,op,w,dst,src,base,aa,ai,cc,aP,aC,num,to⟩:=s
     obtain rfl:kind=2:=h2
     exact aF.cG (Ad L0 (t.map cd.d) r m Pj op w dst src base aa ai cc aP aC num to b0 b1 Qo.1 Qo.2) (hY L0 t _ m (by simp only [Vf] at hl;omega) PX So he)
    ·have h0:=ri (hm s (Wn ..)) hs h1 h2
     by_cases hx:(dx m s.x 0).2=0
     ·have e:=wY (t:=t) (r:=r) (m:=m) hs h1 h2 hx
      rw [lK e,e]
      rw [e] at he
      obtain ⟨kind,op,w,dst,src,base,aa,ai,cc,aP,aC,num,to⟩:=s
      obtain rfl:kind=0:=h0
      exact aF.cG (JX L0 (t.map cd.d) r m Pj op w dst src base aa ai cc aP aC num to Qe hs (beq_iff_eq.mpr hx)) (hY L0 t r _ (by simp only [Vf] at hl;omega) PX So he)
     ·rw [sD hs h1 h2 hx] at he
      exact absurd he hx
  ·rw [xf hs,kL hs]
   obtain ⟨kind,op,w,dst,src,base,aa,ai,cc,aP,aC,num,to⟩:=s
   exact aF.last (Gt L0 (t.map cd.d) r m Pj kind op w dst src base aa ai cc aP aC num to a0 a1 hs) (by simp)
theorem gK (L0:List D):∀(l:List cd) (r:aq) (m:ab),l.length≤9223372036854775807→fQ l→(∀s∈l,s.may=true)→(cB l r m).2.2.2≠0→
  aF Tryz.prog (aI Tryz.f34 0) 4 [.aj .no 13 L0,uu,uu,.ptr false 0 0,.ptr false 1 0,.ptr false 2 0,uu,uu,uu,uu,.aj .tight 13 (l.map cd.d),uu,uu,uu,uu,uu,uu,uu,uu,uu,uu,uu,uu,uu,uu,uu,uu,uu,uu,uu,uu,uu,uu,uu,uu,uu,uu,uu,uu,uu,uu,uu,uu,uu,uu,uu,uu,uu,uu,uu,uu,uu,uu,uu,uu,uu,uu,uu,uu,uu,uu,uu,uu,uu,uu,uu,uu,uu,uu,uu,uu,uu,uu,uu,uu,uu,uu,uu,uu,uu,uu,uu,uu,uu,uu] [.box r.c,.box [.int .u64 0,.int .u64 0,.int .u64 0,.int .u64 0,.int .u64 0,.int .u64 0,.int .u64 0,.int .u64 0,.int .u64 0,.int .u64 0,.int .u64 0],.box m.c,.dead] .ret [uu,uu,uu,uu,.ptr false 1 0,.ptr false 2 0,.int .i64 0,.int .i64 (cB l r m).2.2.2,uu,uu,uu,uu,uu,uu,uu,uu,uu,uu,uu,uu,uu,uu,uu,uu,uu,uu,uu,uu,uu,uu,uu,uu,uu,uu,uu,uu,uu,uu,uu,uu,uu,uu,uu,uu,uu,uu,uu,uu,uu,uu,uu,uu,uu,uu,uu,uu,uu,uu,uu,uu,uu,uu,uu,uu,uu,uu,uu,uu,uu,uu,uu,uu,uu,uu,uu,uu,uu,uu,uu,uu,uu,uu,uu,uu,uu] [.dead,.box [.int .u64 0,.int .u64 0,.int .u64 0,.int .u64 0,.int .u64 0,.int .u64 0,.int .u64 0,.int .u64 0,.int .u64 0,.int .u64 0,.int .u64 0],.box ab.zero.c,.dead]
 | [],r,m,_,_,_,he=>absurd rfl he
 |s::t,r,m,hl,ho,hm,he=>by
  have So:=fun s' RO=>hm s' (List.mem_cons_of_mem _ RO)
  have PX:fQ t:=fun s' RO=>ho s' (List.mem_cons_of_mem _ RO)
  have Pj:(t.map cd.d).length<9223372036854775807:=by simp only [Vf] at hl;simp;omega
  obtain ⟨a0,a1,Qe,hc,hp,g0,g1⟩:=ho s (Wn ..)
  cases hs:s.stops
  ·by_cases h1:s.kind=1
   ·have e:=kK (t:=t) (r:=r) (m:=m) h1
    rw [e]
    rw [e] at he
    obtain ⟨b0,b1,Q6⟩:=oD (hm s (Wn ..)) (.inl h1)
    have Qo:0≤s.aC∧s.aC≤15:=by simp only [eY,decide_eq_true_eq] at Q6;omega
    obtain ⟨kind,op,w,dst,src,base,aa,ai,cc,aP,aC,num,to⟩:=s
    obtain rfl:kind=1:=h1
    exact aF.cG (Ac L0 (t.map cd.d) r m Pj op w dst src base aa ai cc aP aC num to b0 b1 Qo.1 Qo.2) (gK L0 t r _ (by simp only [Vf] at hl;omega) PX So he)
   ·by_cases h2:s.kind=2
    ·have e:=jn (t:=t) (r:=r) (m:=m) h2
     rw [e]
     rw [e] at he
     obtain ⟨b0,b1,Q6⟩:=oD (hm s (Wn ..)) (.inr h2)
     have Qo:0≤s.aC∧s.aC≤15:=by simp only [eY,decide_eq_true_eq] at Q6;omega
     obtain ⟨kind,op,w,dst,src,base,aa,ai,cc,aP,aC,num,to⟩:=s
     obtain rfl:kind=2:=h2
     exact aF.cG (Ad L0 (t.map cd.d) r m Pj op w dst src base aa ai cc aP aC num to b0 b1 Qo.1 Qo.2) (gK L0 t _ m (by simp only [Vf] at hl;omega) PX So he)
    ·have h0:=ri (hm s (Wn ..)) hs h1 h2
     by_cases hx:(dx m s.x 0).2=0
     ·have e:=wY (t:=t) (r:=r) (m:=m) hs h1 h2 hx
      rw [e]
      rw [e] at he
      obtain ⟨kind,op,w,dst,src,base,aa,ai,cc,aP,aC,num,to⟩:=s
      obtain rfl:kind=0:=h0
      exact aF.cG (JX L0 (t.map cd.d) r m Pj op w dst src base aa ai cc aP aC num to Qe hs (beq_iff_eq.mpr hx)) (gK L0 t r _ (by simp only [Vf] at hl;omega) PX So he)
     ·rw [sD hs h1 h2 hx]
      obtain ⟨kind,op,w,dst,src,base,aa,ai,cc,aP,aC,num,to⟩:=s
      obtain rfl:kind=0:=h0
      exact aF.last (JW L0 (t.map cd.d) r m Pj op w dst src base aa ai cc aP aC num to Qe hs (beq_eq_false_iff_ne.mpr hx)) (by simp)
  ·rw [kL hs] at he
   exact absurd rfl he
section
variable (l:List cd) (r0 r1 r2 r3 r4 r5 r6 r7 r8 r9 di:Int) (hb:(l.map cd.d).length≤9223372036854775807) (ho:fQ l) (hm:iI l=none)
theorem hQ {l:List cd} (hm:iI l=none):∀s∈l,s.may=true:=by
 unfold iI at hm
 rw [List.findIdx?_eq_none_iff] at hm
 intro s hs
 simpa using hm s hs
theorem B8 (hb:(l.map cd.d).length≤9223372036854775807) (ho:fQ l) (hm:iI l=none) (he:((cB l ⟨r0,r1,r2,r3,r4,r5,r6,r7,r8,r9,di⟩ .zero).2.2.2==0)=true):
  aU Tryz.prog 4 (.loop (aI Tryz.f34 0)) [.aj .no 13 (VG cd.d l),uu,uu,.ptr false 0 0,.ptr false 1 0,.ptr false 2 0,uu,uu,uu,uu,.aj .tight 13 (List.take (VB ((VG cd.d l).length:Int)) (VG cd.d l)),uu,uu,uu,uu,uu,uu,uu,uu,uu,uu,uu,uu,uu,uu,uu,uu,uu,uu,uu,uu,uu,uu,uu,uu,uu,uu,uu,uu,uu,uu,uu,uu,uu,uu,uu,uu,uu,uu,uu,uu,uu,uu,uu,uu,uu,uu,uu,uu,uu,uu,uu,uu,uu,uu,uu,uu,uu,uu,uu,uu,uu,uu,uu,uu,uu,uu,uu,uu,uu,uu,uu,uu,uu,uu] [.box [.int .u64 r0,.int .u64 r1,.int .u64 r2,.int .u64 r3,.int .u64 r4,.int .u64 r5,.int .u64 r6,.int .u64 r7,.int .u64 r8,.int .u64 r9,.int .u64 di],.box [.int .u64 0,.int .u64 0,.int .u64 0,.int .u64 0,.int .u64 0,.int .u64 0,.int .u64 0,.int .u64 0,.int .u64 0,.int .u64 0,.int .u64 0],.box [.int .u64 0,.int .u64 0,.int .u64 0,.int .u64 0,.int .u64 0,.int .u64 0,.int .u64 0,.int .u64 0,.int .u64 0,.int .u64 0,.int .u64 0,.int .u64 0,.int .u64 0,.int .u64 0,.int .u64 0,.int .u64 0,.bool false,.bool false,.bool false,.bool false,.bool false,.int .u64 0],.dead] (.exit 0) [.aj .no 13 (VG cd.d l),uu,uu,.ptr false 0 0,.ptr false 1 0,.ptr false 2 0,uu,uu,uu,uu,.aj .tight 13 ((jZ l ⟨r0,r1,r2,r3,r4,r5,r6,r7,r8,r9,di⟩ .zero).map cd.d),uu,uu,uu,uu,uu,uu,uu,uu,uu,uu,uu,uu,uu,uu,uu,uu,uu,uu,uu,uu,uu,uu,uu,uu,uu,uu,uu,uu,uu,uu,uu,uu,uu,uu,uu,uu,uu,uu,uu,uu,uu,uu,uu,uu,uu,uu,uu,uu,uu,uu,uu,uu,uu,uu,uu,uu,uu,uu,uu,uu,uu,uu,uu,uu,uu,uu,uu,uu,uu,uu,uu,uu,uu,uu] [.box (cB l ⟨r0,r1,r2,r3,r4,r5,r6,r7,r8,r9,di⟩ .zero).1.c,.box [.int .u64 0,.int .u64 0,.int .u64 0,.int .u64 0,.int .u64 0,.int .u64 0,.int .u64 0,.int .u64 0,.int .u64 0,.int .u64 0,.int .u64 0],.box (cB l ⟨r0,r1,r2,r3,r4,r5,r6,r7,r8,r9,di⟩ .zero).2.1.c,.dead]:=by
 have RB:l.length≤9223372036854775807:=by simpa using hb
 rw [show List.take (VB ((VG cd.d l).length:Int)) (VG cd.d l)=VG cd.d l by rw [Ws,List.take_length]]
 exact aU.bA (Nat.le_refl 4) (hY (VG cd.d l) l ⟨r0,r1,r2,r3,r4,r5,r6,r7,r8,r9,di⟩ .zero RB ho (hQ hm) (beq_iff_eq.mp he))
theorem yH (hb:(l.map cd.d).length≤9223372036854775807) (ho:fQ l) (hm:iI l=none) (he:((cB l ⟨r0,r1,r2,r3,r4,r5,r6,r7,r8,r9,di⟩ .zero).2.2.2==0)=false):
  aU Tryz.prog 4 (.loop (aI Tryz.f34 0)) [.aj .no 13 (VG cd.d l),uu,uu,.ptr false 0 0,.ptr false 1 0,.ptr false 2 0,uu,uu,uu,uu,.aj .tight 13 (List.take (VB ((VG cd.d l).length:Int)) (VG cd.d l)),uu,uu,uu,uu,uu,uu,uu,uu,uu,uu,uu,uu,uu,uu,uu,uu,uu,uu,uu,uu,uu,uu,uu,uu,uu,uu,uu,uu,uu,uu,uu,uu,uu,uu,uu,uu,uu,uu,uu,uu,uu,uu,uu,uu,uu,uu,uu,uu,uu,uu,uu,uu,uu,uu,uu,uu,uu,uu,uu,uu,uu,uu,uu,uu,uu,uu,uu,uu,uu,uu,uu,uu,uu,uu] [.box [.int .u64 r0,.int .u64 r1,.int .u64 r2,.int .u64 r3,.int .u64 r4,.int .u64 r5,.int .u64 r6,.int .u64 r7,.int .u64 r8,.int .u64 r9,.int .u64 di],.box [.int .u64 0,.int .u64 0,.int .u64 0,.int .u64 0,.int .u64 0,.int .u64 0,.int .u64 0,.int .u64 0,.int .u64 0,.int .u64 0,.int .u64 0],.box [.int .u64 0,.int .u64 0,.int .u64 0,.int .u64 0,.int .u64 0,.int .u64 0,.int .u64 0,.int .u64 0,.int .u64 0,.int .u64 0,.int .u64 0,.int .u64 0,.int .u64 0,.int .u64 0,.int .u64 0,.int .u64 0,.bool false,.bool false,.bool false,.bool false,.bool false,.int .u64 0],.dead] .ret [uu,uu,uu,uu,.ptr false 1 0,.ptr false 2 0,.int .i64 0,.int .i64 (cB l ⟨r0,r1,r2,r3,r4,r5,r6,r7,r8,r9,di⟩ .zero).2.2.2,uu,uu,uu,uu,uu,uu,uu,uu,uu,uu,uu,uu,uu,uu,uu,uu,uu,uu,uu,uu,uu,uu,uu,uu,uu,uu,uu,uu,uu,uu,uu,uu,uu,uu,uu,uu,uu,uu,uu,uu,uu,uu,uu,uu,uu,uu,uu,uu,uu,uu,uu,uu,uu,uu,uu,uu,uu,uu,uu,uu,uu,uu,uu,uu,uu,uu,uu,uu,uu,uu,uu,uu,uu,uu,uu,uu,uu] [.dead,.box [.int .u64 0,.int .u64 0,.int .u64 0,.int .u64 0,.int .u64 0,.int .u64 0,.int .u64 0,.int .u64 0,.int .u64 0,.int .u64 0,.int .u64 0],.box ab.zero.c,.dead]:=by
 have RB:l.length≤9223372036854775807:=by simpa using hb
 rw [show List.take (VB ((VG cd.d l).length:Int)) (VG cd.d l)=VG cd.d l by rw [Ws,List.take_length]]
 exact aU.bA (Nat.le_refl 4) (gK (VG cd.d l) l ⟨r0,r1,r2,r3,r4,r5,r6,r7,r8,r9,di⟩ .zero RB ho (hQ hm) (beq_eq_false_iff_ne.mp he))
end
theorem Eg (l:List cd) (r:aq) (hb:(l.map cd.d).length≤9223372036854775807) (ho:fQ l) (hm:iI l=none) (he:((cB l r .zero).2.2.2==0)=true):aZ Tryz.prog 34 ([.aj .no 13 (l.map cd.d),.agg r.c]) (.aM [(cB l r .zero).1.d,(cB l r .zero).2.1.d,.int .i64 (WO.i64.wrap (((l.map cd.d).length:Int) - (((jZ l r .zero).map cd.d).length:Int))),.int .i64 0]):=by
 have c0:= @qd l hb ho hm
 have c1:= @B8 l r.r0 r.r1 r.r2 r.r3 r.r4 r.r5 r.r6 r.r7 r.r8 r.r9 r.di hb ho hm (cu 0 true (eq_of_beq he))
 generalize g3:VG cd.d l=r2 at c1
 generalize g5:VG cd.d (jZ l r ab.zero)=r4 at c1
 exact (KK (d:= .aM [.agg (Prod.fst (cB l r ab.zero)).c,.agg (Prod.fst (Prod.snd (cB l r ab.zero))).c,.int .i64 (WO.i64.wrap ((↑(Vt r2):Int) - (↑(Vt r4):Int))),.int .i64 0]) [.ret _ _ _ c0,tF,tC (v:=true) (@LN (Vt (VG cd.d l))),.head ⟨[0,3,4,5,10],[0,1,2],[]⟩ _ _ _ _ _ _ _ c1] (by kernel_rfl)).to (by subst_vars;simp only [wk,aB,and_true,aq.d,aq.c,ab.d,ab.c])
theorem B9 (l:List cd) (r:aq) (hb:(l.map cd.d).length≤9223372036854775807) (ho:fQ l) (hm:iI l=none) (he:((cB l r .zero).2.2.2==0)=false):aZ Tryz.prog 34 ([.aj .no 13 (l.map cd.d),.agg r.c]) (.aM [aq.zero.d,ab.zero.d,.int .i64 0,.int .i64 (cB l r .zero).2.2.2]):=by
 have c0:= @qd l hb ho hm
 have c1:= @yH l r.r0 r.r1 r.r2 r.r3 r.r4 r.r5 r.r6 r.r7 r.r8 r.r9 r.di hb ho hm he
 generalize g3:Prod.snd (Prod.snd (Prod.snd (cB l r ab.zero)))=r2 at c1
 exact (KK (d:= .aM [.agg aq.zero.c,.agg ab.zero.c,.int .i64 0,.int .i64 r2]) [.ret _ _ _ c0,tF,tC (v:=true) (@LN (Vt (VG cd.d l))),.head ⟨[0,3,4,5,10],[0,1,2],[]⟩ _ _ _ _ _ _ _ c1] (by kernel_rfl)).to (by simp [wk,aB,aq.zero,aq.d,aq.c,ab.zero,ab.d,ab.c])
theorem Ca (l:List cd) (r:aq) (hb:(l.map cd.d).length≤9223372036854775807) (ho:fQ l) (j:Nat) (hm:iI l=some j):aZ Tryz.prog 34 ([.aj .no 13 (l.map cd.d),.agg r.c]) (.aM [aq.zero.d,ab.zero.d,.int .i64 0,.int .i64 2]):=by
 have c0:= @wv l hb ho _ hm
 exact (KK (d:= .aM [.agg aq.zero.c,.agg ab.zero.c,.int .i64 0,.int .i64 2]) [.ret _ _ _ c0,tT] (by kernel_rfl)).to (by simp [wk,aB,aq.zero,aq.d,aq.c,ab.zero,ab.d,ab.c])
theorem HL (l:List cd) (r:aq) (hb:l.length≤9223372036854775807) (ho:fQ l):
  aZ Tryz.prog 34 [.aj .no 13 (l.map cd.d),r.d] (.aM [(tZ l r).1.d,(tZ l r).2.1.d,.int .i64 (tZ l r).2.2.1,.int .i64 (tZ l r).2.2.2]):=by
 have RB:(l.map cd.d).length≤9223372036854775807:=by simpa using hb
 cases h:iI l with
 |none=>
  have hc:(wx l).2=0:=by unfold wx;rw [h]
  by_cases he:(cB l r .zero).2.2.2=0
  ·rw [H9 hc he]
   have hk:=Eg l r RB ho h (beq_iff_eq.mpr he)
   have hl:=mU l r .zero
   have ew:WO.i64.wrap (((l.map cd.d).length:Int) - (((jZ l r .zero).map cd.d).length:Int))=((l.length - (cB l r .zero).2.2.1:Nat):Int):=by
    rw [Vl,Vl,AJ,aH]
    omega
   rw [← ew]
   exact hk
  ·have e:tZ l r=(.zero,.zero,0,(cB l r .zero).2.2.2):=by
    unfold tZ
    simp only [if_pos hc,if_neg he]
   rw [e]
   exact B9 l r RB ho h (beq_eq_false_iff_ne.mpr he)
 |some k=>
  have hc:¬(wx l).2=0:=by unfold wx;rw [h];simp
  have e:tZ l r=(.zero,.zero,0,2):=by
   unfold tZ
   simp only [if_neg hc]
  rw [e]
  exact Ca l r RB ho k h
end Go.Proofs.YtkpneibifdoecaaGreat
namespace Go.Ev
open Go
def mx (m M:ab) (p:Int):ab:=⟨m.q0,m.q1,m.q2,M.q3,M.q4,M.q5,M.q6,M.q7,M.q8,M.q9,M.bK,m.bP,M.bO,M.bN,M.bM,M.bL,m.fk,m.fc,m.fz,m.fs,m.fo,p⟩
section
variable {m M:ab} {p:Int}
theorem m6 {i:Int} (h:eY i=true):i=0∨i=1∨i=2∨i=11:=by unfold eY at h;simpa using h
theorem zO {i:Int} (h:eY i=true):rg (mx m M p).rl i=rg m.rl i:=by
 rcases m6 h with rfl|rfl|rfl|rfl<;>rfl
theorem pv {i v:Int} (h:eY i=true):(mx m M p).put i v=mx (m.put i v) M p:=by
 rcases m6 h with rfl|rfl|rfl|rfl<;>rfl
theorem zP {n v:Int} (h:n=3∨n=9∨n=6∨n=7∨n=8∨n=10):(mx m M p).put n v=mx m (M.put n v) p:=by
 rcases h with rfl|rfl|rfl|rfl|rfl|rfl<;>rfl
theorem HC {n:Int} (h:n=3∨n=9∨n=6∨n=7∨n=8∨n=10):rg (mx m M p).rl n=rg M.rl n:=by
 rcases h with rfl|rfl|rfl|rfl|rfl|rfl<;>rfl
theorem Dy (s w a b v:Int):vY (mx m M p) s w a b v=mx (vY m s w a b v) M p:=by
 unfold vY
 split<;>rfl
theorem HB {x:XS} {k:Int} (h:eY x.src=true):EZ (mx m M p) x k=EZ m x k:=by
 unfold EZ
 split
 ·rfl
 ·rfl
 ·exact zO h
theorem H8 {x:XS} (hd:eY x.dst=true) (hs:eY x.src=true) (ho:x.op<26) (h:(ig m x 0).2=0):ig (mx m M p) x 0=(mx (ig m x 0).1 M p,0):=by
 obtain ⟨op,w,dst,src,base,aa,ai,cc⟩:=x
 simp only at hd hs ho
 unfold ig at h ⊢
 simp only [zO hd,zO hs] at h ⊢
 cases e:Iy op with
 |some q=>
  obtain ⟨s,k⟩:=q
  simp only [HB (x:=⟨op,w,dst,src,base,aa,ai,cc⟩) hs,Dy]
  cases DN op with
  |true=>rfl
  |false=>simp only [pv hd]
 |none=>
  rw [e] at h
  simp only at h ⊢
  split
  ·simp only [pv hd]
  ·simp only [pv hd]
  ·simp only at h
   cases h1:aQ (rg m.rl dst) w==0
   ·rw [h1] at h
    simp only at h ⊢
    cases h2:aQ m.q2 w==0
    ·rw [h2] at h;exact absurd (show (20:Int)=0 from h) (by decide)
    ·rw [show aQ (mx m M p).q2 w=aQ m.q2 w from rfl,h2]
     rfl
   ·rw [h1] at h;exact absurd (show (20:Int)=0 from h) (by decide)
  ·simp only at h
   cases h1:m.fk
   ·rw [h1] at h;exact absurd (show (20:Int)=0 from h) (by decide)
   ·rw [show (mx m M p).fk=m.fk from rfl,h1]
    simp only
    simp only [pv hd]
    rfl
  all_goals first|omega|rfl
end
theorem Fx {op w dst src base aa ai cc:Int} (hm:aA op w dst src base aa ai cc=true) (ho:sL op w dst src base aa ai cc=true) (h:op<26):eY dst=true∧eY src=true:=by
 obtain ⟨⟨d0,d1,s0,s1,_⟩,hs⟩:=fh hm
 have RN:aR op≠0:=by
  intro e
  rw [e] at hs
  simp [aG] at hs
 have hb:∀k,0≤k→k≤15→(dM (ph op dst src base) k=1∨dM (jy op dst) k=1)→eY k=true:=fun k k0 k1 hk=>Fy ho k0 k1 (by
  unfold Dv
  rw [qj k0 k1,AM hm,wO hm,if_pos hk])
 have self:∀k,0≤k→k≤15→dM (er k) k=1:=fun k k0 k1=>by rw [Ch k0 k1 k0 k1,if_pos rfl]
 have o1:∀a b k,0≤k→k≤15→dM a k=1→dM (gb a b) k=1:=fun a b k k0 k1 e=>by rw [qj k0 k1,if_pos (.inl e)]
 have o2:∀a b k,0≤k→k≤15→dM b k=1→dM (gb a b) k=1:=fun a b k k0 k1 e=>by rw [qj k0 k1,if_pos (.inr e)]
 have z:src=0→eY src=true:=fun e=>by rw [e];rfl
 have hd:jy op dst=er dst→eY dst=true:=fun e=>hb dst d0 d1 (.inr (by rw [e];exact self dst d0 d1))
 have hr:ph op dst src base=gb (er dst) (er src)→eY dst=true∧eY src=true:=fun e=>
  ⟨hb dst d0 d1 (.inl (by rw [e];exact o1 _ _ _ d0 d1 (self dst d0 d1))),hb src s0 s1 (.inl (by rw [e];exact o2 _ _ _ s0 s1 (self src s0 s1)))⟩
 have h3:aR op=3→src=0:=fun e=>by rw [e] at hs;simp [aG] at hs;exact hs.2.1
 have h4:aR op=4→src=0:=fun e=>by rw [e] at hs;simp [aG] at hs;exact hs.2.1
 have h5:aR op=5→src=0:=fun e=>by rw [e] at hs;simp [aG] at hs;exact hs.2.1
 rcases ji RN with rfl|rfl|rfl|rfl|rfl|rfl|rfl|rfl|rfl|rfl|rfl|rfl|rfl|rfl|rfl|rfl|rfl|rfl|rfl|rfl|rfl|rfl|rfl|rfl|rfl|rfl|rfl|rfl|rfl|rfl|rfl|rfl
 ·exact ⟨hd rfl,hb src s0 s1 (.inl (self src s0 s1))⟩
 ·exact ⟨hd rfl,z (h3 rfl)⟩
 ·exact hr rfl
 ·exact hr rfl
 ·exact hr rfl
 ·exact hr rfl
 ·exact hr rfl
 ·exact hr rfl
 ·exact hr rfl
 ·exact ⟨hd rfl,z (h3 rfl)⟩
 ·exact ⟨hd rfl,z (h3 rfl)⟩
 ·exact ⟨hd rfl,z (h3 rfl)⟩
 ·exact ⟨hd rfl,z (h3 rfl)⟩
 ·exact ⟨hd rfl,z (h3 rfl)⟩
 ·exact ⟨hb dst d0 d1 (.inl (self dst d0 d1)),z (h3 rfl)⟩
 ·exact ⟨hb dst d0 d1 (.inl (self dst d0 d1)),z (h3 rfl)⟩
 ·exact hr rfl
 ·exact ⟨hd rfl,z (h4 rfl)⟩
 ·exact ⟨hd rfl,z (h4 rfl)⟩
 ·exact ⟨hd rfl,z (h4 rfl)⟩
 ·exact ⟨hd rfl,z (h5 rfl)⟩
 ·exact ⟨hd rfl,z (h5 rfl)⟩
 ·exact ⟨hd rfl,z (h5 rfl)⟩
 ·exact ⟨hd rfl,z (h5 rfl)⟩
 ·exact ⟨hb dst d0 d1 (.inl (o1 _ _ _ d0 d1 (o1 _ _ _ d0 d1 (self dst d0 d1)))),z (h5 rfl)⟩
 ·exact hr rfl
 all_goals omega
def iG (p:af) (x:cd):List XS:=if x.kind=0 then [x.x] else lJ p x
structure mP (p:af) (r:aq) (N:ab) (s:List Int):Prop where
  len:s.length=11
  at_:∀i:Int,0≤i→i≤10→oK N s (p.k i) (p.n i)=r.get i
theorem Ah {p:af} (hm:p.may=true) {m N:ab} {q:Int} {s:List Int} {i:Int} (i0:0≤i) (i1:i≤10):oK (mx m N q) s (p.k i) (p.n i)=oK N s (p.k i) (p.n i):=by
 unfold oK
 by_cases h1:p.k i=1
 ·rw [if_pos h1,if_pos h1,HC (jL (af.fg hm i0 i1) h1)]
 ·rw [if_neg h1,if_neg h1]
theorem AG {p:af} (hm:p.may=true) (P7:p.apart=true) (hk:∀i:Int,0≤i→i≤10→p.k i≠0) {x:cd} (hx:x.may=true) (OQ:x.stops=false) {r:aq} {m N:ab} {q:Int} {s:List Int} (hh:mP p r (mx m N q) s) {t:List XS}
  (he:x.kind≠1→x.kind≠2→(dx m x.x 0).2=0):
  ∃m' r' N' q' s',(∀l,cB (x::l) r m=cB l r' m')∧ev (iG p x++t) (mx m N q) s=ev t (mx m' N' q') s'∧mP p r' (mx m' N' q') s':=by
 by_cases k1:x.kind=1
 ·obtain ⟨g0,g1,hs⟩:=m7 hx (.inl k1)
  obtain ⟨z,e⟩:=B7 (m:=mx m N q) (s:=s) (t:=t) (m6 hs) (af.fg hm g0 g1) hh.len
  have e2:((mx m N q).at z).put x.aC (oK (mx m N q) s (p.k x.aP) (p.n x.aP))=mx (m.put x.aC (r.get x.aP)) N z:=by
   rw [hh.at_ _ g0 g1]
   exact pv (m:=m) (M:=N) (p:=z) hs
  refine ⟨m.put x.aC (r.get x.aP),r,N,z,s,fun l=>kK k1,?_,hh.len,fun i i0 i1=> ?_⟩
  ·rw [iG,if_neg (by omega),lJ,if_pos k1]
   exact e.trans (by rw [e2])
  ·rw [Ah hm i0 i1]
   have:=hh.at_ i i0 i1
   rwa [Ah hm i0 i1] at this
 by_cases k2:x.kind=2
 ·obtain ⟨g0,g1,hs⟩:=m7 hx (.inr k2)
  have QM:=af.fg hm g0 g1
  have UW:rg (mx m N q).rl x.aC=rg m.rl x.aC:=zO hs
  have Q6:=m6 hs
  have fin:∀ {M2:ab} {s2:List Int},mO (mx m N q) s M2 s2 (p.k x.aP) (p.n x.aP)→oK M2 s2 (p.k x.aP) (p.n x.aP)=rg m.rl x.aC→mP p (r.put x.aP (rg m.rl x.aC)) M2 s2:=fun {M2 s2} hK hA=>
   ⟨hK.len.trans hh.len,fun i i0 i1=>by
    rw [vR hm P7 g0 g1 hK (fun _=>hA) i0 i1]
    by_cases hi:i=x.aP
    ·rw [if_pos ⟨hi,hk i i0 i1⟩,hi,x4 g0 g1]
    ·rw [if_neg (fun h=>hi h.1),x3 g0 g1 i0 hi]
     exact hh.at_ i i0 i1⟩
  rcases dS QM with ⟨a,_⟩|⟨a,_⟩|⟨a,a2,a3⟩
  ·exact absurd a (hk _ g0 g1)
  ·have hn:=jL QM a
   obtain ⟨z,e⟩:=wm (m:=mx m N q) (s:=s) (t:=t) (dst:=p.n x.aP) (src:=x.aC) (by omega) (by omega)
   obtain ⟨hK,hA⟩:=pI (m:=mx m N q) (s:=s) (p:=z) (v:=rg (mx m N q).rl x.aC) (n:=p.n x.aP) (by rw [← a];exact QM)
   rw [← a] at hK hA
   rw [UW] at e hK hA
   have e2:((mx m N q).at z).put (p.n x.aP) (rg m.rl x.aC)=mx m (N.put (p.n x.aP) (rg m.rl x.aC)) z:=zP (m:=m) (M:=N) (p:=z) hn
   rw [e2] at e hK hA
   refine ⟨m,r.put x.aP (rg m.rl x.aC),N.put (p.n x.aP) (rg m.rl x.aC),z,s,fun l=>jn k2,?_,fin hK hA⟩
   rw [iG,if_neg (by omega),lJ,if_neg k1,if_pos k2,js,if_pos a]
   exact e
  ·obtain ⟨z,e⟩:=yG (m:=mx m N q) (s:=s) (t:=t) (src:=x.aC) (n:=p.n x.aP) (by omega) ⟨a2,a3⟩ hh.len
   obtain ⟨hK,hA⟩:=pH (m:=mx m N q) (s:=s) (p:=z) (v:=rg (mx m N q).rl x.aC) (n:=p.n x.aP) hh.len ⟨a2,a3⟩
   rw [← a] at hK hA
   rw [UW] at e hK hA
   refine ⟨m,r.put x.aP (rg m.rl x.aC),N,z,s.set (p.n x.aP).toNat (rg m.rl x.aC),fun l=>jn k2,?_,fin hK hA⟩
   rw [iG,if_neg (by omega),lJ,if_neg k1,if_pos k2,js,if_neg (by omega),if_pos a]
   exact e
 ·have k0:x.kind=0:=by
   unfold cd.stops eH at OQ
   rw [decide_eq_false_iff_not] at OQ
   unfold cd.may jK at hx
   by_cases h0:x.kind=0
   ·exact h0
   ·rw [if_neg h0,if_neg (by omega),if_neg (by omega),if_neg (by omega),if_neg (by omega),if_neg (by omega)] at hx
    cases hx
  have QE:¬(x.op=26∨x.op=27):=by
   unfold cd.stops eH at OQ
   rw [decide_eq_false_iff_not] at OQ
   exact fun h=>OQ (.inr ⟨k0,h⟩)
  have QQ:=hx
  unfold cd.may at QQ
  rw [k0,iX] at QQ
  simp only [Vi,decide_eq_true_eq] at QQ
  obtain ⟨⟨⟨SA,QW⟩,Po⟩,_⟩:=QQ
  have S8:x.op<26:=by omega
  obtain ⟨hd,hs⟩:=Fx SA Po S8
  have he:=he k1 k2
  have Td:x.x.may=true:=SA
  have e1:dx m x.x 0=ig (m.at (u64 (m.pc+u64 x.x.len))) x.x 0:=eX Td
  have e2:dx (mx m N q) x.x 0=ig (mx (m.at (u64 (m.pc+u64 x.x.len))) N (u64 (q+u64 x.x.len))) x.x 0:=eX Td
  rw [e1] at he
  have e3:=H8 (m:=m.at (u64 (m.pc+u64 x.x.len))) (M:=N) (p:=u64 (q+u64 x.x.len)) (x:=x.x) hd hs S8 he
  rw [e3,← e1] at e2
  refine ⟨(dx m x.x 0).1.at 0,r,N,u64 (q+u64 x.x.len),s,fun l=> ?_,?_,hh.len,fun i i0 i1=> ?_⟩
  ·rw [cB,OQ]
   simp only
   rw [if_neg k1,if_neg k2,if_pos (by rw [e1];exact he)]
  ·rw [iG,if_pos k0]
   show ev (x.x::t) _ _=_
   have Qe:x.x.op=x.op:=rfl
   rw [ev,if_neg (by rw [Qe];omega),if_neg (by rw [Qe];exact QE)]
   unfold gR jt
   rw [e2,if_pos rfl]
   rfl
  ·rw [Ah hm i0 i1]
   have:=hh.at_ i i0 i1
   rwa [Ah hm i0 i1] at this
theorem uC {p:af} (hm:p.may=true) (P7:p.apart=true) (hk:∀i:Int,0≤i→i≤10→p.k i≠0):∀(l:List cd) (r:aq) (m N:ab) (q:Int) (s:List Int),(∀x∈l,x.may=true)→mP p r (mx m N q) s→
  (cB l r m).2.2.1=0→(cB l r m).2.2.2=0→(∀x∈l,x.stops=false)∧∃M' s',ev (l.flatMap (iG p)) (mx m N q) s=(M',s',true)∧mP p (cB l r m).1 M' s'
 | [],r,m,N,q,s,_,hh,_,_=>⟨fun x h=>absurd h (by simp),mx m N q,s,rfl,hh⟩
 |x::l,r,m,N,q,s,ha,hh,h1,h2=>by
  have OQ:x.stops=false:=by
   cases e:x.stops with
   |false=>rfl
   |true=>
    rw [cB,e] at h1
    exact absurd h1 (by simp)
  have he:x.kind≠1→x.kind≠2→(dx m x.x 0).2=0:=fun k1 k2=>by
   by_cases e:(dx m x.x 0).2=0
   ·exact e
   ·rw [cB,OQ] at h1
    simp only at h1
    rw [if_neg k1,if_neg k2,if_neg e] at h1
    exact absurd h1 (by simp)
  obtain ⟨m',r',N',q',s',e1,e2,e3⟩:=AG hm P7 hk (ha x (by simp)) OQ hh (t:=l.flatMap (iG p)) he
  rw [e1 l] at h1 h2 ⊢
  obtain ⟨i1,M2,s2,i2,i3⟩:=uC hm P7 hk l r' m' N' q' s' (fun y hy=>ha y (by simp [hy])) e3 h1 h2
  refine ⟨fun y hy=> ?_,M2,s2,?_,i3⟩
  ·rcases List.mem_cons.1 hy with e|e
   ·rw [e];exact OQ
   ·exact i1 y e
  ·rw [List.flatMap_cons]
   exact e2.trans i2
def sC (p:af) (r:aq):Nat→Nat→ab→List Int→ab×List Int
  |0,_,m,s=>(m,s)
  |k+1,i,m,s=>if p.k (i:Int)=1 then sC p r k (i+1) (m.put (p.n (i:Int)) (r.get (i:Int))) s else sC p r k (i+1) m (s.set (p.n (i:Int)).toNat (r.get (i:Int)))
structure Ez (p:af) (r:aq) (i:Nat) (m:ab) (s:List Int):Prop where
  len:s.length=11
  mix:m=mx .zero m m.pc
  at_:∀j:Int,0≤j→j<(i:Int)→oK m s (p.k j) (p.n j)=r.get j
theorem sB {p:af} (hm:p.may=true) (P7:p.apart=true) (hk:∀i:Int,0≤i→i≤10→p.k i≠0) (r:aq):∀(k i:Nat) (m:ab) (s:List Int),i+k=11→Ez p r i m s→Ez p r 11 (sC p r k i m s).1 (sC p r k i m s).2
 |0,i,m,s,h,hs=>by
  obtain rfl:i=11:=by omega
  exact hs
 |k+1,i,m,s,h,hs=>by
  have g0:(0:Int)≤(i:Int):=by omega
  have g1:(i:Int)≤10:=by omega
  have QM:=af.fg hm g0 g1
  have fin:∀ {m2:ab} {s2:List Int},mO m s m2 s2 (p.k (i:Int)) (p.n (i:Int))→oK m2 s2 (p.k (i:Int)) (p.n (i:Int))=r.get (i:Int)→m2=mx .zero m2 m2.pc→Ez p r (i+1) m2 s2:=fun {m2 s2} hK hA hX=>
   ⟨hK.len.trans hs.len,hX,fun j j0 j1=>by
    rw [vR hm P7 g0 g1 hK (fun _=>hA) j0 (by omega)]
    by_cases hj:j=(i:Int)
    ·rw [if_pos ⟨hj,hk j j0 (by omega)⟩,hj]
    ·rw [if_neg (fun h=>hj h.1)]
     exact hs.at_ j j0 (by omega)⟩
  rw [sC]
  rcases dS QM with ⟨a,_⟩|⟨a,_⟩|⟨a,a2,a3⟩
  ·exact absurd a (hk _ g0 g1)
  ·rw [if_pos a]
   have hn:=jL QM a
   obtain ⟨hK,hA⟩:=pI (m:=m) (s:=s) (p:=m.pc) (v:=r.get (i:Int)) (n:=p.n (i:Int)) (by rw [← a];exact QM)
   rw [← a] at hK hA
   refine sB hm P7 hk r k (i+1) _ s (by omega) (fin hK hA ?_)
   have e:m.put (p.n (i:Int)) (r.get (i:Int))=(mx .zero m m.pc).put (p.n (i:Int)) (r.get (i:Int)):=congrArg (fun q:ab=>q.put (p.n (i:Int)) (r.get (i:Int))) hs.mix
   rw [zP hn] at e
   exact e
  ·rw [if_neg (by omega)]
   obtain ⟨hK,hA⟩:=pH (m:=m) (s:=s) (p:=m.pc) (v:=r.get (i:Int)) (n:=p.n (i:Int)) hs.len ⟨a2,a3⟩
   rw [← a] at hK hA
   exact sB hm P7 hk r k (i+1) m _ (by omega) (fin hK hA hs.mix)
end Go.Ev
namespace Go.Proofs.YtkpneibifdoecaaGreat
open Go Go.Ev
abbrev iK (r:aq):List D:= [.int .u64 r.r0,.int .u64 r.r1,.int .u64 r.r2,.int .u64 r.r3,.int .u64 r.r4,.int .u64 r.r5,.int .u64 r.r6,.int .u64 r.r7,.int .u64 r.r8,.int .u64 r.r9,.int .u64 r.di]
theorem JY (l:List cd) (r:aq) (hl:l.length≤100) (ho:fQ l):aZ Tryz.prog 34 [.aj .no 13 (hE l),.agg (iK r)] (.aM [.agg (iK (tZ l r).1),.agg (mz (tZ l r).2.1),.int .i64 (tZ l r).2.2.1,.int .i64 (tZ l r).2.2.2]):=
 HL l r (by omega) ho
theorem Gh (p:af) (l:List D) (r:aq) (i:Nat) (h:11≤(i:Int)):ao Tryz.prog (aI Tryz.f7 0) ⟨[0,4,5,6],[0,1],[]⟩ 4 ((.aj .no 13 l)::(D.undef)::(D.undef)::(D.undef)::(.ptr false 0 0)::(.ptr false 1 0)::(.bool false)::(un 30++(.int .i64 (↑i:Int))::(un 115))) [.box (bW p),.box (iK r),.dead,.dead] (.exit 0) ((.aj .no 13 l)::(D.undef)::(D.undef)::(D.undef)::(.ptr false 0 0)::(.ptr false 1 0)::(.bool false)::(un 146)) ([.box [.int .i8 (af.k p (0:Int)),.int .i8 (af.n p (0:Int)),.int .i8 (af.k p (1:Int)),.int .i8 (af.n p (1:Int)),.int .i8 (af.k p (2:Int)),.int .i8 (af.n p (2:Int)),.int .i8 (af.k p (3:Int)),.int .i8 (af.n p (3:Int)),.int .i8 (af.k p (4:Int)),.int .i8 (af.n p (4:Int)),.int .i8 (af.k p (5:Int)),.int .i8 (af.n p (5:Int)),.int .i8 (af.k p (6:Int)),.int .i8 (af.n p (6:Int)),.int .i8 (af.k p (7:Int)),.int .i8 (af.n p (7:Int)),.int .i8 (af.k p (8:Int)),.int .i8 (af.n p (8:Int)),.int .i8 (af.k p (9:Int)),.int .i8 (af.n p (9:Int)),.int .i8 (af.k p (10:Int)),.int .i8 (af.n p (10:Int))],.box [.int .u64 (aq.r0 r),.int .u64 (aq.r1 r),.int .u64 (aq.r2 r),.int .u64 (aq.r3 r),.int .u64 (aq.r4 r),.int .u64 (aq.r5 r),.int .u64 (aq.r6 r),.int .u64 (aq.r7 r),.int .u64 (aq.r8 r),.int .u64 (aq.r9 r),.int .u64 (aq.di r)],.dead,.dead]):=by
 exact (ao.aw (sp:=⟨[0,4,5,6],[0,1],[]⟩) (n0:=4) (ex:=Ex.exit (0:Nat)) (t':=((.aj .no 13 l)::(D.undef)::(D.undef)::(D.undef)::(.ptr false 0 0)::(.ptr false 1 0)::(.bool false)::(un 146))) (s':= [.box [.int .i8 (af.k p (0:Int)),.int .i8 (af.n p (0:Int)),.int .i8 (af.k p (1:Int)),.int .i8 (af.n p (1:Int)),.int .i8 (af.k p (2:Int)),.int .i8 (af.n p (2:Int)),.int .i8 (af.k p (3:Int)),.int .i8 (af.n p (3:Int)),.int .i8 (af.k p (4:Int)),.int .i8 (af.n p (4:Int)),.int .i8 (af.k p (5:Int)),.int .i8 (af.n p (5:Int)),.int .i8 (af.k p (6:Int)),.int .i8 (af.n p (6:Int)),.int .i8 (af.k p (7:Int)),.int .i8 (af.n p (7:Int)),.int .i8 (af.k p (8:Int)),.int .i8 (af.n p (8:Int)),.int .i8 (af.k p (9:Int)),.int .i8 (af.n p (9:Int)),.int .i8 (af.k p (10:Int)),.int .i8 (af.n p (10:Int))],.box [.int .u64 (aq.r0 r),.int .u64 (aq.r1 r),.int .u64 (aq.r2 r),.int .u64 (aq.r3 r),.int .u64 (aq.r4 r),.int .u64 (aq.r5 r),.int .u64 (aq.r6 r),.int .u64 (aq.r7 r),.int .u64 (aq.r8 r),.int .u64 (aq.r9 r),.int .u64 (aq.di r)],.dead,.dead]) mixed [tC (decide_eq_false (VF.2 h))] (by kernel_rfl)).cast (by rfl) (by rfl)
theorem G0 (p:af) (l:List D) (r:aq) (i:Nat) (i1:(i:Int)≤10) (k0:(p.k (i:Int)==0)=false):ao Tryz.prog (aI Tryz.f7 0) ⟨[0,4,5,6,37],[0,1],[]⟩ 4 ((.aj .no 13 l)::(D.undef)::(D.undef)::(D.undef)::(.ptr false 0 0)::(.ptr false 1 0)::(.bool false)::(un 30++(.int .i64 (↑i:Int))::(un 115))) [.box (bW p),.box (iK r),.dead,.dead] .norm ((.aj .no 13 l)::(D.undef)::(D.undef)::(D.undef)::(.ptr false 0 0)::(.ptr false 1 0)::(.bool false)::(un 30++(.int .i64 (WO.i64.wrap ((↑i:Int)+(1:Int))))::(un 115))) ([.box [.int .i8 (af.k p (0:Int)),.int .i8 (af.n p (0:Int)),.int .i8 (af.k p (1:Int)),.int .i8 (af.n p (1:Int)),.int .i8 (af.k p (2:Int)),.int .i8 (af.n p (2:Int)),.int .i8 (af.k p (3:Int)),.int .i8 (af.n p (3:Int)),.int .i8 (af.k p (4:Int)),.int .i8 (af.n p (4:Int)),.int .i8 (af.k p (5:Int)),.int .i8 (af.n p (5:Int)),.int .i8 (af.k p (6:Int)),.int .i8 (af.n p (6:Int)),.int .i8 (af.k p (7:Int)),.int .i8 (af.n p (7:Int)),.int .i8 (af.k p (8:Int)),.int .i8 (af.n p (8:Int)),.int .i8 (af.k p (9:Int)),.int .i8 (af.n p (9:Int)),.int .i8 (af.k p (10:Int)),.int .i8 (af.n p (10:Int))],.box [.int .u64 (aq.r0 r),.int .u64 (aq.r1 r),.int .u64 (aq.r2 r),.int .u64 (aq.r3 r),.int .u64 (aq.r4 r),.int .u64 (aq.r5 r),.int .u64 (aq.r6 r),.int .u64 (aq.r7 r),.int .u64 (aq.r8 r),.int .u64 (aq.r9 r),.int .u64 (aq.di r)],.dead,.dead]):=by
 exact (ao.aw (sp:=⟨[0,4,5,6,37],[0,1],[]⟩) (n0:=4) (ex:=Ex.norm) (t':=((.aj .no 13 l)::(D.undef)::(D.undef)::(D.undef)::(.ptr false 0 0)::(.ptr false 1 0)::(.bool false)::(un 30++(.int .i64 (WO.i64.wrap ((↑i:Int)+(1:Int))))::(un 115)))) (s':= [.box [.int .i8 (af.k p (0:Int)),.int .i8 (af.n p (0:Int)),.int .i8 (af.k p (1:Int)),.int .i8 (af.n p (1:Int)),.int .i8 (af.k p (2:Int)),.int .i8 (af.n p (2:Int)),.int .i8 (af.k p (3:Int)),.int .i8 (af.n p (3:Int)),.int .i8 (af.k p (4:Int)),.int .i8 (af.n p (4:Int)),.int .i8 (af.k p (5:Int)),.int .i8 (af.n p (5:Int)),.int .i8 (af.k p (6:Int)),.int .i8 (af.n p (6:Int)),.int .i8 (af.k p (7:Int)),.int .i8 (af.n p (7:Int)),.int .i8 (af.k p (8:Int)),.int .i8 (af.n p (8:Int)),.int .i8 (af.k p (9:Int)),.int .i8 (af.n p (9:Int)),.int .i8 (af.k p (10:Int)),.int .i8 (af.n p (10:Int))],.box [.int .u64 (aq.r0 r),.int .u64 (aq.r1 r),.int .u64 (aq.r2 r),.int .u64 (aq.r3 r),.int .u64 (aq.r4 r),.int .u64 (aq.r5 r),.int .u64 (aq.r6 r),.int .u64 (aq.r7 r),.int .u64 (aq.r8 r),.int .u64 (aq.r9 r),.int .u64 (aq.di r)],.dead,.dead]) mixed [tC (decide_eq_true (Vu i1)),.cH (decide ((0:Int)≤(↑i:Int)∧(↑i:Int)<(↑(11:Nat):Int))) true (by ((try simp only [Vj,Vl,Vd,Vf,Vg,bm,aH,decide_eq_true_eq,decide_eq_false_iff_not,beq_iff_eq,bne_iff_ne,beq_eq_false_iff_ne,Vm,Vo,Vi,Vp] at*);omega)),.get _ _ _ (@nV (p) ((↑i:Int)) ([]) (by ((try simp only [Vj,Vl,Vd,Vf,Vg,bm,aH,decide_eq_true_eq,decide_eq_false_iff_not,beq_iff_eq,bne_iff_ne,beq_eq_false_iff_ne,Vm,Vo,Vi,Vp] at*);omega)) i1),tC k0] (by kernel_rfl)).cast (by rfl) (by rfl)
theorem JM (p:af) (l:List D) (r:aq) (i:Nat) (i1:(i:Int)≤10) (k0:(p.k (i:Int)==0)=true):ao Tryz.prog (aI Tryz.f7 0) ⟨[6],[],[]⟩ 4 ((.aj .no 13 l)::(D.undef)::(D.undef)::(D.undef)::(.ptr false 0 0)::(.ptr false 1 0)::(.bool false)::(un 30++(.int .i64 (↑i:Int))::(un 115))) [.box (bW p),.box (iK r),.dead,.dead] (Ex.ret) (un 6++(.bool true)::(un 146)) ([.dead,.dead,.dead,.dead]):=by
 have c0:= @ff
 exact (ao.aw (sp:=⟨[6],[],[]⟩) (n0:=4) (ex:=Ex.ret) (t':=(un 6++(.bool true)::(un 146))) (s':= [.dead,.dead,.dead,.dead]) mixed [tC (decide_eq_true (Vu i1)),.cH (decide ((0:Int)≤(↑i:Int)∧(↑i:Int)<(↑(11:Nat):Int))) true (by ((try simp only [Vj,Vl,Vd,Vf,Vg,bm,aH,decide_eq_true_eq,decide_eq_false_iff_not,beq_iff_eq,bne_iff_ne,beq_eq_false_iff_ne,Vm,Vo,Vi,Vp] at*);omega)),.get _ _ _ (@nV (p) ((↑i:Int)) ([]) (by ((try simp only [Vj,Vl,Vd,Vf,Vg,bm,aH,decide_eq_true_eq,decide_eq_false_iff_not,beq_iff_eq,bne_iff_ne,beq_eq_false_iff_ne,Vm,Vo,Vi,Vp] at*);omega)) i1),tC (cu 0 true (eq_of_beq k0)),.ret _ _ _ c0] (by kernel_rfl)).cast (by rfl) (by rfl)
abbrev Gi (l:List D) (i:Int):List D:=((.aj .no 13 l)::(.undef)::(.undef)::(.undef)::(.ptr false 0 0)::(.ptr false 1 0)::(.bool false)::(un 30++(.int .i64 i)::(un 115)))
abbrev JP (l:List D):List D:=((.aj .no 13 l)::(.undef)::(.undef)::(.undef)::(.ptr false 0 0)::(.ptr false 1 0)::(.bool false)::(un 146))
abbrev JN:List D:=(un 6++(.bool true)::(un 146))
abbrev BG (p:af) (r:aq):List Ob:= [.box (bW p),.box (iK r),.dead,.dead]
abbrev JQ:List Ob:= [.dead,.dead,.dead,.dead]
theorem JO (p:af) (l:List D) (r:aq) (hk:∀i:Int,0≤i→i≤10→p.k i≠0):∀(m i:Nat),i+m=11→aF Tryz.prog (aI Tryz.f7 0) 4 (Gi l i) (BG p r) (.exit 0) (JP l) (BG p r)
 |0,i,hi=>aF.last (Gh p l r i (by omega)) (fun h=>by cases h)
 |m+1,i,hi=>by
  have:=G0 p l r i (by omega) (by have:=hk i (by omega) (by omega);simpa using this)
  rw [iq i (by omega)] at this
  exact aF.cG this (JO p l r hk m (i+1) (by omega))
theorem Gj (p:af) (l:List D) (r:aq) (hk:∀i:Int,0≤i→i≤10→p.k i≠0):aU Tryz.prog 4 (.loop (aI Tryz.f7 0)) (Gi l 0) (BG p r) (.exit 0) (JP l) (BG p r):=aU.bA (by simp) (JO p l r hk 11 0 rfl)
theorem Jw (p:af) (l:List D) (r:aq) (z:Int) (z0:0≤z) (z1:z≤10) (hz:p.k z=0):∀(m i:Nat),i+m=11→(i:Int)≤z→aF Tryz.prog (aI Tryz.f7 0) 4 (Gi l i) (BG p r) .ret JN JQ
 |0,i,hi,h=>by omega
 |m+1,i,hi,h=>by
  by_cases hk:p.k (i:Int)=0
  ·exact aF.last (JM p l r i (by omega) (by simpa using hk)) (fun h=>by cases h)
  ·have:=G0 p l r i (by omega) (by simpa using hk)
   rw [iq i (by omega)] at this
   have O0:(i:Int)≠z:=fun e=>hk (by rw [e];exact hz)
   exact aF.cG this (Jw p l r z z0 z1 hz m (i+1) (by omega) (by omega))
theorem K9 (p:af) (l:List D) (r:aq) (hk:∃z:Int,0≤z∧z≤10∧p.k z=0):aU Tryz.prog 4 (.loop (aI Tryz.f7 0)) (Gi l 0) (BG p r) .ret JN JQ:=by
 obtain ⟨z,z0,z1,hz⟩:=hk
 exact aU.bA (by simp) (Jw p l r z z0 z1 hz 11 0 rfl (by omega))
theorem Gf (p:af) (rs cs:List D) (r r2:aq) (m:ab) (ef:Int) (OJ:∀c∈cs,c.clean=true) (hl:cs.length=11) (i:Nat) (h:11≤(i:Int)):ao Tryz.prog (aI Tryz.f7 1) ⟨[4,5,6,8,12,13,14,15],[0,1,5,1000008,1000009],[]⟩ 10 (un 4++(.ptr false 0 0)::(.ptr false 1 0)::(.bool false)::(D.undef)::(.ptr false 5 0)::(D.undef)::(D.undef)::(D.undef)::(.aj .no 13 rs)::(.int .i64 ef)::(.ptr false 8 0)::(.bR 9 1 11)::(un 67++(.int .i64 (↑i:Int))::(un 69))) [.box (bW p),.box (iK r),.dead,.dead,.dead,.box (iK r2),.dead,.dead,.box (mz m),.box cs] (.exit 2) (un 4++(.ptr false 0 0)::(.ptr false 1 0)::(.bool false)::(D.undef)::(.ptr false 5 0)::(D.undef)::(D.undef)::(D.undef)::(.aj .no 13 rs)::(.int .i64 ef)::(.ptr false 8 0)::(.bR 9 1 11)::(un 137)) ([.box [.int .i8 (af.k p (0:Int)),.int .i8 (af.n p (0:Int)),.int .i8 (af.k p (1:Int)),.int .i8 (af.n p (1:Int)),.int .i8 (af.k p (2:Int)),.int .i8 (af.n p (2:Int)),.int .i8 (af.k p (3:Int)),.int .i8 (af.n p (3:Int)),.int .i8 (af.k p (4:Int)),.int .i8 (af.n p (4:Int)),.int .i8 (af.k p (5:Int)),.int .i8 (af.n p (5:Int)),.int .i8 (af.k p (6:Int)),.int .i8 (af.n p (6:Int)),.int .i8 (af.k p (7:Int)),.int .i8 (af.n p (7:Int)),.int .i8 (af.k p (8:Int)),.int .i8 (af.n p (8:Int)),.int .i8 (af.k p (9:Int)),.int .i8 (af.n p (9:Int)),.int .i8 (af.k p (10:Int)),.int .i8 (af.n p (10:Int))],.box [.int .u64 (aq.r0 r),.int .u64 (aq.r1 r),.int .u64 (aq.r2 r),.int .u64 (aq.r3 r),.int .u64 (aq.r4 r),.int .u64 (aq.r5 r),.int .u64 (aq.r6 r),.int .u64 (aq.r7 r),.int .u64 (aq.r8 r),.int .u64 (aq.r9 r),.int .u64 (aq.di r)],.dead,.dead,.dead,.box [.int .u64 (aq.r0 r2),.int .u64 (aq.r1 r2),.int .u64 (aq.r2 r2),.int .u64 (aq.r3 r2),.int .u64 (aq.r4 r2),.int .u64 (aq.r5 r2),.int .u64 (aq.r6 r2),.int .u64 (aq.r7 r2),.int .u64 (aq.r8 r2),.int .u64 (aq.r9 r2),.int .u64 (aq.di r2)],.dead,.dead,.box [.int .u64 (ab.q0 m),.int .u64 (ab.q1 m),.int .u64 (ab.q2 m),.int .u64 (ab.q3 m),.int .u64 (ab.q4 m),.int .u64 (ab.q5 m),.int .u64 (ab.q6 m),.int .u64 (ab.q7 m),.int .u64 (ab.q8 m),.int .u64 (ab.q9 m),.int .u64 (ab.bK m),.int .u64 (ab.bP m),.int .u64 (ab.bO m),.int .u64 (ab.bN m),.int .u64 (ab.bM m),.int .u64 (ab.bL m),.bool (ab.fk m),.bool (ab.fc m),.bool (ab.fz m),.bool (ab.fs m),.bool (ab.fo m),.int .u64 (ab.pc m)],.box (VG D.aJ cs)]):=by
 exact (ao.aw (sp:=⟨[4,5,6,8,12,13,14,15],[0,1,5,1000008,1000009],[]⟩) (n0:=10) (ex:=Ex.exit (2:Nat)) (t':=(un 4++(.ptr false 0 0)::(.ptr false 1 0)::(.bool false)::(D.undef)::(.ptr false 5 0)::(D.undef)::(D.undef)::(D.undef)::(.aj .no 13 rs)::(.int .i64 ef)::(.ptr false 8 0)::(.bR 9 1 11)::(un 137))) (s':= [.box [.int .i8 (af.k p (0:Int)),.int .i8 (af.n p (0:Int)),.int .i8 (af.k p (1:Int)),.int .i8 (af.n p (1:Int)),.int .i8 (af.k p (2:Int)),.int .i8 (af.n p (2:Int)),.int .i8 (af.k p (3:Int)),.int .i8 (af.n p (3:Int)),.int .i8 (af.k p (4:Int)),.int .i8 (af.n p (4:Int)),.int .i8 (af.k p (5:Int)),.int .i8 (af.n p (5:Int)),.int .i8 (af.k p (6:Int)),.int .i8 (af.n p (6:Int)),.int .i8 (af.k p (7:Int)),.int .i8 (af.n p (7:Int)),.int .i8 (af.k p (8:Int)),.int .i8 (af.n p (8:Int)),.int .i8 (af.k p (9:Int)),.int .i8 (af.n p (9:Int)),.int .i8 (af.k p (10:Int)),.int .i8 (af.n p (10:Int))],.box [.int .u64 (aq.r0 r),.int .u64 (aq.r1 r),.int .u64 (aq.r2 r),.int .u64 (aq.r3 r),.int .u64 (aq.r4 r),.int .u64 (aq.r5 r),.int .u64 (aq.r6 r),.int .u64 (aq.r7 r),.int .u64 (aq.r8 r),.int .u64 (aq.r9 r),.int .u64 (aq.di r)],.dead,.dead,.dead,.box [.int .u64 (aq.r0 r2),.int .u64 (aq.r1 r2),.int .u64 (aq.r2 r2),.int .u64 (aq.r3 r2),.int .u64 (aq.r4 r2),.int .u64 (aq.r5 r2),.int .u64 (aq.r6 r2),.int .u64 (aq.r7 r2),.int .u64 (aq.r8 r2),.int .u64 (aq.r9 r2),.int .u64 (aq.di r2)],.dead,.dead,.box [.int .u64 (ab.q0 m),.int .u64 (ab.q1 m),.int .u64 (ab.q2 m),.int .u64 (ab.q3 m),.int .u64 (ab.q4 m),.int .u64 (ab.q5 m),.int .u64 (ab.q6 m),.int .u64 (ab.q7 m),.int .u64 (ab.q8 m),.int .u64 (ab.q9 m),.int .u64 (ab.bK m),.int .u64 (ab.bP m),.int .u64 (ab.bO m),.int .u64 (ab.bN m),.int .u64 (ab.bM m),.int .u64 (ab.bL m),.bool (ab.fk m),.bool (ab.fc m),.bool (ab.fz m),.bool (ab.fs m),.bool (ab.fo m),.int .u64 (ab.pc m)],.box (VG D.aJ cs)]) mixed [tC (decide_eq_false (VF.2 h)),.cl ([.int .u64 (ab.q0 m),.int .u64 (ab.q1 m),.int .u64 (ab.q2 m),.int .u64 (ab.q3 m),.int .u64 (ab.q4 m),.int .u64 (ab.q5 m),.int .u64 (ab.q6 m),.int .u64 (ab.q7 m),.int .u64 (ab.q8 m),.int .u64 (ab.q9 m),.int .u64 (ab.bK m),.int .u64 (ab.bP m),.int .u64 (ab.bO m),.int .u64 (ab.bN m),.int .u64 (ab.bM m),.int .u64 (ab.bL m),.bool (ab.fk m),.bool (ab.fc m),.bool (ab.fz m),.bool (ab.fs m),.bool (ab.fo m),.int .u64 (ab.pc m)]) (by first|exact dn rfl|exact OJ|exact dD OJ rfl),.cl (cs) (by first|exact dn rfl|exact OJ|exact dD OJ rfl)] (by kernel_rfl)).cast (by rfl) (by rfl)
theorem JJ (p:af) (rs cs:List D) (r r2:aq) (m:ab) (ef:Int) (OJ:∀c∈cs,c.clean=true) (hl:cs.length=11) (i:Nat) (i1:(i:Int)≤10) (k0:(p.k (i:Int)==1)=true) (b0:0≤p.n (i:Int)) (b1:p.n (i:Int)≤15):ao Tryz.prog (aI Tryz.f7 1) ⟨[4,5,6,8,12,13,14,15,83],[0,1,5,1000008,1000009],[]⟩ 10 (un 4++(.ptr false 0 0)::(.ptr false 1 0)::(.bool false)::(D.undef)::(.ptr false 5 0)::(D.undef)::(D.undef)::(D.undef)::(.aj .no 13 rs)::(.int .i64 ef)::(.ptr false 8 0)::(.bR 9 1 11)::(un 67++(.int .i64 (↑i:Int))::(un 69))) [.box (bW p),.box (iK r),.dead,.dead,.dead,.box (iK r2),.dead,.dead,.box (mz m),.box cs] .norm (un 4++(.ptr false 0 0)::(.ptr false 1 0)::(.bool false)::(D.undef)::(.ptr false 5 0)::(D.undef)::(D.undef)::(D.undef)::(.aj .no 13 rs)::(.int .i64 ef)::(.ptr false 8 0)::(.bR 9 1 11)::(un 67++(.int .i64 (WO.i64.wrap ((↑i:Int)+(1:Int))))::(un 69))) ([.box [.int .i8 (af.k p (0:Int)),.int .i8 (af.n p (0:Int)),.int .i8 (af.k p (1:Int)),.int .i8 (af.n p (1:Int)),.int .i8 (af.k p (2:Int)),.int .i8 (af.n p (2:Int)),.int .i8 (af.k p (3:Int)),.int .i8 (af.n p (3:Int)),.int .i8 (af.k p (4:Int)),.int .i8 (af.n p (4:Int)),.int .i8 (af.k p (5:Int)),.int .i8 (af.n p (5:Int)),.int .i8 (af.k p (6:Int)),.int .i8 (af.n p (6:Int)),.int .i8 (af.k p (7:Int)),.int .i8 (af.n p (7:Int)),.int .i8 (af.k p (8:Int)),.int .i8 (af.n p (8:Int)),.int .i8 (af.k p (9:Int)),.int .i8 (af.n p (9:Int)),.int .i8 (af.k p (10:Int)),.int .i8 (af.n p (10:Int))],.box [.int .u64 (aq.r0 r),.int .u64 (aq.r1 r),.int .u64 (aq.r2 r),.int .u64 (aq.r3 r),.int .u64 (aq.r4 r),.int .u64 (aq.r5 r),.int .u64 (aq.r6 r),.int .u64 (aq.r7 r),.int .u64 (aq.r8 r),.int .u64 (aq.r9 r),.int .u64 (aq.di r)],.dead,.dead,.dead,.box [.int .u64 (aq.r0 r2),.int .u64 (aq.r1 r2),.int .u64 (aq.r2 r2),.int .u64 (aq.r3 r2),.int .u64 (aq.r4 r2),.int .u64 (aq.r5 r2),.int .u64 (aq.r6 r2),.int .u64 (aq.r7 r2),.int .u64 (aq.r8 r2),.int .u64 (aq.r9 r2),.int .u64 (aq.di r2)],.dead,.dead,.box [.int .u64 (st (0:Int) (af.n p (↑i:Int)) (rg [aq.r0 r,aq.r1 r,aq.r2 r,aq.r3 r,aq.r4 r,aq.r5 r,aq.r6 r,aq.r7 r,aq.r8 r,aq.r9 r,aq.di r] (↑i:Int)) (ab.q0 m)),.int .u64 (st (1:Int) (af.n p (↑i:Int)) (rg [aq.r0 r,aq.r1 r,aq.r2 r,aq.r3 r,aq.r4 r,aq.r5 r,aq.r6 r,aq.r7 r,aq.r8 r,aq.r9 r,aq.di r] (↑i:Int)) (ab.q1 m)),.int .u64 (st (2:Int) (af.n p (↑i:Int)) (rg [aq.r0 r,aq.r1 r,aq.r2 r,aq.r3 r,aq.r4 r,aq.r5 r,aq.r6 r,aq.r7 r,aq.r8 r,aq.r9 r,aq.di r] (↑i:Int)) (ab.q2 m)),.int .u64 (st (3:Int) (af.n p (↑i:Int)) (rg [aq.r0 r,aq.r1 r,aq.r2 r,aq.r3 r,aq.r4 r,aq.r5 r,aq.r6 r,aq.r7 r,aq.r8 r,aq.r9 r,aq.di r] (↑i:Int)) (ab.q3 m)),.int .u64 (st (4:Int) (af.n p (↑i:Int)) (rg [aq.r0 r,aq.r1 r,aq.r2 r,aq.r3 r,aq.r4 r,aq.r5 r,aq.r6 r,aq.r7 r,aq.r8 r,aq.r9 r,aq.di r] (↑i:Int)) (ab.q4 m)),.int .u64 (st (5:Int) (af.n p (↑i:Int)) (rg [aq.r0 r,aq.r1 r,aq.r2 r,aq.r3 r,aq.r4 r,aq.r5 r,aq.r6 r,aq.r7 r,aq.r8 r,aq.r9 r,aq.di r] (↑i:Int)) (ab.q5 m)),.int .u64 (st (6:Int) (af.n p (↑i:Int)) (rg [aq.r0 r,aq.r1 r,aq.r2 r,aq.r3 r,aq.r4 r,aq.r5 r,aq.r6 r,aq.r7 r,aq.r8 r,aq.r9 r,aq.di r] (↑i:Int)) (ab.q6 m)),.int .u64 (st (7:Int) (af.n p (↑i:Int)) (rg [aq.r0 r,aq.r1 r,aq.r2 r,aq.r3 r,aq.r4 r,aq.r5 r,aq.r6 r,aq.r7 r,aq.r8 r,aq.r9 r,aq.di r] (↑i:Int)) (ab.q7 m)),.int .u64 (st (8:Int) (af.n p (↑i:Int)) (rg [aq.r0 r,aq.r1 r,aq.r2 r,aq.r3 r,aq.r4 r,aq.r5 r,aq.r6 r,aq.r7 r,aq.r8 r,aq.r9 r,aq.di r] (↑i:Int)) (ab.q8 m)),.int .u64 (st (9:Int) (af.n p (↑i:Int)) (rg [aq.r0 r,aq.r1 r,aq.r2 r,aq.r3 r,aq.r4 r,aq.r5 r,aq.r6 r,aq.r7 r,aq.r8 r,aq.r9 r,aq.di r] (↑i:Int)) (ab.q9 m)),.int .u64 (st (10:Int) (af.n p (↑i:Int)) (rg [aq.r0 r,aq.r1 r,aq.r2 r,aq.r3 r,aq.r4 r,aq.r5 r,aq.r6 r,aq.r7 r,aq.r8 r,aq.r9 r,aq.di r] (↑i:Int)) (ab.bK m)),.int .u64 (st (11:Int) (af.n p (↑i:Int)) (rg [aq.r0 r,aq.r1 r,aq.r2 r,aq.r3 r,aq.r4 r,aq.r5 r,aq.r6 r,aq.r7 r,aq.r8 r,aq.r9 r,aq.di r] (↑i:Int)) (ab.bP m)),.int .u64 (st (12:Int) (af.n p (↑i:Int)) (rg [aq.r0 r,aq.r1 r,aq.r2 r,aq.r3 r,aq.r4 r,aq.r5 r,aq.r6 r,aq.r7 r,aq.r8 r,aq.r9 r,aq.di r] (↑i:Int)) (ab.bO m)),.int .u64 (st (13:Int) (af.n p (↑i:Int)) (rg [aq.r0 r,aq.r1 r,aq.r2 r,aq.r3 r,aq.r4 r,aq.r5 r,aq.r6 r,aq.r7 r,aq.r8 r,aq.r9 r,aq.di r] (↑i:Int)) (ab.bN m)),.int .u64 (st (14:Int) (af.n p (↑i:Int)) (rg [aq.r0 r,aq.r1 r,aq.r2 r,aq.r3 r,aq.r4 r,aq.r5 r,aq.r6 r,aq.r7 r,aq.r8 r,aq.r9 r,aq.di r] (↑i:Int)) (ab.bM m)),.int .u64 (st (15:Int) (af.n p (↑i:Int)) (rg [aq.r0 r,aq.r1 r,aq.r2 r,aq.r3 r,aq.r4 r,aq.r5 r,aq.r6 r,aq.r7 r,aq.r8 r,aq.r9 r,aq.di r] (↑i:Int)) (ab.bL m)),.bool (ab.fk m),.bool (ab.fc m),.bool (ab.fz m),.bool (ab.fs m),.bool (ab.fo m),.int .u64 (ab.pc m)],.box (VG D.aJ cs)]):=by
 exact (ao.aw (sp:=⟨[4,5,6,8,12,13,14,15,83],[0,1,5,1000008,1000009],[]⟩) (n0:=10) (ex:=Ex.norm) (t':=(un 4++(.ptr false 0 0)::(.ptr false 1 0)::(.bool false)::(D.undef)::(.ptr false 5 0)::(D.undef)::(D.undef)::(D.undef)::(.aj .no 13 rs)::(.int .i64 ef)::(.ptr false 8 0)::(.bR 9 1 11)::(un 67++(.int .i64 (WO.i64.wrap ((↑i:Int)+(1:Int))))::(un 69)))) (s':= [.box [.int .i8 (af.k p (0:Int)),.int .i8 (af.n p (0:Int)),.int .i8 (af.k p (1:Int)),.int .i8 (af.n p (1:Int)),.int .i8 (af.k p (2:Int)),.int .i8 (af.n p (2:Int)),.int .i8 (af.k p (3:Int)),.int .i8 (af.n p (3:Int)),.int .i8 (af.k p (4:Int)),.int .i8 (af.n p (4:Int)),.int .i8 (af.k p (5:Int)),.int .i8 (af.n p (5:Int)),.int .i8 (af.k p (6:Int)),.int .i8 (af.n p (6:Int)),.int .i8 (af.k p (7:Int)),.int .i8 (af.n p (7:Int)),.int .i8 (af.k p (8:Int)),.int .i8 (af.n p (8:Int)),.int .i8 (af.k p (9:Int)),.int .i8 (af.n p (9:Int)),.int .i8 (af.k p (10:Int)),.int .i8 (af.n p (10:Int))],.box [.int .u64 (aq.r0 r),.int .u64 (aq.r1 r),.int .u64 (aq.r2 r),.int .u64 (aq.r3 r),.int .u64 (aq.r4 r),.int .u64 (aq.r5 r),.int .u64 (aq.r6 r),.int .u64 (aq.r7 r),.int .u64 (aq.r8 r),.int .u64 (aq.r9 r),.int .u64 (aq.di r)],.dead,.dead,.dead,.box [.int .u64 (aq.r0 r2),.int .u64 (aq.r1 r2),.int .u64 (aq.r2 r2),.int .u64 (aq.r3 r2),.int .u64 (aq.r4 r2),.int .u64 (aq.r5 r2),.int .u64 (aq.r6 r2),.int .u64 (aq.r7 r2),.int .u64 (aq.r8 r2),.int .u64 (aq.r9 r2),.int .u64 (aq.di r2)],.dead,.dead,.box [.int .u64 (st (0:Int) (af.n p (↑i:Int)) (rg [aq.r0 r,aq.r1 r,aq.r2 r,aq.r3 r,aq.r4 r,aq.r5 r,aq.r6 r,aq.r7 r,aq.r8 r,aq.r9 r,aq.di r] (↑i:Int)) (ab.q0 m)),.int .u64 (st (1:Int) (af.n p (↑i:Int)) (rg [aq.r0 r,aq.r1 r,aq.r2 r,aq.r3 r,aq.r4 r,aq.r5 r,aq.r6 r,aq.r7 r,aq.r8 r,aq.r9 r,aq.di r] (↑i:Int)) (ab.q1 m)),.int .u64 (st (2:Int) (af.n p (↑i:Int)) (rg [aq.r0 r,aq.r1 r,aq.r2 r,aq.r3 r,aq.r4 r,aq.r5 r,aq.r6 r,aq.r7 r,aq.r8 r,aq.r9 r,aq.di r] (↑i:Int)) (ab.q2 m)),.int .u64 (st (3:Int) (af.n p (↑i:Int)) (rg [aq.r0 r,aq.r1 r,aq.r2 r,aq.r3 r,aq.r4 r,aq.r5 r,aq.r6 r,aq.r7 r,aq.r8 r,aq.r9 r,aq.di r] (↑i:Int)) (ab.q3 m)),.int .u64 (st (4:Int) (af.n p (↑i:Int)) (rg [aq.r0 r,aq.r1 r,aq.r2 r,aq.r3 r,aq.r4 r,aq.r5 r,aq.r6 r,aq.r7 r,aq.r8 r,aq.r9 r,aq.di r] (↑i:Int)) (ab.q4 m)),.int .u64 (st (5:Int) (af.n p (↑i:Int)) (rg [aq.r0 r,aq.r1 r,aq.r2 r,aq.r3 r,aq.r4 r,aq.r5 r,aq.r6 r,aq.r7 r,aq.r8 r,aq.r9 r,aq.di r] (↑i:Int)) (ab.q5 m)),.int .u64 (st (6:Int) (af.n p (↑i:Int)) (rg [aq.r0 r,aq.r1 r,aq.r2 r,aq.r3 r,aq.r4 r,aq.r5 r,aq.r6 r,aq.r7 r,aq.r8 r,aq.r9 r,aq.di r] (↑i:Int)) (ab.q6 m)),.int .u64 (st (7:Int) (af.n p (↑i:Int)) (rg [aq.r0 r,aq.r1 r,aq.r2 r,aq.r3 r,aq.r4 r,aq.r5 r,aq.r6 r,aq.r7 r,aq.r8 r,aq.r9 r,aq.di r] (↑i:Int)) (ab.q7 m)),.int .u64 (st (8:Int) (af.n p (↑i:Int)) (rg [aq.r0 r,aq.r1 r,aq.r2 r,aq.r3 r,aq.r4 r,aq.r5 r,aq.r6 r,aq.r7 r,aq.r8 r,aq.r9 r,aq.di r] (↑i:Int)) (ab.q8 m)),.int .u64 (st (9:Int) (af.n p (↑i:Int)) (rg [aq.r0 r,aq.r1 r,aq.r2 r,aq.r3 r,aq.r4 r,aq.r5 r,aq.r6 r,aq.r7 r,aq.r8 r,aq.r9 r,aq.di r] (↑i:Int)) (ab.q9 m)),.int .u64 (st (10:Int) (af.n p (↑i:Int)) (rg [aq.r0 r,aq.r1 r,aq.r2 r,aq.r3 r,aq.r4 r,aq.r5 r,aq.r6 r,aq.r7 r,aq.r8 r,aq.r9 r,aq.di r] (↑i:Int)) (ab.bK m)),.int .u64 (st (11:Int) (af.n p (↑i:Int)) (rg [aq.r0 r,aq.r1 r,aq.r2 r,aq.r3 r,aq.r4 r,aq.r5 r,aq.r6 r,aq.r7 r,aq.r8 r,aq.r9 r,aq.di r] (↑i:Int)) (ab.bP m)),.int .u64 (st (12:Int) (af.n p (↑i:Int)) (rg [aq.r0 r,aq.r1 r,aq.r2 r,aq.r3 r,aq.r4 r,aq.r5 r,aq.r6 r,aq.r7 r,aq.r8 r,aq.r9 r,aq.di r] (↑i:Int)) (ab.bO m)),.int .u64 (st (13:Int) (af.n p (↑i:Int)) (rg [aq.r0 r,aq.r1 r,aq.r2 r,aq.r3 r,aq.r4 r,aq.r5 r,aq.r6 r,aq.r7 r,aq.r8 r,aq.r9 r,aq.di r] (↑i:Int)) (ab.bN m)),.int .u64 (st (14:Int) (af.n p (↑i:Int)) (rg [aq.r0 r,aq.r1 r,aq.r2 r,aq.r3 r,aq.r4 r,aq.r5 r,aq.r6 r,aq.r7 r,aq.r8 r,aq.r9 r,aq.di r] (↑i:Int)) (ab.bM m)),.int .u64 (st (15:Int) (af.n p (↑i:Int)) (rg [aq.r0 r,aq.r1 r,aq.r2 r,aq.r3 r,aq.r4 r,aq.r5 r,aq.r6 r,aq.r7 r,aq.r8 r,aq.r9 r,aq.di r] (↑i:Int)) (ab.bL m)),.bool (ab.fk m),.bool (ab.fc m),.bool (ab.fz m),.bool (ab.fs m),.bool (ab.fo m),.int .u64 (ab.pc m)],.box (VG D.aJ cs)]) mixed [tC (decide_eq_true (Vu i1)),.cH (decide ((0:Int)≤(↑i:Int)∧(↑i:Int)<(↑(11:Nat):Int))) true (by ((try simp only [Vj,Vl,Vd,Vf,Vg,bm,aH,decide_eq_true_eq,decide_eq_false_iff_not,beq_iff_eq,bne_iff_ne,beq_eq_false_iff_ne,Vm,Vo,Vi,Vp] at*);omega)),.get _ _ _ (@nV (p) ((↑i:Int)) ([]) (by ((try simp only [Vj,Vl,Vd,Vf,Vg,bm,aH,decide_eq_true_eq,decide_eq_false_iff_not,beq_iff_eq,bne_iff_ne,beq_eq_false_iff_ne,Vm,Vo,Vi,Vp] at*);omega)) i1),tC (cu 1 true (eq_of_beq k0)),.cH (decide ((0:Int)≤(↑i:Int)∧(↑i:Int)<(↑(11:Nat):Int))) true (by ((try simp only [Vj,Vl,Vd,Vf,Vg,bm,aH,decide_eq_true_eq,decide_eq_false_iff_not,beq_iff_eq,bne_iff_ne,beq_eq_false_iff_ne,Vm,Vo,Vi,Vp] at*);omega)),.get _ _ _ (@GZ (p) ((↑i:Int)) ([]) (by ((try simp only [Vj,Vl,Vd,Vf,Vg,bm,aH,decide_eq_true_eq,decide_eq_false_iff_not,beq_iff_eq,bne_iff_ne,beq_eq_false_iff_ne,Vm,Vo,Vi,Vp] at*);omega)) i1),.cH (decide ((0:Int)≤(↑i:Int)∧(↑i:Int)<(↑(11:Nat):Int))) true (by ((try simp only [Vj,Vl,Vd,Vf,Vg,bm,aH,decide_eq_true_eq,decide_eq_false_iff_not,beq_iff_eq,bne_iff_ne,beq_eq_false_iff_ne,Vm,Vo,Vi,Vp] at*);omega)),.get _ _ _ (@pU (aq.r0 r) (aq.r1 r) (aq.r2 r) (aq.r3 r) (aq.r4 r) (aq.r5 r) (aq.r6 r) (aq.r7 r) (aq.r8 r) (aq.r9 r) (aq.di r) ((↑i:Int)) ([]) (by ((try simp only [Vj,Vl,Vd,Vf,Vg,bm,aH,decide_eq_true_eq,decide_eq_false_iff_not,beq_iff_eq,bne_iff_ne,beq_eq_false_iff_ne,Vm,Vo,Vi,Vp] at*);omega)) i1),.cH (decide ((0:Int)≤af.n p (↑i:Int)∧af.n p (↑i:Int)<(↑(16:Nat):Int))) true (by ((try simp only [Vj,Vl,Vd,Vf,Vg,bm,aH,decide_eq_true_eq,decide_eq_false_iff_not,beq_iff_eq,bne_iff_ne,beq_eq_false_iff_ne,Vm,Vo,Vi,Vp] at*);omega)),.fK _ _ _ _ (@mo (ab.q0 m) (ab.q1 m) (ab.q2 m) (ab.q3 m) (ab.q4 m) (ab.q5 m) (ab.q6 m) (ab.q7 m) (ab.q8 m) (ab.q9 m) (ab.bK m) (ab.bP m) (ab.bO m) (ab.bN m) (ab.bM m) (ab.bL m) (af.n p (↑i:Int)) (rg [aq.r0 r,aq.r1 r,aq.r2 r,aq.r3 r,aq.r4 r,aq.r5 r,aq.r6 r,aq.r7 r,aq.r8 r,aq.r9 r,aq.di r] (↑i:Int)) ([.bool (ab.fk m),.bool (ab.fc m),.bool (ab.fz m),.bool (ab.fs m),.bool (ab.fo m),.int .u64 (ab.pc m)]) b0 b1),.cl ([.int .u64 (st (0:Int) (af.n p (↑i:Int)) (rg [aq.r0 r,aq.r1 r,aq.r2 r,aq.r3 r,aq.r4 r,aq.r5 r,aq.r6 r,aq.r7 r,aq.r8 r,aq.r9 r,aq.di r] (↑i:Int)) (ab.q0 m)),.int .u64 (st (1:Int) (af.n p (↑i:Int)) (rg [aq.r0 r,aq.r1 r,aq.r2 r,aq.r3 r,aq.r4 r,aq.r5 r,aq.r6 r,aq.r7 r,aq.r8 r,aq.r9 r,aq.di r] (↑i:Int)) (ab.q1 m)),.int .u64 (st (2:Int) (af.n p (↑i:Int)) (rg [aq.r0 r,aq.r1 r,aq.r2 r,aq.r3 r,aq.r4 r,aq.r5 r,aq.r6 r,aq.r7 r,aq.r8 r,aq.r9 r,aq.di r] (↑i:Int)) (ab.q2 m)),.int .u64 (st (3:Int) (af.n p (↑i:Int)) (rg [aq.r0 r,aq.r1 r,aq.r2 r,aq.r3 r,aq.r4 r,aq.r5 r,aq.r6 r,aq.r7 r,aq.r8 r,aq.r9 r,aq.di r] (↑i:Int)) (ab.q3 m)),.int .u64 (st (4:Int) (af.n p (↑i:Int)) (rg [aq.r0 r,aq.r1 r,aq.r2 r,aq.r3 r,aq.r4 r,aq.r5 r,aq.r6 r,aq.r7 r,aq.r8 r,aq.r9 r,aq.di r] (↑i:Int)) (ab.q4 m)),.int .u64 (st (5:Int) (af.n p (↑i:Int)) (rg [aq.r0 r,aq.r1 r,aq.r2 r,aq.r3 r,aq.r4 r,aq.r5 r,aq.r6 r,aq.r7 r,aq.r8 r,aq.r9 r,aq.di r] (↑i:Int)) (ab.q5 m)),.int .u64 (st (6:Int) (af.n p (↑i:Int)) (rg [aq.r0 r,aq.r1 r,aq.r2 r,aq.r3 r,aq.r4 r,aq.r5 r,aq.r6 r,aq.r7 r,aq.r8 r,aq.r9 r,aq.di r] (↑i:Int)) (ab.q6 m)),.int .u64 (st (7:Int) (af.n p (↑i:Int)) (rg [aq.r0 r,aq.r1 r,aq.r2 r,aq.r3 r,aq.r4 r,aq.r5 r,aq.r6 r,aq.r7 r,aq.r8 r,aq.r9 r,aq.di r] (↑i:Int)) (ab.q7 m)),.int .u64 (st (8:Int) (af.n p (↑i:Int)) (rg [aq.r0 r,aq.r1 r,aq.r2 r,aq.r3 r,aq.r4 r,aq.r5 r,aq.r6 r,aq.r7 r,aq.r8 r,aq.r9 r,aq.di r] (↑i:Int)) (ab.q8 m)),.int .u64 (st (9:Int) (af.n p (↑i:Int)) (rg [aq.r0 r,aq.r1 r,aq.r2 r,aq.r3 r,aq.r4 r,aq.r5 r,aq.r6 r,aq.r7 r,aq.r8 r,aq.r9 r,aq.di r] (↑i:Int)) (ab.q9 m)),.int .u64 (st (10:Int) (af.n p (↑i:Int)) (rg [aq.r0 r,aq.r1 r,aq.r2 r,aq.r3 r,aq.r4 r,aq.r5 r,aq.r6 r,aq.r7 r,aq.r8 r,aq.r9 r,aq.di r] (↑i:Int)) (ab.bK m)),.int .u64 (st (11:Int) (af.n p (↑i:Int)) (rg [aq.r0 r,aq.r1 r,aq.r2 r,aq.r3 r,aq.r4 r,aq.r5 r,aq.r6 r,aq.r7 r,aq.r8 r,aq.r9 r,aq.di r] (↑i:Int)) (ab.bP m)),.int .u64 (st (12:Int) (af.n p (↑i:Int)) (rg [aq.r0 r,aq.r1 r,aq.r2 r,aq.r3 r,aq.r4 r,aq.r5 r,aq.r6 r,aq.r7 r,aq.r8 r,aq.r9 r,aq.di r] (↑i:Int)) (ab.bO m)),.int .u64 (st (13:Int) (af.n p (↑i:Int)) (rg [aq.r0 r,aq.r1 r,aq.r2 r,aq.r3 r,aq.r4 r,aq.r5 r,aq.r6 r,aq.r7 r,aq.r8 r,aq.r9 r,aq.di r] (↑i:Int)) (ab.bN m)),.int .u64 (st (14:Int) (af.n p (↑i:Int)) (rg [aq.r0 r,aq.r1 r,aq.r2 r,aq.r3 r,aq.r4 r,aq.r5 r,aq.r6 r,aq.r7 r,aq.r8 r,aq.r9 r,aq.di r] (↑i:Int)) (ab.bM m)),.int .u64 (st (15:Int) (af.n p (↑i:Int)) (rg [aq.r0 r,aq.r1 r,aq.r2 r,aq.r3 r,aq.r4 r,aq.r5 r,aq.r6 r,aq.r7 r,aq.r8 r,aq.r9 r,aq.di r] (↑i:Int)) (ab.bL m)),.bool (ab.fk m),.bool (ab.fc m),.bool (ab.fz m),.bool (ab.fs m),.bool (ab.fo m),.int .u64 (ab.pc m)]) (by first|exact dn rfl|exact OJ|exact dD OJ rfl),.cl (cs) (by first|exact dn rfl|exact OJ|exact dD OJ rfl)] (by kernel_rfl)).cast (by rfl) (by rfl)
theorem JI (p:af) (rs cs:List D) (r r2:aq) (m:ab) (ef:Int) (OJ:∀c∈cs,c.clean=true) (hl:cs.length=11) (i:Nat) (i1:(i:Int)≤10) (k0:(p.k (i:Int)==1)=false) (b0:0≤p.n (i:Int)) (b1:p.n (i:Int)<11):ao Tryz.prog (aI Tryz.f7 1) ⟨[4,5,6,8,12,13,14,15,83],[0,1,5,1000008,1000009],[]⟩ 10 (un 4++(.ptr false 0 0)::(.ptr false 1 0)::(.bool false)::(D.undef)::(.ptr false 5 0)::(D.undef)::(D.undef)::(D.undef)::(.aj .no 13 rs)::(.int .i64 ef)::(.ptr false 8 0)::(.bR 9 1 11)::(un 67++(.int .i64 (↑i:Int))::(un 69))) [.box (bW p),.box (iK r),.dead,.dead,.dead,.box (iK r2),.dead,.dead,.box (mz m),.box cs] .norm (un 4++(.ptr false 0 0)::(.ptr false 1 0)::(.bool false)::(D.undef)::(.ptr false 5 0)::(D.undef)::(D.undef)::(D.undef)::(.aj .no 13 rs)::(.int .i64 ef)::(.ptr false 8 0)::(.bR 9 1 11)::(un 67++(.int .i64 (WO.i64.wrap ((↑i:Int)+(1:Int))))::(un 69))) ([.box [.int .i8 (af.k p (0:Int)),.int .i8 (af.n p (0:Int)),.int .i8 (af.k p (1:Int)),.int .i8 (af.n p (1:Int)),.int .i8 (af.k p (2:Int)),.int .i8 (af.n p (2:Int)),.int .i8 (af.k p (3:Int)),.int .i8 (af.n p (3:Int)),.int .i8 (af.k p (4:Int)),.int .i8 (af.n p (4:Int)),.int .i8 (af.k p (5:Int)),.int .i8 (af.n p (5:Int)),.int .i8 (af.k p (6:Int)),.int .i8 (af.n p (6:Int)),.int .i8 (af.k p (7:Int)),.int .i8 (af.n p (7:Int)),.int .i8 (af.k p (8:Int)),.int .i8 (af.n p (8:Int)),.int .i8 (af.k p (9:Int)),.int .i8 (af.n p (9:Int)),.int .i8 (af.k p (10:Int)),.int .i8 (af.n p (10:Int))],.box [.int .u64 (aq.r0 r),.int .u64 (aq.r1 r),.int .u64 (aq.r2 r),.int .u64 (aq.r3 r),.int .u64 (aq.r4 r),.int .u64 (aq.r5 r),.int .u64 (aq.r6 r),.int .u64 (aq.r7 r),.int .u64 (aq.r8 r),.int .u64 (aq.r9 r),.int .u64 (aq.di r)],.dead,.dead,.dead,.box [.int .u64 (aq.r0 r2),.int .u64 (aq.r1 r2),.int .u64 (aq.r2 r2),.int .u64 (aq.r3 r2),.int .u64 (aq.r4 r2),.int .u64 (aq.r5 r2),.int .u64 (aq.r6 r2),.int .u64 (aq.r7 r2),.int .u64 (aq.r8 r2),.int .u64 (aq.r9 r2),.int .u64 (aq.di r2)],.dead,.dead,.box [.int .u64 (ab.q0 m),.int .u64 (ab.q1 m),.int .u64 (ab.q2 m),.int .u64 (ab.q3 m),.int .u64 (ab.q4 m),.int .u64 (ab.q5 m),.int .u64 (ab.q6 m),.int .u64 (ab.q7 m),.int .u64 (ab.q8 m),.int .u64 (ab.q9 m),.int .u64 (ab.bK m),.int .u64 (ab.bP m),.int .u64 (ab.bO m),.int .u64 (ab.bN m),.int .u64 (ab.bM m),.int .u64 (ab.bL m),.bool (ab.fk m),.bool (ab.fc m),.bool (ab.fz m),.bool (ab.fs m),.bool (ab.fo m),.int .u64 (ab.pc m)],.box (VG D.aJ (List.set cs (VB (af.n p (↑i:Int))*(1:Nat)) (.int .u64 (rg [aq.r0 r,aq.r1 r,aq.r2 r,aq.r3 r,aq.r4 r,aq.r5 r,aq.r6 r,aq.r7 r,aq.r8 r,aq.r9 r,aq.di r] (↑i:Int)))))]):=by
 exact (ao.aw (sp:=⟨[4,5,6,8,12,13,14,15,83],[0,1,5,1000008,1000009],[]⟩) (n0:=10) (ex:=Ex.norm) (t':=(un 4++(.ptr false 0 0)::(.ptr false 1 0)::(.bool false)::(D.undef)::(.ptr false 5 0)::(D.undef)::(D.undef)::(D.undef)::(.aj .no 13 rs)::(.int .i64 ef)::(.ptr false 8 0)::(.bR 9 1 11)::(un 67++(.int .i64 (WO.i64.wrap ((↑i:Int)+(1:Int))))::(un 69)))) (s':= [.box [.int .i8 (af.k p (0:Int)),.int .i8 (af.n p (0:Int)),.int .i8 (af.k p (1:Int)),.int .i8 (af.n p (1:Int)),.int .i8 (af.k p (2:Int)),.int .i8 (af.n p (2:Int)),.int .i8 (af.k p (3:Int)),.int .i8 (af.n p (3:Int)),.int .i8 (af.k p (4:Int)),.int .i8 (af.n p (4:Int)),.int .i8 (af.k p (5:Int)),.int .i8 (af.n p (5:Int)),.int .i8 (af.k p (6:Int)),.int .i8 (af.n p (6:Int)),.int .i8 (af.k p (7:Int)),.int .i8 (af.n p (7:Int)),.int .i8 (af.k p (8:Int)),.int .i8 (af.n p (8:Int)),.int .i8 (af.k p (9:Int)),.int .i8 (af.n p (9:Int)),.int .i8 (af.k p (10:Int)),.int .i8 (af.n p (10:Int))],.box [.int .u64 (aq.r0 r),.int .u64 (aq.r1 r),.int .u64 (aq.r2 r),.int .u64 (aq.r3 r),.int .u64 (aq.r4 r),.int .u64 (aq.r5 r),.int .u64 (aq.r6 r),.int .u64 (aq.r7 r),.int .u64 (aq.r8 r),.int .u64 (aq.r9 r),.int .u64 (aq.di r)],.dead,.dead,.dead,.box [.int .u64 (aq.r0 r2),.int .u64 (aq.r1 r2),.int .u64 (aq.r2 r2),.int .u64 (aq.r3 r2),.int .u64 (aq.r4 r2),.int .u64 (aq.r5 r2),.int .u64 (aq.r6 r2),.int .u64 (aq.r7 r2),.int .u64 (aq.r8 r2),.int .u64 (aq.r9 r2),.int .u64 (aq.di r2)],.dead,.dead,.box [.int .u64 (ab.q0 m),.int .u64 (ab.q1 m),.int .u64 (ab.q2 m),.int .u64 (ab.q3 m),.int .u64 (ab.q4 m),.int .u64 (ab.q5 m),.int .u64 (ab.q6 m),.int .u64 (ab.q7 m),.int .u64 (ab.q8 m),.int .u64 (ab.q9 m),.int .u64 (ab.bK m),.int .u64 (ab.bP m),.int .u64 (ab.bO m),.int .u64 (ab.bN m),.int .u64 (ab.bM m),.int .u64 (ab.bL m),.bool (ab.fk m),.bool (ab.fc m),.bool (ab.fz m),.bool (ab.fs m),.bool (ab.fo m),.int .u64 (ab.pc m)],.box (VG D.aJ (List.set cs (VB (af.n p (↑i:Int))*(1:Nat)) (.int .u64 (rg [aq.r0 r,aq.r1 r,aq.r2 r,aq.r3 r,aq.r4 r,aq.r5 r,aq.r6 r,aq.r7 r,aq.r8 r,aq.r9 r,aq.di r] (↑i:Int)))))]) mixed [tC (decide_eq_true (Vu i1)),.cH (decide ((0:Int)≤(↑i:Int)∧(↑i:Int)<(↑(11:Nat):Int))) true (by ((try simp only [Vj,Vl,Vd,Vf,Vg,bm,aH,decide_eq_true_eq,decide_eq_false_iff_not,beq_iff_eq,bne_iff_ne,beq_eq_false_iff_ne,Vm,Vo,Vi,Vp] at*);omega)),.get _ _ _ (@nV (p) ((↑i:Int)) ([]) (by ((try simp only [Vj,Vl,Vd,Vf,Vg,bm,aH,decide_eq_true_eq,decide_eq_false_iff_not,beq_iff_eq,bne_iff_ne,beq_eq_false_iff_ne,Vm,Vo,Vi,Vp] at*);omega)) i1),tC k0,.cH (decide ((0:Int)≤(↑i:Int)∧(↑i:Int)<(↑(11:Nat):Int))) true (by ((try simp only [Vj,Vl,Vd,Vf,Vg,bm,aH,decide_eq_true_eq,decide_eq_false_iff_not,beq_iff_eq,bne_iff_ne,beq_eq_false_iff_ne,Vm,Vo,Vi,Vp] at*);omega)),.get _ _ _ (@GZ (p) ((↑i:Int)) ([]) (by ((try simp only [Vj,Vl,Vd,Vf,Vg,bm,aH,decide_eq_true_eq,decide_eq_false_iff_not,beq_iff_eq,bne_iff_ne,beq_eq_false_iff_ne,Vm,Vo,Vi,Vp] at*);omega)) i1),.cH (decide ((0:Int)≤(↑i:Int)∧(↑i:Int)<(↑(11:Nat):Int))) true (by ((try simp only [Vj,Vl,Vd,Vf,Vg,bm,aH,decide_eq_true_eq,decide_eq_false_iff_not,beq_iff_eq,bne_iff_ne,beq_eq_false_iff_ne,Vm,Vo,Vi,Vp] at*);omega)),.get _ _ _ (@pU (aq.r0 r) (aq.r1 r) (aq.r2 r) (aq.r3 r) (aq.r4 r) (aq.r5 r) (aq.r6 r) (aq.r7 r) (aq.r8 r) (aq.r9 r) (aq.di r) ((↑i:Int)) ([]) (by ((try simp only [Vj,Vl,Vd,Vf,Vg,bm,aH,decide_eq_true_eq,decide_eq_false_iff_not,beq_iff_eq,bne_iff_ne,beq_eq_false_iff_ne,Vm,Vo,Vi,Vp] at*);omega)) i1),.cH (decide ((0:Int)≤af.n p (↑i:Int)∧af.n p (↑i:Int)<(↑(11:Nat):Int))) true (by ((try simp only [Vj,Vl,Vd,Vf,Vg,bm,aH,decide_eq_true_eq,decide_eq_false_iff_not,beq_iff_eq,bne_iff_ne,beq_eq_false_iff_ne,Vm,Vo,Vi,Vp] at*);omega)),.fK _ _ _ _ (@sJ (cs) (VB (af.n p (↑i:Int))*(1:Nat)) (.int .u64 (rg [aq.r0 r,aq.r1 r,aq.r2 r,aq.r3 r,aq.r4 r,aq.r5 r,aq.r6 r,aq.r7 r,aq.r8 r,aq.r9 r,aq.di r] (↑i:Int))) (by ((try simp only [Vj,Vl,Vd,Vf,Vg,bm,aH,decide_eq_true_eq,decide_eq_false_iff_not,beq_iff_eq,bne_iff_ne,beq_eq_false_iff_ne,Vm,Vo,Vi,Vp] at*);omega))),.raw,.cl ([.int .u64 (ab.q0 m),.int .u64 (ab.q1 m),.int .u64 (ab.q2 m),.int .u64 (ab.q3 m),.int .u64 (ab.q4 m),.int .u64 (ab.q5 m),.int .u64 (ab.q6 m),.int .u64 (ab.q7 m),.int .u64 (ab.q8 m),.int .u64 (ab.q9 m),.int .u64 (ab.bK m),.int .u64 (ab.bP m),.int .u64 (ab.bO m),.int .u64 (ab.bN m),.int .u64 (ab.bM m),.int .u64 (ab.bL m),.bool (ab.fk m),.bool (ab.fc m),.bool (ab.fz m),.bool (ab.fs m),.bool (ab.fo m),.int .u64 (ab.pc m)]) (by first|exact dn rfl|exact OJ|exact dD OJ rfl),.cl (List.set cs (VB (af.n p (↑i:Int))*(1:Nat)) (.int .u64 (rg [aq.r0 r,aq.r1 r,aq.r2 r,aq.r3 r,aq.r4 r,aq.r5 r,aq.r6 r,aq.r7 r,aq.r8 r,aq.r9 r,aq.di r] (↑i:Int)))) (by first|exact dn rfl|exact OJ|exact dD OJ rfl)] (by kernel_rfl)).cast (by rfl) (by rfl)
abbrev wC (s:List Int):List D:=s.map (.int .u64)
theorem dB (s:List Int):∀c∈wC s,c.clean=true:=by
 intro c hc
 obtain ⟨x,_,rfl⟩:=List.mem_map.1 hc
 rfl
theorem dG (s:List Int):(wC s).map D.aJ=wC s:=by
 rw [wC,List.map_map]
 exact List.map_congr_left fun x _=>rfl
theorem Cu (s:List Int) (i:Nat) (v:Int):(wC s).set i (.int .u64 v)=wC (s.set i v):=by simp [wC,List.map_set]
theorem wP {s:List Int} {i:Nat} (h:i<s.length):(wC s)[i]? =some (.int .u64 (s.getD i 0)):=by
 simp [wC,h]
theorem vM {k n:Int} (h:jE k n=true) (hk:k=1):0≤n∧n≤15:=by
 have:=jL h hk;omega
abbrev JK (rs:List D) (ef i:Int):List D:=(un 4++(.ptr false 0 0)::(.ptr false 1 0)::(.bool false)::(.undef)::(.ptr false 5 0)::(.undef)::(.undef)::(.undef)::(.aj .no 13 rs)::(.int .i64 ef)::(.ptr false 8 0)::(.bR 9 1 11)::(un 67++(.int .i64 i)::(un 69)))
abbrev JL (rs:List D) (ef:Int):List D:=(un 4++(.ptr false 0 0)::(.ptr false 1 0)::(.bool false)::(.undef)::(.ptr false 5 0)::(.undef)::(.undef)::(.undef)::(.aj .no 13 rs)::(.int .i64 ef)::(.ptr false 8 0)::(.bR 9 1 11)::(un 137))
abbrev Gg (p:af) (r r2:aq) (m:ab) (cs:List D):List Ob:= [.box (bW p),.box (iK r),.dead,.dead,.dead,.box (iK r2),.dead,.dead,.box (mz m),.box cs]
theorem HW (p:af) (hm:p.may=true) (hk:∀i:Int,0≤i→i≤10→p.k i≠0) (rs:List D) (r r2:aq) (ef:Int):∀(k i:Nat) (m:ab) (s:List Int),i+k=11→s.length=11→
  aF Tryz.prog (aI Tryz.f7 1) 10 (JK rs ef i) (Gg p r r2 m (wC s)) (.exit 2) (JL rs ef) (Gg p r r2 (sC p r k i m s).1 (wC (sC p r k i m s).2))
 |0,i,m,s,hi,hl=>by
  have:=Gf p rs (wC s) r r2 m ef (dB s) (by simp [hl]) i (by omega)
  rw [dG] at this
  exact aF.last this (fun h=>by cases h)
 |k+1,i,m,s,hi,hl=>by
  have g0:(0:Int)≤(i:Int):=by omega
  have g1:(i:Int)≤10:=by omega
  have QM:=af.fg hm g0 g1
  rw [sC]
  rcases dS QM with ⟨a,_⟩|⟨a,_⟩|⟨a,a2,a3⟩
  ·exact absurd a (hk _ g0 g1)
  ·have hh:=vM QM a
   have:=JJ p rs (wC s) r r2 m ef (dB s) (by simp [hl]) i g1 (by simp [a]) hh.1 hh.2
   rw [iq i g1,dG] at this
   rw [if_pos a]
   exact aF.cG this (HW p hm hk rs r r2 ef k (i+1) (m.put (p.n (i:Int)) (r.get (i:Int))) s (by omega) hl)
  ·have:=JI p rs (wC s) r r2 m ef (dB s) (by simp [hl]) i g1 (by simp [a]) a2 a3
   rw [iq i g1,Nat.mul_one,Cu,dG] at this
   rw [if_neg (by omega)]
   exact aF.cG this (HW p hm hk rs r r2 ef k (i+1) m (s.set (p.n (i:Int)).toNat (r.get (i:Int))) (by omega) (by simp [hl]))
abbrev lj (p:af) (r:aq):ab×List Int:=sC p r 11 0 .zero (Vc 11 0)
theorem Ld (p:af) (hm:p.may=true) (hk:∀i:Int,0≤i→i≤10→p.k i≠0) (rs:List D) (r r2:aq) (ef:Int):aU Tryz.prog 10 (.loop (aI Tryz.f7 1)) (JK rs ef 0) (Gg p r r2 .zero Kt) (.exit 2) (JL rs ef) (Gg p r r2 (lj p r).1 (wC (lj p r).2)):=by
 have:=HW p hm hk rs r r2 ef 11 0 .zero (Vc 11 0) rfl rfl
 exact aU.bA (by simp) this
theorem Ge (p:af) (rs cs outs:List D) (r2:aq) (m:ab) (ef:Int) (OJ:∀c∈cs,c.clean=true) (n k:Nat) (n1:n≤10000) (ho:outs.length≤10000) (h:n≤k):ao Tryz.prog (aI Tryz.f7 2) ⟨[4,6,8,13,14,15],[0,5,8,1000009],[(17,8)]⟩ 10 (un 4++(.ptr false 0 0)::(D.undef)::(.bool false)::(D.undef)::(.ptr false 5 0)::(un 4++(.int .i64 ef)::(.ptr false 8 0)::(.bR 9 1 11)::(D.undef)::(.aj (.tok 10 0) 8 outs)::(un 92++(.aj .no 13 rs)::(.int .i64 (↑n:Int))::(.int .i64 (↑k:Int))::(un 40)))) [.box (bW p),.dead,.dead,.dead,.dead,.box (iK r2),.dead,.dead,.box (mz m),.box cs,.bz 0 8] (.exit 4) (un 4++(.ptr false 0 0)::(D.undef)::(.bool false)::(D.undef)::(.ptr false 5 0)::(un 4++(.int .i64 ef)::(.ptr false 8 0)::(.bR 9 1 11)::(D.undef)::(.aj (.tok 10 0) 8 outs)::(un 135))) ([.box [.int .i8 (af.k p (0:Int)),.int .i8 (af.n p (0:Int)),.int .i8 (af.k p (1:Int)),.int .i8 (af.n p (1:Int)),.int .i8 (af.k p (2:Int)),.int .i8 (af.n p (2:Int)),.int .i8 (af.k p (3:Int)),.int .i8 (af.n p (3:Int)),.int .i8 (af.k p (4:Int)),.int .i8 (af.n p (4:Int)),.int .i8 (af.k p (5:Int)),.int .i8 (af.n p (5:Int)),.int .i8 (af.k p (6:Int)),.int .i8 (af.n p (6:Int)),.int .i8 (af.k p (7:Int)),.int .i8 (af.n p (7:Int)),.int .i8 (af.k p (8:Int)),.int .i8 (af.n p (8:Int)),.int .i8 (af.k p (9:Int)),.int .i8 (af.n p (9:Int)),.int .i8 (af.k p (10:Int)),.int .i8 (af.n p (10:Int))],.dead,.dead,.dead,.dead,.box [.int .u64 (aq.r0 r2),.int .u64 (aq.r1 r2),.int .u64 (aq.r2 r2),.int .u64 (aq.r3 r2),.int .u64 (aq.r4 r2),.int .u64 (aq.r5 r2),.int .u64 (aq.r6 r2),.int .u64 (aq.r7 r2),.int .u64 (aq.r8 r2),.int .u64 (aq.r9 r2),.int .u64 (aq.di r2)],.dead,.dead,.box [.int .u64 (ab.q0 m),.int .u64 (ab.q1 m),.int .u64 (ab.q2 m),.int .u64 (ab.q3 m),.int .u64 (ab.q4 m),.int .u64 (ab.q5 m),.int .u64 (ab.q6 m),.int .u64 (ab.q7 m),.int .u64 (ab.q8 m),.int .u64 (ab.q9 m),.int .u64 (ab.bK m),.int .u64 (ab.bP m),.int .u64 (ab.bO m),.int .u64 (ab.bN m),.int .u64 (ab.bM m),.int .u64 (ab.bL m),.bool (ab.fk m),.bool (ab.fc m),.bool (ab.fz m),.bool (ab.fs m),.bool (ab.fo m),.int .u64 (ab.pc m)],.box (VG D.aJ cs),.bz 0 8]):=by
 exact (ao.aw (sp:=⟨[4,6,8,13,14,15],[0,5,8,1000009],[(17,8)]⟩) (n0:=10) (ex:=Ex.exit (4:Nat)) (t':=(un 4++(.ptr false 0 0)::(D.undef)::(.bool false)::(D.undef)::(.ptr false 5 0)::(un 4++(.int .i64 ef)::(.ptr false 8 0)::(.bR 9 1 11)::(D.undef)::(.aj (.tok 10 0) 8 outs)::(un 135)))) (s':= [.box [.int .i8 (af.k p (0:Int)),.int .i8 (af.n p (0:Int)),.int .i8 (af.k p (1:Int)),.int .i8 (af.n p (1:Int)),.int .i8 (af.k p (2:Int)),.int .i8 (af.n p (2:Int)),.int .i8 (af.k p (3:Int)),.int .i8 (af.n p (3:Int)),.int .i8 (af.k p (4:Int)),.int .i8 (af.n p (4:Int)),.int .i8 (af.k p (5:Int)),.int .i8 (af.n p (5:Int)),.int .i8 (af.k p (6:Int)),.int .i8 (af.n p (6:Int)),.int .i8 (af.k p (7:Int)),.int .i8 (af.n p (7:Int)),.int .i8 (af.k p (8:Int)),.int .i8 (af.n p (8:Int)),.int .i8 (af.k p (9:Int)),.int .i8 (af.n p (9:Int)),.int .i8 (af.k p (10:Int)),.int .i8 (af.n p (10:Int))],.dead,.dead,.dead,.dead,.box [.int .u64 (aq.r0 r2),.int .u64 (aq.r1 r2),.int .u64 (aq.r2 r2),.int .u64 (aq.r3 r2),.int .u64 (aq.r4 r2),.int .u64 (aq.r5 r2),.int .u64 (aq.r6 r2),.int .u64 (aq.r7 r2),.int .u64 (aq.r8 r2),.int .u64 (aq.r9 r2),.int .u64 (aq.di r2)],.dead,.dead,.box [.int .u64 (ab.q0 m),.int .u64 (ab.q1 m),.int .u64 (ab.q2 m),.int .u64 (ab.q3 m),.int .u64 (ab.q4 m),.int .u64 (ab.q5 m),.int .u64 (ab.q6 m),.int .u64 (ab.q7 m),.int .u64 (ab.q8 m),.int .u64 (ab.q9 m),.int .u64 (ab.bK m),.int .u64 (ab.bP m),.int .u64 (ab.bO m),.int .u64 (ab.bN m),.int .u64 (ab.bM m),.int .u64 (ab.bL m),.bool (ab.fk m),.bool (ab.fc m),.bool (ab.fz m),.bool (ab.fs m),.bool (ab.fo m),.int .u64 (ab.pc m)],.box (VG D.aJ cs),.bz 0 8]) mixed [tC (by ((try simp only [Vj,Vl,Vd,Vf,Vg,bm,aH,decide_eq_true_eq,decide_eq_false_iff_not,beq_iff_eq,bne_iff_ne,beq_eq_false_iff_ne,Vm,Vo,Vi,Vp] at*);omega):(decide ((↑k:Int)<(↑n:Int)))=false),.cl (cs) (by first|exact dn rfl|exact OJ|exact dD OJ rfl)] (by kernel_rfl)).cast (by rfl) (by rfl)
theorem HT (p:af) (rs cs outs:List D) (r2:aq) (m:ab) (ef:Int) (OJ:∀c∈cs,c.clean=true) (n k:Nat) (n1:n≤10000) (ho:outs.length≤10000) (h:k<n) (op w dst src base aa ai cc a1 a2 a3 a4:Int) (hx:rs[k]? =some (dJ 0 op w dst src base aa ai cc a1 a2 a3 a4)):ao Tryz.prog (aI Tryz.f7 2) ⟨[4,6,8,13,14,15,110,111,112],[0,5,8,1000009],[(17,8)]⟩ 10 (un 4++(.ptr false 0 0)::(D.undef)::(.bool false)::(D.undef)::(.ptr false 5 0)::(un 4++(.int .i64 ef)::(.ptr false 8 0)::(.bR 9 1 11)::(D.undef)::(.aj (.tok 10 0) 8 outs)::(un 92++(.aj .no 13 rs)::(.int .i64 (↑n:Int))::(.int .i64 (↑k:Int))::(un 40)))) [.box (bW p),.dead,.dead,.dead,.dead,.box (iK r2),.dead,.dead,.box (mz m),.box cs,.bz 0 8] .norm (un 4++(.ptr false 0 0)::(D.undef)::(.bool false)::(D.undef)::(.ptr false 5 0)::(un 4++(.int .i64 ef)::(.ptr false 8 0)::(.bR 9 1 11)::(D.undef)::(.aj (.tok 10 0) 8 (outs++ [(xD op w dst src base aa ai cc)]))::(un 92++(.aj .no 13 rs)::(.int .i64 (↑n:Int))::(.int .i64 (WO.i64.wrap ((↑k:Int)+(1:Int))))::(un 40)))) ([.box [.int .i8 (af.k p (0:Int)),.int .i8 (af.n p (0:Int)),.int .i8 (af.k p (1:Int)),.int .i8 (af.n p (1:Int)),.int .i8 (af.k p (2:Int)),.int .i8 (af.n p (2:Int)),.int .i8 (af.k p (3:Int)),.int .i8 (af.n p (3:Int)),.int .i8 (af.k p (4:Int)),.int .i8 (af.n p (4:Int)),.int .i8 (af.k p (5:Int)),.int .i8 (af.n p (5:Int)),.int .i8 (af.k p (6:Int)),.int .i8 (af.n p (6:Int)),.int .i8 (af.k p (7:Int)),.int .i8 (af.n p (7:Int)),.int .i8 (af.k p (8:Int)),.int .i8 (af.n p (8:Int)),.int .i8 (af.k p (9:Int)),.int .i8 (af.n p (9:Int)),.int .i8 (af.k p (10:Int)),.int .i8 (af.n p (10:Int))],.dead,.dead,.dead,.dead,.box [.int .u64 (aq.r0 r2),.int .u64 (aq.r1 r2),.int .u64 (aq.r2 r2),.int .u64 (aq.r3 r2),.int .u64 (aq.r4 r2),.int .u64 (aq.r5 r2),.int .u64 (aq.r6 r2),.int .u64 (aq.r7 r2),.int .u64 (aq.r8 r2),.int .u64 (aq.r9 r2),.int .u64 (aq.di r2)],.dead,.dead,.box [.int .u64 (ab.q0 m),.int .u64 (ab.q1 m),.int .u64 (ab.q2 m),.int .u64 (ab.q3 m),.int .u64 (ab.q4 m),.int .u64 (ab.q5 m),.int .u64 (ab.q6 m),.int .u64 (ab.q7 m),.int .u64 (ab.q8 m),.int .u64 (ab.q9 m),.int .u64 (ab.bK m),.int .u64 (ab.bP m),.int .u64 (ab.bO m),.int .u64 (ab.bN m),.int .u64 (ab.bM m),.int .u64 (ab.bL m),.bool (ab.fk m),.bool (ab.fc m),.bool (ab.fz m),.bool (ab.fs m),.bool (ab.fo m),.int .u64 (ab.pc m)],.box (VG D.aJ cs),.bz 0 8]):=by
 exact (ao.aw (sp:=⟨[4,6,8,13,14,15,110,111,112],[0,5,8,1000009],[(17,8)]⟩) (n0:=10) (ex:=Ex.norm) (t':=(un 4++(.ptr false 0 0)::(D.undef)::(.bool false)::(D.undef)::(.ptr false 5 0)::(un 4++(.int .i64 ef)::(.ptr false 8 0)::(.bR 9 1 11)::(D.undef)::(.aj (.tok 10 0) 8 (outs++ [(xD op w dst src base aa ai cc)]))::(un 92++(.aj .no 13 rs)::(.int .i64 (↑n:Int))::(.int .i64 (WO.i64.wrap ((↑k:Int)+(1:Int))))::(un 40))))) (s':= [.box [.int .i8 (af.k p (0:Int)),.int .i8 (af.n p (0:Int)),.int .i8 (af.k p (1:Int)),.int .i8 (af.n p (1:Int)),.int .i8 (af.k p (2:Int)),.int .i8 (af.n p (2:Int)),.int .i8 (af.k p (3:Int)),.int .i8 (af.n p (3:Int)),.int .i8 (af.k p (4:Int)),.int .i8 (af.n p (4:Int)),.int .i8 (af.k p (5:Int)),.int .i8 (af.n p (5:Int)),.int .i8 (af.k p (6:Int)),.int .i8 (af.n p (6:Int)),.int .i8 (af.k p (7:Int)),.int .i8 (af.n p (7:Int)),.int .i8 (af.k p (8:Int)),.int .i8 (af.n p (8:Int)),.int .i8 (af.k p (9:Int)),.int .i8 (af.n p (9:Int)),.int .i8 (af.k p (10:Int)),.int .i8 (af.n p (10:Int))],.dead,.dead,.dead,.dead,.box [.int .u64 (aq.r0 r2),.int .u64 (aq.r1 r2),.int .u64 (aq.r2 r2),.int .u64 (aq.r3 r2),.int .u64 (aq.r4 r2),.int .u64 (aq.r5 r2),.int .u64 (aq.r6 r2),.int .u64 (aq.r7 r2),.int .u64 (aq.r8 r2),.int .u64 (aq.r9 r2),.int .u64 (aq.di r2)],.dead,.dead,.box [.int .u64 (ab.q0 m),.int .u64 (ab.q1 m),.int .u64 (ab.q2 m),.int .u64 (ab.q3 m),.int .u64 (ab.q4 m),.int .u64 (ab.q5 m),.int .u64 (ab.q6 m),.int .u64 (ab.q7 m),.int .u64 (ab.q8 m),.int .u64 (ab.q9 m),.int .u64 (ab.bK m),.int .u64 (ab.bP m),.int .u64 (ab.bO m),.int .u64 (ab.bN m),.int .u64 (ab.bM m),.int .u64 (ab.bL m),.bool (ab.fk m),.bool (ab.fc m),.bool (ab.fz m),.bool (ab.fs m),.bool (ab.fo m),.int .u64 (ab.pc m)],.box (VG D.aJ cs),.bz 0 8]) mixed [tC (by ((try simp only [Vj,Vl,Vd,Vf,Vg,bm,aH,decide_eq_true_eq,decide_eq_false_iff_not,beq_iff_eq,bne_iff_ne,beq_eq_false_iff_ne,Vm,Vo,Vi,Vp] at*);omega):(decide ((↑k:Int)<(↑n:Int)))=true),tT,.get _ _ _ hx,tF,.len (Vt outs+(1:Nat)) ((2147483648:Nat)) (by first|decide|omega|(simp;omega)),.cl (cs) (by first|exact dn rfl|exact OJ|exact dD OJ rfl)] (by kernel_rfl)).cast (by rfl) (by rfl)
abbrev HU (rs outs:List D) (ef:Int) (n k:Nat):List D:=(un 4++(.ptr false 0 0)::(.undef)::(.bool false)::(.undef)::(.ptr false 5 0)::(un 4++(.int .i64 ef)::(.ptr false 8 0)::(.bR 9 1 11)::(.undef)::(.aj (.tok 10 0) 8 outs)::(un 92++(.aj .no 13 rs)::(.int .i64 (n:Int))::(.int .i64 (k:Int))::(un 40))))
abbrev D1 (rs:List D) (ef:Int):List D:=(un 4++(.ptr false 0 0)::(.undef)::(.bool false)::(.undef)::(.ptr false 5 0)::(un 4++(.int .i64 ef)::(.ptr false 8 0)::(.bR 9 1 11)::(.undef)::(.aj (.tok 10 0) 8 [])::(un 92++(.aj .no 13 rs)::(.int .i64 (rs.length:Int))::(.int .i64 0)::(un 40))))
abbrev JH (outs:List D) (ef:Int):List D:=(un 4++(.ptr false 0 0)::(.undef)::(.bool false)::(.undef)::(.ptr false 5 0)::(un 4++(.int .i64 ef)::(.ptr false 8 0)::(.bR 9 1 11)::(.undef)::(.aj (.tok 10 0) 8 outs)::(un 135)))
abbrev HV (p:af) (r2:aq) (m:ab) (cs:List D):List Ob:= [.box (bW p),.dead,.dead,.dead,.dead,.box (iK r2),.dead,.dead,.box (mz m),.box cs,.bz 0 8]
theorem F5 {xs:List XS} {k:Nat} (h:k<xs.length):(gx xs)[k]? =some (dJ 0 xs[k].op xs[k].w xs[k].dst xs[k].src xs[k].base xs[k].aa xs[k].ai xs[k].cc 0 0 0 0):=by
 simp [gx,h,cd.d,xW]
theorem JG (p:af) (xs:List XS) (hl:xs.length≤10000) (r2:aq) (m:ab) (s:List Int) (ef:Int):∀(j k:Nat),k+j=xs.length→
  aF Tryz.prog (aI Tryz.f7 2) 10 (HU (gx xs) (ib (xs.take k)) ef xs.length k) (HV p r2 m (wC s)) (.exit 4) (JH (ib xs) ef) (HV p r2 m (wC s))
 |0,k,hk=>by
  obtain rfl:k=xs.length:=by omega
  have:=Ge p (gx xs) (wC s) (ib (xs.take xs.length)) r2 m ef (dB s) xs.length xs.length hl (by rw [jw,List.length_take];omega) (Nat.le_refl _)
  rw [dG,List.take_length] at this
  rw [List.take_length]
  exact aF.last this (fun h=>by cases h)
 |j+1,k,hk=>by
  have OK:k<xs.length:=by omega
  have:=HT p (gx xs) (wC s) (ib (xs.take k)) r2 m ef (dB s) xs.length k hl (by rw [jw,List.length_take];omega) OK _ _ _ _ _ _ _ _ _ _ _ _ (F5 OK)
  rw [LC (by omega),dG] at this
  have ih:=JG p xs hl r2 m s ef j (k+1) (by omega)
  have e:ib (xs.take (k+1))=ib (xs.take k)++ [xD xs[k].op xs[k].w xs[k].dst xs[k].src xs[k].base xs[k].aa xs[k].ai xs[k].cc]:=by
   rw [List.take_succ_eq_append_getElem OK,ib,List.map_append]
   rfl
  rw [e] at ih
  exact aF.cG this ih
theorem Lc (p:af) (xs:List XS) (hl:xs.length≤10000) (r2:aq) (m:ab) (s:List Int) (ef:Int):aU Tryz.prog 10 (.loop (aI Tryz.f7 2)) (D1 (gx xs) ef) [.box (bW p),.dead,.dead,.dead,.dead,.box (iK r2),.dead,.dead,.box (mz m),.box (VG D.aJ (wC s)),.bz 0 8] (.exit 4) (JH (ib xs) ef) (HV p r2 m (wC s)):=by
 have e:D1 (gx xs) ef=HU (gx xs) (ib (xs.take 0)) ef xs.length 0:=by
  have:(gx xs).length=xs.length:=by simp [gx]
  simp only [D1,HU,this]
  rfl
 rw [e,dG]
 exact aU.bA (by simp) (JG p xs hl r2 m s ef xs.length 0 (by omega))
end Go.Proofs.YtkpneibifdoecaaGreat
