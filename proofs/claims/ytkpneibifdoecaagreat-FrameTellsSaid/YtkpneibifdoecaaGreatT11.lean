import Derived.Test.YtkpneibifdoecaaGreatT05
import Derived.Test.YtkpneibifdoecaaGreatT09
import Derived.Test.YtkpneibifdoecaaGreatT10
open List renaming replicate→Vt,length_append→Vu,length_set→Vv,length_cons→Vx,length_nil→Vy,length_map→VC,length→VD,drop_eq_getElem_cons→VT,map→VY,length_singleton→V0,append_assoc→V7,append_nil→Wd,drop_length→Wl,map_cons→Wu,nil_append→WW
open Int renaming lt_add_one_of_le→Vz,not_lt→VH,toNat→VP,toNat_natCast→Wh
open Go.Fn renaming func→VE
open Nat renaming le_refl→VF,zero_add→V9,blt→Wx,blt_eq→WC
open True renaming intro→WY
open Go renaming IntKind→W3
/- Contracts and plain laws that a statement's proof leans on (texts merged:MV2A,MW3B,MW4,MW4A,MW5,RH1,RH1A,RH2,RH2A,RH3,E0,E0F0,I0H). -/
set_option linter.unusedVariables false
set_option linter.unusedSimpArgs false
set_option maxRecDepth 100000
set_option maxHeartbeats 8000000
namespace Go.Proofs.YtkpneibifdoecaaGreat
open Go Go.Ev
theorem D6 (l:List Mv) (Pe:l.length≤64):aJ Tryz.prog 96 [.aq .no 2 (cz l)] (.bool (lY [] l)):=by
 cases h:lY [] l with
 |true=>exact yG l Pe h
 |false=>exact yH l Pe h
theorem we (l:List Mv) (Pe:l.length≤64) (sc:Int):aJ Tryz.prog 65 [.aq .no 2 (cz l),.int .i8 sc] (.bool (gX l sc)):=by
 unfold gX
 cases h:ofM sc l with
 |false=>exact Ec l Pe sc h
 |true=>
  cases h2:fO sc with
  |false=>exact Eb l Pe sc h h2
  |true=>exact Ea l Pe sc h h2 _ (D6 l Pe)
abbrev KD (l:List Mv) (sc:Int) (k:Nat):List D:=((.undef)::(.int .i8 sc)::(.undef)::(.undef)::(.aq .tight 0 [])::(.undef)::(.aq .tight 0 [])::(.bA 1)::(un 16++(.aq .no 2 (cz l))::(.int .i64 (l.length:Int))::(.int .i64 (k:Int))::(un 74)))
abbrev M8 (sc:Int):List D:=((.undef)::(.int .i8 sc)::(.undef)::(.undef)::(.aq .tight 0 [])::(.undef)::(.aq .tight 0 [])::(un 94))
abbrev Oc (l:List Mv) (sc:Int) (q k:Nat):List D:=((.undef)::(.int .i8 sc)::(.undef)::(.undef)::(.aq .tight 0 [])::(.undef)::(.bP 2 2 q)::(.bA 1)::(un 16++(.aq .no 2 (cz l))::(.int .i64 (l.length:Int))::(.int .i64 (k:Int))::(un 74)))
abbrev LB (sc:Int) (q:Nat):List D:=((.undef)::(.int .i8 sc)::(.undef)::(.undef)::(.aq .tight 0 [])::(.undef)::(.bP 2 2 q)::(un 94))
abbrev kP:List LK:= [.int .i8,.int .i8]
theorem kE (p:Mv) (r:List Mv):bF (p::r)=if (p.1==p.2)=true then bF r else p::bF r:=by
 unfold bF
 rw [List.filter_cons]
 cases h:(p.1==p.2)<;>simp
theorem LA (l:List Mv) (Pe:l.length≤64) (sc:Int):∀(n k:Nat) (es:List (List D×D)) (f:List Mv),k+n=l.length→f.length≤k→
  aA Tryz.prog (aC Tryz.f47 0) 2 (Oc l sc f.length k) [.dead,.mf kP es,.box (bT f)] (.exit 1) (LB sc (f++bF (l.drop k)).length) [.dead,.dead,.box (bT (f++bF (l.drop k)))]
 |0,k,es,f,hk,hf=>by
  obtain rfl:k=l.length:=by omega
  have:=H5 (cz l) l.length l.length sc es (bT f) (aZ f) f.length (ct f) (by omega) (VF _)
  rw [aW] at this
  rw [Wl,show bF []= [] from rfl,Wd]
  exact aA.last this (fun h=>by cases h)
 |n+1,k,es,f,hk,hf=>by
  have Pd:k<l.length:=by omega
  rw [VT Pd,kE]
  cases he:(l[k].1==l[k].2) with
  |true=>
   have:=FV (cz l) l.length k sc es (bT f) (aZ f) f.length (ct f) (by omega) Pd l[k].1 l[k].2 (eh Pd) Pe he
   rw [ti (by omega),aW] at this
   rw [if_pos rfl]
   exact aA.bZ this (LA l Pe sc n (k+1) _ f (by omega) (by omega))
  |false=>
   have:=H4 (cz l) l.length k sc es (bT f) (aZ f) f.length (ct f) (by omega) Pd l[k].1 l[k].2 (eh Pd) Pe he
   have e:bT f++ [.int .i8 l[k].1,.int .i8 l[k].2]=bT (f++ [l[k]]):=by rw [ln];rfl
   rw [ti (by omega),e,aW] at this
   rw [if_neg (by simp)]
   have ih:=LA l Pe sc n (k+1) (fN es [.int .i8 l[k].1,.int .i8 l[k].2] (.bool (l[k].1==l[k].2))) (f++ [l[k]]) (by omega) (by rw [Vu,V0];omega)
   rw [V7,show (f++ [l[k]]).length=f.length+1 by simp] at ih
   exact aA.bZ this ih
theorem M7 (l:List Mv) (Pe:l.length≤64) (sc:Int):∀(n k:Nat) (es:List (List D×D)),k+n=l.length→bF (l.drop k)= []→
  aA Tryz.prog (aC Tryz.f47 0) 2 (KD l sc k) [.dead,.mf kP es] (.exit 1) (M8 sc) [.dead,.dead]
 |0,k,es,hk,hf=>aA.last (H6 (cz l) l.length k sc es (by omega)) (fun h=>by cases h)
 |n+1,k,es,hk,hf=>by
  have Pd:k<l.length:=by omega
  rw [VT Pd,kE] at hf
  cases he:(l[k].1==l[k].2) with
  |true=>
   rw [he,if_pos rfl] at hf
   have:=z4 (cz l) l.length k sc es Pd l[k].1 l[k].2 (eh Pd) Pe he
   rw [ti (by omega)] at this
   exact aA.bZ this (M7 l Pe sc n (k+1) _ (by omega) hf)
  |false=>rw [he,if_neg (by simp)] at hf;cases hf
theorem M6 (l:List Mv) (Pe:l.length≤64) (sc:Int):∀(n k:Nat) (es:List (List D×D)),k+n=l.length→bF (l.drop k)≠ []→
  aA Tryz.prog (aC Tryz.f47 0) 2 (KD l sc k) [.dead,.mf kP es] (.exit 1) (LB sc (bF (l.drop k)).length) [.dead,.dead,.box (bT (bF (l.drop k)))]
 |0,k,es,hk,hf=>by
  obtain rfl:k=l.length:=by omega
  rw [Wl] at hf
  exact absurd rfl hf
 |n+1,k,es,hk,hf=>by
  have Pd:k<l.length:=by omega
  rw [VT Pd,kE] at hf ⊢
  cases he:(l[k].1==l[k].2) with
  |true=>
   rw [he,if_pos rfl] at hf
   rw [if_pos rfl]
   have:=z4 (cz l) l.length k sc es Pd l[k].1 l[k].2 (eh Pd) Pe he
   rw [ti (by omega)] at this
   exact aA.bZ this (M6 l Pe sc n (k+1) _ (by omega) hf)
  |false=>
   rw [if_neg (by simp)]
   by_cases hk0:k+1≤64
   ·have:=Dp (cz l) l.length k sc es Pd l[k].1 l[k].2 (eh Pd) Pe he
    rw [ti (by omega)] at this
    by_cases hz:1≤k+1
    ·exact aA.bZ this (LA l Pe sc n (k+1) _ [l[k]] (by omega) hz)
    ·omega
   ·omega
abbrev FX (l:List Mv) (sc:Int):List D:=((.undef)::(.int .i8 sc)::(.undef)::(.undef)::(.aq .tight 0 [])::(.undef)::(.aq .tight 0 [])::(.bA 1)::(un 16++(.aq .no 2 (cz l))::(.int .i64 ((cz l).length:Int))::(.int .i64 0)::(un 74)))
theorem z5 (l:List Mv) (sc:Int):FX l sc=KD l sc 0:=by simp only [FX,KD,lk];rfl
theorem LD (l:List Mv) (Pe:l.length≤64) (sc:Int) (h:bF l= []):aI Tryz.prog 2 (.loop (aC Tryz.f47 0)) (FX l sc) [.dead,.mf kP []] (.exit 1) (M8 sc) [.dead,.dead]:=by
 rw [z5]
 exact aI.bf (VF _) (M7 l Pe sc l.length 0 [] (by omega) h)
theorem LC (l:List Mv) (Pe:l.length≤64) (sc:Int) (h:bF l≠ []):aI Tryz.prog 2 (.loop (aC Tryz.f47 0)) (FX l sc) [.dead,.mf kP []] (.exit 1) (LB sc (bF l).length) [.dead,.dead,.box (bT (bF l))]:=by
 rw [z5]
 exact aI.bf (VF _) (M6 l Pe sc l.length 0 [] (by omega) h)
abbrev mn (sc f:Int) (q:Mv):Mv:=if q.2=f then (q.1,sc) else q
abbrev MI (sc f:Int) (outs:List D) (n k:Nat):List D:=((.undef)::(.int .i8 sc)::(.undef)::(.undef)::(.aq (.tok 3 1) 2 outs)::(.undef)::(.bP 4 2 n)::(un 5++(.int .i8 f)::(un 54++(.int .i64 (n:Int))::(.int .i64 (k:Int))::(un 32))))
abbrev MK (sc:Int) (outs:List D) (n:Nat):List D:=((.undef)::(.int .i8 sc)::(.undef)::(.undef)::(.aq (.tok 3 1) 2 outs)::(.undef)::(.bP 4 2 n)::(un 94))
abbrev Lf (l:List Mv):List Ob:= [.dead,.dead,.dead,.bg 1 2,.box (bT l),.dead]
theorem MJ (sc f:Int) (outs:List D):∀(R Q:List Mv) (n:Nat),Q.length+R.length=n→n≤64→
  aA Tryz.prog (aC Tryz.f47 2) 6 (MI sc f outs n Q.length) (Lf (Q++R)) (.exit 5) (MK sc outs n) (Lf (Q++R.map (mn sc f)))
 | [],Q,n,hn,Pe=>by
  have hl:Q.length=n:=by simpa using hn
  have:=HN (bT (Q++ [])) outs (aZ _) sc f n Q.length Pe (by rw [ct,Wd];omega) (by omega)
  rw [aW] at this
  exact aA.last this (fun h=>by cases h)
 |p::R,Q,n,hn,Pe=>by
  have RY:Q.length+(R.length+1)=n:=by simpa using hn
  have Pd:Q.length<(Q++p::R).length:=by simp
  have hp:(Q++p::R)[Q.length]=p:=by simp
  have hg:=jz (Q++p::R) Q.length Pd
  rw [hp] at hg
  have PG:(bT (Q++p::R)).length=n*2:=by rw [ct,Vu,Vx];omega
  have ih:=MJ sc f outs R (Q++ [mn sc f p]) n (by rw [Vu,V0];omega) Pe
  rw [V7,V7,show (Q++ [mn sc f p]).length=Q.length+1 by simp] at ih
  rw [Wu]
  by_cases he:p.2=f
  ·have:=Jl (bT (Q++p::R)) outs (aZ _) sc f n Q.length Pe PG (by omega) p.2 hg (by simpa using he)
   have e:(bT (Q++p::R)).set (VP (Q.length:Int)*2+1) (.int .i8 sc)=bT (Q++mn sc f p::R):=by
    rw [Wh,sM _ _ Pd,hp]
    simp [mn,he]
   rw [ti (by omega),e,aW] at this
   exact aA.bZ this ih
  ·have:=GZ (bT (Q++p::R)) outs (aZ _) sc f n Q.length Pe PG (by omega) p.2 hg (by simpa using he)
   rw [ti (by omega),aW] at this
   have e:mn sc f p=p:=by simp [mn,he]
   rw [e] at ih ⊢
   exact aA.bZ this ih
theorem N1 (l:List Mv) (Pe:l.length≤64) (sc f:Int) (outs:List D):aI Tryz.prog 6 (.loop (aC Tryz.f47 2)) (MI sc f outs l.length 0) [.dead,.dead,.dead,.bg 1 2,.box (VY D.aG (bT l)),.dead] (.exit 5) (MK sc outs l.length) (Lf (l.map (mn sc f))):=by
 have:=MJ sc f outs l [] l.length (by simp) Pe
 rw [aW]
 exact aI.bf (VF _) this
abbrev NQ (sc f:Int) (outs:List D) (n k:Nat):List D:= [.undef,.int .i8 sc,.undef,.undef,.undef,.undef,.bP 3 2 n,.aq (.tok 2 1) 2 outs,.undef,.undef,.int .i8 f,.int .i64 (k:Int),.undef,.undef,.undef,.undef,.undef,.undef,.undef,.undef,.undef,.undef,.undef,.undef,.undef,.undef,.undef,.undef,.undef,.undef,.undef,.undef,.undef,.undef,.undef,.undef,.undef,.undef,.undef,.undef,.undef,.undef,.undef,.undef,.undef,.undef,.undef,.undef,.undef,.undef,.undef,.undef,.undef,.undef,.undef,.undef,.undef,.undef,.undef,.undef,.undef,.undef,.undef,.undef,.undef,.undef,.undef,.undef,.undef,.undef,.undef,.undef,.undef,.undef,.undef,.undef,.undef,.undef,.undef,.undef,.undef,.undef,.undef,.undef,.undef,.undef,.undef,.undef,.undef,.undef,.undef,.undef,.undef,.undef,.undef,.undef,.undef,.undef]
abbrev Mo (sc:Int) (outs:List D) (n:Nat):List D:= [.undef,.int .i8 sc,.undef,.undef,.undef,.undef,.bP 3 2 n,.aq (.tok 2 1) 2 outs,.undef,.undef,.undef,.undef,.undef,.undef,.undef,.undef,.undef,.undef,.undef,.undef,.undef,.undef,.undef,.undef,.undef,.undef,.undef,.undef,.undef,.undef,.undef,.undef,.undef,.undef,.undef,.undef,.undef,.undef,.undef,.undef,.undef,.undef,.undef,.undef,.undef,.undef,.undef,.undef,.undef,.undef,.undef,.undef,.undef,.undef,.undef,.undef,.undef,.undef,.undef,.undef,.undef,.undef,.undef,.undef,.undef,.undef,.undef,.undef,.undef,.undef,.undef,.undef,.undef,.undef,.undef,.undef,.undef,.undef,.undef,.undef,.undef,.undef,.undef,.undef,.undef,.undef,.undef,.undef,.undef,.undef,.undef,.undef,.undef,.undef,.undef,.undef,.undef,.undef]
abbrev KY (l:List Mv):List Ob:= [.dead,.dead,.bg 1 2,.box (bT l)]
theorem Mn (sc f:Int) (outs:List D):∀(R Q:List Mv) (n:Nat),Q.length+R.length=n→n≤64→
  aA Tryz.prog (aC Tryz.f49 2) 4 (NQ sc f outs n Q.length) (KY (Q++R)) (.exit 4) (Mo sc outs n) (KY (Q++R.map (mn sc f)))
 | [],Q,n,hn,Pe=>by
  have hl:Q.length=n:=by simpa using hn
  have:=Hu (bT (Q++ [])) outs (aZ _) sc f n Q.length Pe (by rw [ct,Wd];omega) (by omega)
  rw [aW] at this
  exact aA.last this (fun h=>by cases h)
 |p::R,Q,n,hn,Pe=>by
  have RY:Q.length+(R.length+1)=n:=by simpa using hn
  have Pd:Q.length<(Q++p::R).length:=by simp
  have hp:(Q++p::R)[Q.length]=p:=by simp
  have hg:=jz (Q++p::R) Q.length Pd
  rw [hp] at hg
  have PG:(bT (Q++p::R)).length=n*2:=by rw [ct,Vu,Vx];omega
  have ih:=Mn sc f outs R (Q++ [mn sc f p]) n (by rw [Vu,V0];omega) Pe
  rw [V7,V7,show (Q++ [mn sc f p]).length=Q.length+1 by simp] at ih
  rw [Wu]
  by_cases he:p.2=f
  ·have:=I8 (bT (Q++p::R)) outs (aZ _) sc f n Q.length Pe PG (by omega) p.2 hg (by simpa using he)
   have e:(bT (Q++p::R)).set (VP (Q.length:Int)*2+1) (.int .i8 sc)=bT (Q++mn sc f p::R):=by
    rw [Wh,sM _ _ Pd,hp]
    simp [mn,he]
   rw [lO (by omega),e,aW] at this
   exact aA.bZ this ih
  ·have:=I7 (bT (Q++p::R)) outs (aZ _) sc f n Q.length Pe PG (by omega) p.2 hg (by simpa using he)
   rw [lO (by omega),aW] at this
   have e:mn sc f p=p:=by simp [mn,he]
   rw [e] at ih ⊢
   exact aA.bZ this ih
abbrev KX (sc f:Int) (outs:List D) (n:Nat):List D:= [.undef,.int .i8 sc,.undef,.undef,.undef,.undef,.bP 3 2 n,.aq (.tok 2 1) 2 outs,.undef,.undef,.int .i8 f,.int .i64 0,.undef,.undef,.undef,.undef,.undef,.undef,.undef,.undef,.undef,.undef,.undef,.undef,.undef,.undef,.undef,.undef,.undef,.undef,.undef,.undef,.undef,.undef,.undef,.undef,.undef,.undef,.undef,.undef,.undef,.undef,.undef,.undef,.undef,.undef,.undef,.undef,.undef,.undef,.undef,.undef,.undef,.undef,.undef,.undef,.undef,.undef,.undef,.undef,.undef,.undef,.undef,.undef,.undef,.undef,.undef,.undef,.undef,.undef,.undef,.undef,.undef,.undef,.undef,.undef,.undef,.undef,.undef,.undef,.undef,.undef,.undef,.undef,.undef,.undef,.undef,.undef,.undef,.undef,.undef,.undef,.undef,.undef,.undef,.undef,.undef,.undef]
theorem NR (l:List Mv) (Pe:l.length≤64) (sc f:Int) (outs:List D):aI Tryz.prog 4 (.loop (aC Tryz.f49 2)) (KX sc f outs l.length) [.dead,.dead,.bg 1 2,.box (VY D.aG (bT l))] (.exit 4) (Mo sc outs l.length) (KY (l.map (mn sc f))):=by
 have:=Mn sc f outs l [] l.length (by simp) Pe
 rw [aW]
 exact aI.bf (VF _) this
theorem nT:∀l:List Mv,(bT l).all storable=true
 | []=>rfl
 |p::r=>by rw [bT,List.all_cons,List.all_cons,nT r];rfl
theorem Jb (l:List Mv) (Pe:l.length≤64) (sc:Int) (outs:List D) (ho:outs.length≤200) (hp:0<l.length) (PG:(bT l).length=l.length*2) (j:Int) (Qo:bW Tryz.prog 68 [.bP 3 2 l.length] [.dead,.dead,.bg 0 2,.box (bT l)] (.int .i64 j) [.dead,.dead,.bg 0 2,.box (bT l)]) (j0:0≤j) (jl:j<l.length) (a b:Int) (hA:eG (bT l) (VP j*2) 2 [.int .i8 a,.int .i8 b]) (hj:(Wx 0 (VP j))=false) (hs:(Wx 0 (l.length - VP (W3.i64.wrap (j+1))))=false):ak Tryz.prog (aC Tryz.f49 1) ⟨[1,6],[],[(7,2)]⟩ 2 ((uu)::(.int .i8 sc)::(un 4++(.bP 3 2 (VD l))::(.aq (.tok 2 0) 2 outs)::(un 90))) [.dead,.dead,.bg 0 2,.box (bT l)] .norm ((uu)::(.int .i8 sc)::(un 4++(.aq .tight 2 [])::(.aq (.tok 2 0) 2 (outs++ [.agg [.int .i8 a,.int .i8 b]]))::(un 90))) ([.dead,.dead,.bg 0 2]):=by
 exact (ak.ao (sp:=⟨[1,6],[],[(7,2)]⟩) (n0:=2) (ex:=Ex.norm) (t':=((uu)::(.int .i8 sc)::(un 4++(.aq .tight 2 [])::(.aq (.tok 2 0) 2 (outs++ [.agg [.int .i8 a,.int .i8 b]]))::(un 90)))) (s':= [.dead,.dead,.bg 0 2]) mixed [tC (fh 0 (by ((try simp only [Vu,Vx,Vy,Vv,bm] at*);(try unfold bn at*);omega):(decide ((↑(VD l):Int)<1))=false)),.gP _ _ _ _ _ (@lK ([.bP 3 2 (VD l)]) ([.dead,.dead,.bg 0 2,.box (bT l)]) _ _ Qo),tC (decide_eq_false (VH.2 j0)),.dM (decide (0≤j∧j<(↑(VD l):Int))) true (by ((try simp only [Vu,Vx,Vy,Vv,bm] at*);(try unfold bn at*);omega)),.bc _ _ _ _ (@ew (bT l) (VP j*(2:Nat)) ((2:Nat)) _ hA),.len (VD outs+(1:Nat)) ((2147483648:Nat)) (by first|decide|omega|(simp;omega)),.dM (decide (0≤j∧j≤(↑(VD l):Int))) true (by ((try simp only [Vu,Vx,Vy,Vv,bm] at*);(try unfold bn at*);omega)),.len (VP j) ((2147483648:Nat)) (by first|decide|omega|(simp;omega)),tC hj,.dM (decide (0≤W3.i64.wrap (j+1)∧W3.i64.wrap (j+1)≤(↑(VD l):Int))) true (by ((try simp only [Vu,Vx,Vy,Vv,bm] at*);(try unfold bn at*);omega)),.len (VD l - VP (W3.i64.wrap (j+1))) ((2147483648:Nat)) (by first|decide|omega|(simp;omega)),tC hs] (by kernel_rfl)).cast (by rfl) (by rfl)
theorem Ja (l:List Mv) (Pe:l.length≤64) (sc:Int) (outs:List D) (ho:outs.length≤200) (hp:0<l.length) (PG:(bT l).length=l.length*2) (j:Int) (Qo:bW Tryz.prog 68 [.bP 3 2 l.length] [.dead,.dead,.bg 0 2,.box (bT l)] (.int .i64 j) [.dead,.dead,.bg 0 2,.box (bT l)]) (j0:0≤j) (jl:j<l.length) (a b:Int) (hA:eG (bT l) (VP j*2) 2 [.int .i8 a,.int .i8 b]) (c2:List D) (PW:∀c∈c2,c.clean=true) (Pr:c2.all storable=true) (hR:eG (bT l) (0+VP (W3.i64.wrap (j+1))*2) ((l.length - VP (W3.i64.wrap (j+1)))*2) c2) (hj:(Wx 0 (VP j))=false) (hs:(Wx 0 (l.length - VP (W3.i64.wrap (j+1))))=true):ak Tryz.prog (aC Tryz.f49 1) ⟨[1],[],[(7,2),(6,2)]⟩ 2 ((uu)::(.int .i8 sc)::(un 4++(.bP 3 2 (VD l))::(.aq (.tok 2 0) 2 outs)::(un 90))) [.dead,.dead,.bg 0 2,.box (bT l)] .norm ((uu)::(.int .i8 sc)::(un 4++(.bP 3 2 (VD l - VP (W3.i64.wrap (j+1))))::(.aq (.tok 2 0) 2 (outs++ [.agg [.int .i8 a,.int .i8 b]]))::(un 90))) ([.dead,.dead,.bg 0 2,.box (VY D.aG c2)]):=by
 exact (ak.ao (sp:=⟨[1],[],[(7,2),(6,2)]⟩) (n0:=2) (ex:=Ex.norm) (t':=((uu)::(.int .i8 sc)::(un 4++(.bP 3 2 (VD l - VP (W3.i64.wrap (j+1))))::(.aq (.tok 2 0) 2 (outs++ [.agg [.int .i8 a,.int .i8 b]]))::(un 90)))) (s':= [.dead,.dead,.bg 0 2,.box (VY D.aG c2)]) mixed [tC (fh 0 (by ((try simp only [Vu,Vx,Vy,Vv,bm] at*);(try unfold bn at*);omega):(decide ((↑(VD l):Int)<1))=false)),.gP _ _ _ _ _ (@lK ([.bP 3 2 (VD l)]) ([.dead,.dead,.bg 0 2,.box (bT l)]) _ _ Qo),tC (decide_eq_false (VH.2 j0)),.dM (decide (0≤j∧j<(↑(VD l):Int))) true (by ((try simp only [Vu,Vx,Vy,Vv,bm] at*);(try unfold bn at*);omega)),.bc _ _ _ _ (@ew (bT l) (VP j*(2:Nat)) ((2:Nat)) _ hA),.len (VD outs+(1:Nat)) ((2147483648:Nat)) (by first|decide|omega|(simp;omega)),.dM (decide (0≤j∧j≤(↑(VD l):Int))) true (by ((try simp only [Vu,Vx,Vy,Vv,bm] at*);(try unfold bn at*);omega)),.len (VP j) ((2147483648:Nat)) (by first|decide|omega|(simp;omega)),tC hj,.dM (decide (0≤W3.i64.wrap (j+1)∧W3.i64.wrap (j+1)≤(↑(VD l):Int))) true (by ((try simp only [Vu,Vx,Vy,Vv,bm] at*);(try unfold bn at*);omega)),.len (VD l - VP (W3.i64.wrap (j+1))) ((2147483648:Nat)) (by first|decide|omega|(simp;omega)),tC hs,.bc _ _ _ _ (@ew (bT l) ((0:Nat)+VP (W3.i64.wrap (j+1))*(2:Nat)) ((VD l - VP (W3.i64.wrap (j+1)))*(2:Nat)) _ hR),.cl c2 (by first|exact cO rfl|exact aZ _|exact PT|exact PW|exact dm PT PW)] (by kernel_rfl)).cast (by rfl) (by rfl)
theorem K1 (l:List Mv) (Pe:l.length≤64) (sc:Int) (outs:List D) (ho:outs.length≤200) (hp:0<l.length) (PG:(bT l).length=l.length*2) (j:Int) (Qo:bW Tryz.prog 68 [.bP 3 2 l.length] [.dead,.dead,.bg 0 2,.box (bT l)] (.int .i64 j) [.dead,.dead,.bg 0 2,.box (bT l)]) (j0:0≤j) (jl:j<l.length) (a b:Int) (hA:eG (bT l) (VP j*2) 2 [.int .i8 a,.int .i8 b]) (c1:List D) (PT:∀c∈c1,c.clean=true) (hF:eG (bT l) 0 (VP j*2) c1) (RJ:Nat.beq c1.length (VP j*2)=true) (c2:List D) (PW:∀c∈c2,c.clean=true) (Pr:c2.all storable=true) (hR:eG (bT l) (0+VP (W3.i64.wrap (j+1))*2) ((l.length - VP (W3.i64.wrap (j+1)))*2) c2) (hj:(Wx 0 (VP j))=true):ak Tryz.prog (aC Tryz.f49 1) ⟨[1],[],[(7,2),(6,2)]⟩ 2 ((uu)::(.int .i8 sc)::(un 4++(.bP 3 2 (VD l))::(.aq (.tok 2 0) 2 outs)::(un 90))) [.dead,.dead,.bg 0 2,.box (bT l)] .norm ((uu)::(.int .i8 sc)::(un 4++(.bP 3 2 (VP j+(VD l - VP (W3.i64.wrap (j+1)))))::(.aq (.tok 2 0) 2 (outs++ [.agg [.int .i8 a,.int .i8 b]]))::(un 90))) ([.dead,.dead,.bg 0 2,.box (VY D.aG (c1++c2))]):=by
 exact (ak.ao (sp:=⟨[1],[],[(7,2),(6,2)]⟩) (n0:=2) (ex:=Ex.norm) (t':=((uu)::(.int .i8 sc)::(un 4++(.bP 3 2 (VP j+(VD l - VP (W3.i64.wrap (j+1)))))::(.aq (.tok 2 0) 2 (outs++ [.agg [.int .i8 a,.int .i8 b]]))::(un 90)))) (s':= [.dead,.dead,.bg 0 2,.box (VY D.aG (c1++c2))]) mixed [tC (fh 0 (by ((try simp only [Vu,Vx,Vy,Vv,bm] at*);(try unfold bn at*);omega):(decide ((↑(VD l):Int)<1))=false)),.gP _ _ _ _ _ (@lK ([.bP 3 2 (VD l)]) ([.dead,.dead,.bg 0 2,.box (bT l)]) _ _ Qo),tC (decide_eq_false (VH.2 j0)),.dM (decide (0≤j∧j<(↑(VD l):Int))) true (by ((try simp only [Vu,Vx,Vy,Vv,bm] at*);(try unfold bn at*);omega)),.bc _ _ _ _ (@ew (bT l) (VP j*(2:Nat)) ((2:Nat)) _ hA),.len (VD outs+(1:Nat)) ((2147483648:Nat)) (by first|decide|omega|(simp;omega)),.dM (decide (0≤j∧j≤(↑(VD l):Int))) true (by ((try simp only [Vu,Vx,Vy,Vv,bm] at*);(try unfold bn at*);omega)),.len (VP j) ((2147483648:Nat)) (by first|decide|omega|(simp;omega)),tC hj,.bc _ _ _ _ (@ew (bT l) ((0:Nat)) (VP j*(2:Nat)) _ hF),.dM (decide (0≤W3.i64.wrap (j+1)∧W3.i64.wrap (j+1)≤(↑(VD l):Int))) true (by ((try simp only [Vu,Vx,Vy,Vv,bm] at*);(try unfold bn at*);omega)),.len (VP j+(VD l - VP (W3.i64.wrap (j+1)))) ((2147483648:Nat)) (by first|decide|omega|(simp;omega)),tC (v:=true) RJ,.bc _ _ _ _ (@ew (bT l) ((0:Nat)+VP (W3.i64.wrap (j+1))*(2:Nat)) ((VD l - VP (W3.i64.wrap (j+1)))*(2:Nat)) _ hR),tC (v:=true) Pr,.cl (c1++c2) (by first|exact cO rfl|exact aZ _|exact PT|exact PW|exact dm PT PW)] (by kernel_rfl)).cast (by rfl) (by rfl)
theorem CL (l:List Mv) (Pe:l.length≤64) (sc:Int) (outs:List D) (ho:outs.length≤200) (hp:0<l.length) (PG:(bT l).length=l.length*2) (j:Int) (Qo:bW Tryz.prog 68 [.bP 3 2 l.length] [.dead,.dead,.bg 0 2,.box (bT l)] (.int .i64 j) [.dead,.dead,.bg 0 2,.box (bT l)]) (j0:j<0) (f:Int) (hf:(bT l)[0*2+1]? =some (.int .i8 f)):ak Tryz.prog (aC Tryz.f49 1) ⟨[1],[],[(7,2),(6,2)]⟩ 2 ((D.undef)::(.int .i8 sc)::(un 4++(.bP 3 2 (VD l))::(.aq (.tok 2 0) 2 outs)::(un 90))) [.dead,.dead,.bg 0 2,.box (bT l)] .norm ((D.undef)::(.int .i8 sc)::(un 4++(.bP 3 2 (VD l))::(.aq (.tok 2 0) 2 (outs++ [.agg [.int .i8 sc,.int .i8 f]]))::(un 90))) ([.dead,.dead,.bg 0 2,.box (VY D.aG (bT (VY (mn sc f) l)))]):=by
 have c0:= @NR l Pe sc f (outs++ [.agg [.int .i8 sc,.int .i8 f]])
 exact (ak.ao (sp:=⟨[1],[],[(7,2),(6,2)]⟩) (n0:=2) (ex:=Ex.norm) (t':=((D.undef)::(.int .i8 sc)::(un 4++(.bP 3 2 (VD l))::(.aq (.tok 2 0) 2 (outs++ [.agg [.int .i8 sc,.int .i8 f]]))::(un 90)))) (s':= [.dead,.dead,.bg 0 2,.box (VY D.aG (bT (VY (mn sc f) l)))]) mixed [tC (fh 0 (by ((try simp only [Vu,Vx,Vy,Vv,bm] at*);(try unfold bn at*);omega):(decide ((↑(VD l):Int)<(1:Int)))=false)),.gP _ _ _ _ _ (@lK ([.bP 3 2 (VD l)]) ([.dead,.dead,.bg 0 2,.box (bT l)]) _ _ Qo),tC (decide_eq_true j0),.dM (decide ((0:Int)≤(0:Int)∧(0:Int)<(↑(VD l):Int))) true (by ((try simp only [Vu,Vx,Vy,Vv,bm] at*);(try unfold bn at*);omega)),.get _ _ _ hf,.len (VD outs+(1:Nat)) ((2147483648:Nat)) (by first|decide|omega|(simp;omega)),.head ⟨[1,6,7,10,11],[2,1000003],[]⟩ _ _ _ _ _ _ _ c0,.cl (bT l) (by first|exact cO rfl|exact aZ _|exact PT|exact PW|exact dm PT PW),.cl (bT (VY (mn sc f) l)) (by first|exact cO rfl|exact aZ _|exact PT|exact PW|exact dm PT PW)] (by kernel_rfl)).cast (by rfl) (by rfl)
theorem Hy (sc:Int) (outs:List D):ak Tryz.prog (aC Tryz.f49 1) ⟨[],[],[(7,2)]⟩ 2 ((uu)::(.int .i8 sc)::(un 4++(.aq .tight 2 [])::(.aq (.tok 2 0) 2 outs)::(un 90))) [.dead,.dead,.bg 0 2] (.exit 2) (un 7++(.aq (.tok 2 0) 2 outs)::(un 90)) ([.dead,.dead,.bg 0 2]):=by
 exact (ak.ao (sp:=⟨[],[],[(7,2)]⟩) (n0:=2) (ex:=Ex.exit (2:Nat)) (t':=(un 7++(.aq (.tok 2 0) 2 outs)::(un 90))) (s':= [.dead,.dead,.bg 0 2]) mixed [tF] (by kernel_rfl)).cast (by rfl) (by rfl)
theorem pT (sc:Int):∀f,ey sc f []= []
 |0=>rfl
 |_+1=>rfl
theorem pS (p:Mv) (l:List Mv):cz (p::l)= .agg [.int .i8 p.1,.int .i8 p.2]::cz l:=rfl
abbrev NT (sc:Int) (outs:List D) (n:Nat):List D:= [.undef,.int .i8 sc,.undef,.undef,.undef,.undef,.bP 3 2 n,.aq (.tok 2 0) 2 outs,.undef,.undef,.undef,.undef,.undef,.undef,.undef,.undef,.undef,.undef,.undef,.undef,.undef,.undef,.undef,.undef,.undef,.undef,.undef,.undef,.undef,.undef,.undef,.undef,.undef,.undef,.undef,.undef,.undef,.undef,.undef,.undef,.undef,.undef,.undef,.undef,.undef,.undef,.undef,.undef,.undef,.undef,.undef,.undef,.undef,.undef,.undef,.undef,.undef,.undef,.undef,.undef,.undef,.undef,.undef,.undef,.undef,.undef,.undef,.undef,.undef,.undef,.undef,.undef,.undef,.undef,.undef,.undef,.undef,.undef,.undef,.undef,.undef,.undef,.undef,.undef,.undef,.undef,.undef,.undef,.undef,.undef,.undef,.undef,.undef,.undef,.undef,.undef,.undef,.undef]
abbrev Mr (outs:List D):List D:= [.undef,.undef,.undef,.undef,.undef,.undef,.undef,.aq (.tok 2 0) 2 outs,.undef,.undef,.undef,.undef,.undef,.undef,.undef,.undef,.undef,.undef,.undef,.undef,.undef,.undef,.undef,.undef,.undef,.undef,.undef,.undef,.undef,.undef,.undef,.undef,.undef,.undef,.undef,.undef,.undef,.undef,.undef,.undef,.undef,.undef,.undef,.undef,.undef,.undef,.undef,.undef,.undef,.undef,.undef,.undef,.undef,.undef,.undef,.undef,.undef,.undef,.undef,.undef,.undef,.undef,.undef,.undef,.undef,.undef,.undef,.undef,.undef,.undef,.undef,.undef,.undef,.undef,.undef,.undef,.undef,.undef,.undef,.undef,.undef,.undef,.undef,.undef,.undef,.undef,.undef,.undef,.undef,.undef,.undef,.undef,.undef,.undef,.undef,.undef,.undef,.undef]
abbrev NU (l:List Mv):List Ob:= [.dead,.dead,.bg 0 2,.box (bT l)]
theorem K3 (sc:Int):∀(f:Nat) (l:List Mv) (outs:List D),mm sc l→l≠ []→l.length+fU sc l≤f→l.length≤64→outs.length+f≤200→
  aA Tryz.prog (aC Tryz.f49 1) 2 (NT sc outs l.length) (NU l) (.exit 2) (Mr (outs++cz (ey sc f l))) [.dead,.dead,.bg 0 2]
 |0,l,outs,h,hn,hf,Pe,ho=>by
  have:=List.length_pos_iff.2 hn
  omega
 |f+1,[],outs,h,hn,hf,Pe,ho=>absurd rfl hn
 |f+1,p::r,outs,h,hn,hf,Pe,ho=>by
  have Pw:0<(p::r).length:=by simp
  have Rh:=fun k=>kB sc (p::r) k
  have PG:=ct (p::r)
  rw [ey]
  cases hj:dU (p::r) (p::r) 0 with
  |some j=>
   have Qo:=tL (wU (p::r) Pe h.ne j hj)
   obtain ⟨j',q,rfl,hk,hq⟩:=ku _ _ _ _ hj
   rw [V9] at*
   obtain ⟨Pd,P5⟩:=List.getElem?_eq_some_iff.1 hk
   have hA:=iv Pd
   rw [P5] at hA
   have hw:W3.i64.wrap ((j':Int)+1)=((j'+1:Nat):Int):=lO (by omega)
   have hlen:((p::r).eraseIdx j').length+1=(p::r).length:=by rw [List.length_eraseIdx,if_pos Pd];omega
   have hR:eG (bT (p::r)) (0+VP (W3.i64.wrap ((j':Int)+1))*2) (((p::r).length - VP (W3.i64.wrap ((j':Int)+1)))*2) (bT ((p::r).drop (j'+1))):=by
    rw [hw,Wh,V9]
    exact v7 (by omega) rfl
   have SX:=Rh j'
   have ih:=fun e=>K3 sc f ((p::r).eraseIdx j') (outs++ [.agg [.int .i8 q.1,.int .i8 q.2]]) (h.erase j') e (by omega) (by omega) (by rw [Vu,V0];omega)
   simp only []
   rw [List.getD_eq_getElem?_getD,hk,Option.getD_some,pS]
   by_cases UH:j'=0
   ·subst UH
    have TM:Wx 0 (VP ((0:Nat):Int))=false:=rfl
    have e:(p::r).eraseIdx 0=r:=rfl
    cases r with
    |nil=>
     have:=Jb [p] Pe sc outs (by omega) Pw PG _ Qo (by omega) (by simp) q.1 q.2 hA TM (by rw [hw];rfl)
     rw [e,pT]
     exact aA.bZ this (aA.last (Hy sc (outs++ [.agg [.int .i8 q.1,.int .i8 q.2]])) (fun h=>by cases h))
    |cons p2 r=>
     have:=Ja (p::p2::r) Pe sc outs (by omega) Pw PG _ Qo (by omega) (by simp;omega) q.1 q.2 hA _ (aZ _) (nT _) hR TM (by rw [hw,WC,Vx,Vx,Wh];omega)
     have ih:=ih (by rw [e];simp)
     rw [hw,aW,show ((p::p2::r).length - VP ((0+1:Nat):Int))=(p2::r).length from by rw [Wh];simp,show (p::p2::r).drop (0+1)=p2::r from rfl] at this
     rw [e,V7] at ih
     rw [e]
     exact aA.bZ this ih
   ·have hb:Wx 0 (VP (j':Int))=true:=by rw [Wh,WC];omega
    have hF:=qb (l:=p::r) (k:=j') (by omega)
    have RJ:Nat.beq (bT ((p::r).take j')).length (VP (j':Int)*2)=true:=by
     rw [Wh,ct,List.length_take,Nat.min_eq_left (by omega)];exact Nat.beq_refl _
    have:=K1 (p::r) Pe sc outs (by omega) Pw PG _ Qo (by omega) (by omega) q.1 q.2 hA _ (aZ _) hF RJ _ (aZ _) (nT _) hR hb
    have e:(p::r).eraseIdx j'=(p::r).take j'++(p::r).drop (j'+1):=List.eraseIdx_eq_take_drop_succ _ _
    have el:VP (j':Int)+((p::r).length - VP (W3.i64.wrap ((j':Int)+1)))=((p::r).eraseIdx j').length:=by rw [hw,Wh,Wh];omega
    rw [el,← ln,aW,← e] at this
    have ih:=ih (fun e=>by have:=congrArg VD e;simp only [Vy] at this;omega)
    rw [V7] at ih
    exact aA.bZ this ih
  |none=>
   have Qo:=tL (wV (p::r) Pe h.ne hj)
   have Td:=pV sc (p::r) h.nd h.sc hj
   have hp:p.2≠sc:=Td p (by simp)
   obtain ⟨o1,o2⟩:=nP sc p.2 hp (p::r)
   have o3:fU sc ((p::r).map (mn sc p.2))<fU sc (p::r):=o2 ⟨p,by simp,rfl⟩
   simp only []
   rw [pS]
   have:=CL (p::r) Pe sc outs (by omega) Pw PG _ Qo (by decide) p.2 rfl
   rw [aW] at this
   have ih:=K3 sc f ((p::r).map (mn sc p.2)) (outs++ [.agg [.int .i8 sc,.int .i8 p.2]]) (h.swap p.2) (by simp) (by rw [VC];omega) (by rw [VC];omega) (by rw [Vu,V0];omega)
   rw [V7,VC] at ih
   exact aA.bZ this ih
abbrev AR (l:List Mv):Nat:=2*l.length
abbrev K2 (sc:Int) (n:Nat):List D:= [.undef,.int .i8 sc,.undef,.undef,.undef,.undef,.bP 3 2 n,.aq (.tok 2 0) 2 [],.undef,.undef,.undef,.undef,.undef,.undef,.undef,.undef,.undef,.undef,.undef,.undef,.undef,.undef,.undef,.undef,.undef,.undef,.undef,.undef,.undef,.undef,.undef,.undef,.undef,.undef,.undef,.undef,.undef,.undef,.undef,.undef,.undef,.undef,.undef,.undef,.undef,.undef,.undef,.undef,.undef,.undef,.undef,.undef,.undef,.undef,.undef,.undef,.undef,.undef,.undef,.undef,.undef,.undef,.undef,.undef,.undef,.undef,.undef,.undef,.undef,.undef,.undef,.undef,.undef,.undef,.undef,.undef,.undef,.undef,.undef,.undef,.undef,.undef,.undef,.undef,.undef,.undef,.undef,.undef,.undef,.undef,.undef,.undef,.undef,.undef,.undef,.undef,.undef,.undef]
theorem NV (l:List Mv) (Pe:l.length≤64) (sc:Int) (h:mm sc (bF l)) (hn:bF l≠ []):aI Tryz.prog 2 (.loop (aC Tryz.f49 1)) (K2 sc (bF l).length) [.dead,.dead,.bg 0 2,.box (VY D.aG (bT (bF l)))] (.exit 2) (Mr (cz (ey sc (AR l) (bF l)))) [.dead,.dead,.bg 0 2]:=by
 have hle:(bF l).length≤l.length:=List.length_filter_le _ _
 have ho:=m6 sc (bF l)
 have:=K3 sc (AR l) (bF l) [] h hn (by unfold AR;omega) (by omega) (by unfold AR;simp;omega)
 rw [WW] at this
 rw [aW]
 exact aI.bf (by simp) this
abbrev Jg (l:List Mv) (sc:Int):List D:= [.aq .no 2 (cz l),.int .i8 sc,.undef,.undef,.undef,.undef,.aq .tight 0 [],.aq .tight 0 [],.int .i64 0,.undef,.undef,.undef,.undef,.undef,.undef,.undef,.undef,.undef,.undef,.undef,.undef,.undef,.undef,.undef,.undef,.undef,.undef,.undef,.undef,.undef,.undef,.undef,.undef,.undef,.undef,.undef,.undef,.undef,.undef,.undef,.undef,.undef,.undef,.undef,.undef,.undef,.undef,.undef,.undef,.undef,.undef,.undef,.undef,.undef,.undef,.undef,.undef,.undef,.undef,.undef,.undef,.undef,.undef,.undef,.undef,.undef,.undef,.undef,.undef,.undef,.undef,.undef,.undef,.undef,.undef,.undef,.undef,.undef,.undef,.undef,.undef,.undef,.undef,.undef,.undef,.undef,.undef,.undef,.undef,.undef,.undef,.undef,.undef,.undef,.undef,.undef,.undef,.undef]
theorem La (l:List Mv) (Pe:l.length≤64) (sc:Int) (h:bF l= []):aI Tryz.prog 1 (.loop (aC Tryz.f49 0)) (Jg l sc) [.dead] (.exit 0) (MD sc) [.dead]:=
 aI.bf (VF _) (MC l Pe sc l.length 0 (by omega) h)
theorem K9 (l:List Mv) (Pe:l.length≤64) (sc:Int) (h:bF l≠ []):aI Tryz.prog 1 (.loop (aC Tryz.f49 0)) (Jg l sc) [.dead] (.exit 0) (K8 sc (bF l).length) [.dead,.box (bT (bF l))]:=
 aI.bf (VF _) (MB l Pe sc l.length 0 (by omega) h)
theorem tp (l:List Mv) (Pe:(cz l).length≤64) (RZ:l.length≤64) (sc:Int) (hl:(cz l).length≤16) (hm:aJ Tryz.prog 67 [.aq .no 2 (cz l),.int .i8 sc] (.bool true)) (hn:bF l= []):aJ Tryz.prog 49 ([.aq .no 2 (cz l),.int .i8 sc]) (.aQ [.aq .tight 0 [],.int .i64 0]):=by
 have c0:= @La l RZ sc hn
 exact (Nd (d:= .aQ [.aq .tight 0 [],.int .i64 0]) [tC (fh 16 (by ((try simp only [Vu,Vx,Vy,Vv,bm] at*);(try unfold bn at*);omega):(decide ((↑(VD (cz l)):Int)<17))=true)),.ret _ _ _ hm,tF,.head ⟨[0,1,6,7,8],[],[]⟩ _ _ _ _ _ _ _ c0,.go 64,tF] (by kernel_rfl)).to (by simp [wk,ay,aB])
theorem wT (l:List Mv) (Pe:(cz l).length≤64) (RZ:l.length≤64) (sc:Int) (hl:(cz l).length≤16) (hm:aJ Tryz.prog 67 [.aq .no 2 (cz l),.int .i8 sc] (.bool true)) (hk:mm sc (bF l)) (hn:bF l≠ []) (hp:0<(bF l).length):aJ Tryz.prog 49 ([.aq .no 2 (cz l),.int .i8 sc]) (.aQ [.aq (.fresh 2) 2 (cz (ey sc (AR l) (bF l))),.int .i64 0]):=by
 have c0:= @K9 l RZ sc hn
 have c1:= @NV l RZ sc hk hn
 exact (Nd (d:= .aQ [.aq (.fresh 2) 2 (cz (ey sc (AR l) (bF l))),.int .i64 0]) [tC (fh 16 (by ((try simp only [Vu,Vx,Vy,Vv,bm] at*);(try unfold bn at*);omega):(decide ((↑(VD (cz l)):Int)<17))=true)),.ret _ _ _ hm,tF,.head ⟨[0,1,6,7,8],[],[]⟩ _ _ _ _ _ _ _ c0,.head ⟨[1],[],[(7,2),(6,2)]⟩ _ _ _ _ _ _ _ c1,.cl (bT (bF l)) (by first|exact cO rfl|exact aZ _)] (by kernel_rfl)).to (by simp [wk,ay,aB])
theorem A9 (num:Int) (h0:0≤num) (h1:num≤15):aJ Tryz.prog 32 ([.int .i64 num]) (.int .i64 (Int.tmod num 6)):=by
 exact (Om (d:= .int .i64 (Int.tmod num 6)) [tC (eF (decide_eq_false (VH.2 h0))),tC (eF (decide_eq_false (VH.2 h0))),tC (decide_eq_false (VH.2 h0)),tC (aK 16 (decide_eq_true (Vz h1)))] (by kernel_rfl)).to (by simp [wk,ay,aB])
theorem FJ (p:ae) (ls:List D) (num:Int) (n k:Nat) (hl:ls.length≤100) (h:n≤k):ak Tryz.prog (aC Tryz.f18 0) ⟨[0,3,6,8],[0],[(7,2)]⟩ 3 ((.int .i64 num)::(uu)::(uu)::(.ptr false 0 0)::(uu)::(uu)::(.aq .tight 1 kS)::(.aq (.tok 3 0) 2 ls)::(.int .i64 (↑n:Int))::(.int .i64 (↑k:Int))::(un 99)) [.box (aP p),.dead,.dead,.bg 0 2] (.exit 0) ((.int .i64 num)::(uu)::(uu)::(.ptr false 0 0)::(uu)::(uu)::(.aq .tight 1 [.int .i8 7,.int .i8 6,.int .i8 2,.int .i8 10,.int .i8 8])::(.aq (.tok 3 0) 2 ls)::(.int .i64 (↑n:Int))::(un 100)) ([.box [.int .i8 (ae.k p 0),.int .i8 (ae.n p 0),.int .i8 (ae.k p 1),.int .i8 (ae.n p 1),.int .i8 (ae.k p 2),.int .i8 (ae.n p 2),.int .i8 (ae.k p 3),.int .i8 (ae.n p 3),.int .i8 (ae.k p 4),.int .i8 (ae.n p 4),.int .i8 (ae.k p 5),.int .i8 (ae.n p 5),.int .i8 (ae.k p 6),.int .i8 (ae.n p 6),.int .i8 (ae.k p 7),.int .i8 (ae.n p 7),.int .i8 (ae.k p 8),.int .i8 (ae.n p 8),.int .i8 (ae.k p 9),.int .i8 (ae.n p 9),.int .i8 (ae.k p 10),.int .i8 (ae.n p 10)],.dead,.dead,.bg 0 2]):=by
 exact (ak.ao (sp:=⟨[0,3,6,8],[0],[(7,2)]⟩) (n0:=3) (ex:=Ex.exit (0:Nat)) (t':=((.int .i64 num)::(uu)::(uu)::(.ptr false 0 0)::(uu)::(uu)::(.aq .tight 1 [.int .i8 7,.int .i8 6,.int .i8 2,.int .i8 10,.int .i8 8])::(.aq (.tok 3 0) 2 ls)::(.int .i64 (↑n:Int))::(un 100))) (s':= [.box [.int .i8 (ae.k p 0),.int .i8 (ae.n p 0),.int .i8 (ae.k p 1),.int .i8 (ae.n p 1),.int .i8 (ae.k p 2),.int .i8 (ae.n p 2),.int .i8 (ae.k p 3),.int .i8 (ae.n p 3),.int .i8 (ae.k p 4),.int .i8 (ae.n p 4),.int .i8 (ae.k p 5),.int .i8 (ae.n p 5),.int .i8 (ae.k p 6),.int .i8 (ae.n p 6),.int .i8 (ae.k p 7),.int .i8 (ae.n p 7),.int .i8 (ae.k p 8),.int .i8 (ae.n p 8),.int .i8 (ae.k p 9),.int .i8 (ae.n p 9),.int .i8 (ae.k p 10),.int .i8 (ae.n p 10)],.dead,.dead,.bg 0 2]) mixed [tC (by ((try simp only [Vv,VC,bm] at*);(try unfold bn at*);omega):(decide ((↑k:Int)<(↑n:Int)))=false)] (by kernel_rfl)).cast (by rfl) (by rfl)
theorem JC (p:ae) (ls:List D) (num:Int) (n k:Nat) (hl:ls.length≤100) (kn:k<n) (n5:n≤5) (to:Int) (ht:kS[k]? =some (.int .i8 to)) (q1:(p.k (W3.i64.wrap ((k:Int)+1))==1)=true):ak Tryz.prog (aC Tryz.f18 0) ⟨[0,3,6,8,9],[0],[(7,2)]⟩ 3 ((.int .i64 num)::(uu)::(uu)::(.ptr false 0 0)::(uu)::(uu)::(.aq .tight 1 kS)::(.aq (.tok 3 0) 2 ls)::(.int .i64 (↑n:Int))::(.int .i64 (↑k:Int))::(un 99)) [.box (aP p),.dead,.dead,.bg 0 2] .norm ((.int .i64 num)::(uu)::(uu)::(.ptr false 0 0)::(uu)::(uu)::(.aq .tight 1 [.int .i8 7,.int .i8 6,.int .i8 2,.int .i8 10,.int .i8 8])::(.aq (.tok 3 0) 2 (ls++ [.agg [.int .i8 to,.int .i8 (ae.n p (W3.i64.wrap ((↑k:Int)+1)))]]))::(.int .i64 (↑n:Int))::(.int .i64 (W3.i64.wrap ((↑k:Int)+1)))::(un 99)) ([.box [.int .i8 (ae.k p 0),.int .i8 (ae.n p 0),.int .i8 (ae.k p 1),.int .i8 (ae.n p 1),.int .i8 (ae.k p 2),.int .i8 (ae.n p 2),.int .i8 (ae.k p 3),.int .i8 (ae.n p 3),.int .i8 (ae.k p 4),.int .i8 (ae.n p 4),.int .i8 (ae.k p 5),.int .i8 (ae.n p 5),.int .i8 (ae.k p 6),.int .i8 (ae.n p 6),.int .i8 (ae.k p 7),.int .i8 (ae.n p 7),.int .i8 (ae.k p 8),.int .i8 (ae.n p 8),.int .i8 (ae.k p 9),.int .i8 (ae.n p 9),.int .i8 (ae.k p 10),.int .i8 (ae.n p 10)],.dead,.dead,.bg 0 2]):=by
 exact (ak.ao (sp:=⟨[0,3,6,8,9],[0],[(7,2)]⟩) (n0:=3) (ex:=Ex.norm) (t':=((.int .i64 num)::(uu)::(uu)::(.ptr false 0 0)::(uu)::(uu)::(.aq .tight 1 [.int .i8 7,.int .i8 6,.int .i8 2,.int .i8 10,.int .i8 8])::(.aq (.tok 3 0) 2 (ls++ [.agg [.int .i8 to,.int .i8 (ae.n p (W3.i64.wrap ((↑k:Int)+1)))]]))::(.int .i64 (↑n:Int))::(.int .i64 (W3.i64.wrap ((↑k:Int)+1)))::(un 99))) (s':= [.box [.int .i8 (ae.k p 0),.int .i8 (ae.n p 0),.int .i8 (ae.k p 1),.int .i8 (ae.n p 1),.int .i8 (ae.k p 2),.int .i8 (ae.n p 2),.int .i8 (ae.k p 3),.int .i8 (ae.n p 3),.int .i8 (ae.k p 4),.int .i8 (ae.n p 4),.int .i8 (ae.k p 5),.int .i8 (ae.n p 5),.int .i8 (ae.k p 6),.int .i8 (ae.n p 6),.int .i8 (ae.k p 7),.int .i8 (ae.n p 7),.int .i8 (ae.k p 8),.int .i8 (ae.n p 8),.int .i8 (ae.k p 9),.int .i8 (ae.n p 9),.int .i8 (ae.k p 10),.int .i8 (ae.n p 10)],.dead,.dead,.bg 0 2]) mixed [tC (by ((try simp only [Vv,VC,bm] at*);(try unfold bn at*);omega):(decide ((↑k:Int)<(↑n:Int)))=true),.dM (decide (0≤W3.i64.wrap ((↑k:Int)+1)∧W3.i64.wrap ((↑k:Int)+1)<(↑(11:Nat):Int))) true (by ((try simp only [Vv,VC,bm] at*);(try unfold bn at*);omega)),.get _ _ _ (@ki p (W3.i64.wrap ((↑k:Int)+1)) ([]) (by ((try simp only [Vv,VC,bm] at*);(try unfold bn at*);omega)) (by ((try simp only [Vv,VC,bm] at*);(try unfold bn at*);omega))),tC (bS 1 true (eq_of_beq q1)),tT,.get _ _ _ ht,.dM (decide (0≤W3.i64.wrap ((↑k:Int)+1)∧W3.i64.wrap ((↑k:Int)+1)<(↑(11:Nat):Int))) true (by ((try simp only [Vv,VC,bm] at*);(try unfold bn at*);omega)),.get _ _ _ (@Au p (W3.i64.wrap ((↑k:Int)+1)) ([]) (by ((try simp only [Vv,VC,bm] at*);(try unfold bn at*);omega)) (by ((try simp only [Vv,VC,bm] at*);(try unfold bn at*);omega))),.len (VD ls+(1:Nat)) ((2147483648:Nat)) (by first|decide|omega|(simp;omega))] (by kernel_rfl)).cast (by rfl) (by rfl)
theorem JD (p:ae) (ls:List D) (num:Int) (n k:Nat) (hl:ls.length≤100) (kn:k<n) (n5:n≤5) (to:Int) (ht:kS[k]? =some (.int .i8 to)) (q1:(p.k (W3.i64.wrap ((k:Int)+1))==1)=false):ak Tryz.prog (aC Tryz.f18 0) ⟨[0,3,6,8,9],[0],[(7,2)]⟩ 3 ((.int .i64 num)::(uu)::(uu)::(.ptr false 0 0)::(uu)::(uu)::(.aq .tight 1 kS)::(.aq (.tok 3 0) 2 ls)::(.int .i64 (↑n:Int))::(.int .i64 (↑k:Int))::(un 99)) [.box (aP p),.dead,.dead,.bg 0 2] .norm ((.int .i64 num)::(uu)::(uu)::(.ptr false 0 0)::(uu)::(uu)::(.aq .tight 1 [.int .i8 7,.int .i8 6,.int .i8 2,.int .i8 10,.int .i8 8])::(.aq (.tok 3 0) 2 ls)::(.int .i64 (↑n:Int))::(.int .i64 (W3.i64.wrap ((↑k:Int)+1)))::(un 99)) ([.box [.int .i8 (ae.k p 0),.int .i8 (ae.n p 0),.int .i8 (ae.k p 1),.int .i8 (ae.n p 1),.int .i8 (ae.k p 2),.int .i8 (ae.n p 2),.int .i8 (ae.k p 3),.int .i8 (ae.n p 3),.int .i8 (ae.k p 4),.int .i8 (ae.n p 4),.int .i8 (ae.k p 5),.int .i8 (ae.n p 5),.int .i8 (ae.k p 6),.int .i8 (ae.n p 6),.int .i8 (ae.k p 7),.int .i8 (ae.n p 7),.int .i8 (ae.k p 8),.int .i8 (ae.n p 8),.int .i8 (ae.k p 9),.int .i8 (ae.n p 9),.int .i8 (ae.k p 10),.int .i8 (ae.n p 10)],.dead,.dead,.bg 0 2]):=by
 exact (ak.ao (sp:=⟨[0,3,6,8,9],[0],[(7,2)]⟩) (n0:=3) (ex:=Ex.norm) (t':=((.int .i64 num)::(uu)::(uu)::(.ptr false 0 0)::(uu)::(uu)::(.aq .tight 1 [.int .i8 7,.int .i8 6,.int .i8 2,.int .i8 10,.int .i8 8])::(.aq (.tok 3 0) 2 ls)::(.int .i64 (↑n:Int))::(.int .i64 (W3.i64.wrap ((↑k:Int)+1)))::(un 99))) (s':= [.box [.int .i8 (ae.k p 0),.int .i8 (ae.n p 0),.int .i8 (ae.k p 1),.int .i8 (ae.n p 1),.int .i8 (ae.k p 2),.int .i8 (ae.n p 2),.int .i8 (ae.k p 3),.int .i8 (ae.n p 3),.int .i8 (ae.k p 4),.int .i8 (ae.n p 4),.int .i8 (ae.k p 5),.int .i8 (ae.n p 5),.int .i8 (ae.k p 6),.int .i8 (ae.n p 6),.int .i8 (ae.k p 7),.int .i8 (ae.n p 7),.int .i8 (ae.k p 8),.int .i8 (ae.n p 8),.int .i8 (ae.k p 9),.int .i8 (ae.n p 9),.int .i8 (ae.k p 10),.int .i8 (ae.n p 10)],.dead,.dead,.bg 0 2]) mixed [tC (by ((try simp only [Vv,VC,bm] at*);(try unfold bn at*);omega):(decide ((↑k:Int)<(↑n:Int)))=true),.dM (decide (0≤W3.i64.wrap ((↑k:Int)+1)∧W3.i64.wrap ((↑k:Int)+1)<(↑(11:Nat):Int))) true (by ((try simp only [Vv,VC,bm] at*);(try unfold bn at*);omega)),.get _ _ _ (@ki p (W3.i64.wrap ((↑k:Int)+1)) ([]) (by ((try simp only [Vv,VC,bm] at*);(try unfold bn at*);omega)) (by ((try simp only [Vv,VC,bm] at*);(try unfold bn at*);omega))),tC q1] (by kernel_rfl)).cast (by rfl) (by rfl)
theorem uV (num:Int) (h0:0≤num) (h1:num≤15):aJ Tryz.prog 32 [.int .i64 num] (.int .i64 (cd num:Int)):=by
 have e:Int.tmod num 6=(cd num:Int):=by
  rw [Int.tmod_eq_emod_of_nonneg h0]
  unfold cd
  omega
 rw [← e]
 exact A9 num h0 h1
theorem AL (l:List Mv) (hl:l.length≤16) (hm:gX l 11=true):aJ Tryz.prog 49 [.aq .no 2 (cz l),.int .i8 11] (.aQ [.aq .no 2 (cz (ey 11 (2*l.length) (bF l))),.int .i64 0]):=by
 have h1:(cz l).length=l.length:=cW l
 have hr:=Fe l (by omega) 11
 rw [hm] at hr
 by_cases hn:bF l= []
 ·rw [hn,pT]
  exact (tp l (by omega) (by omega) 11 (by omega) hr hn).to (by exact ⟨⟨rfl,.inr rfl,trivial,.inl rfl⟩,rfl,trivial⟩)
 ·exact (wT l (by omega) (by omega) 11 (by omega) hr (wh hm) hn (List.length_pos_iff.2 hn)).to (by exact ⟨⟨rfl,.inl rfl,trivial,.inr rfl⟩,rfl,trivial⟩)
theorem np {k:Nat} (h:k<5):kS[k]? =some (.int .i8 (mX k)):=by
 have:k=0∨k=1∨k=2∨k=3∨k=4:=by omega
 rcases this with rfl|rfl|rfl|rfl|rfl<;>rfl
abbrev MQ (num:Int) (n:Nat) (ls:List D) (k:Nat):List D:=((.int .i64 num)::(.undef)::(.undef)::(.ptr false 0 0)::(.undef)::(.undef)::(.aq .tight 1 kS)::(.aq (.tok 3 0) 2 ls)::(.int .i64 (n:Int))::(.int .i64 (k:Int))::(un 99))
abbrev MR (num:Int) (n:Nat) (ls:List D):List D:=((.int .i64 num)::(.undef)::(.undef)::(.ptr false 0 0)::(.undef)::(.undef)::(.aq .tight 1 kS)::(.aq (.tok 3 0) 2 ls)::(.int .i64 (n:Int))::(un 100))
abbrev Kz (p:ae):List Ob:= [.box (aP p),.dead,.dead,.bg 0 2]
theorem Lm (p:ae) (num:Int) (n:Nat) (n5:n≤5):∀(m k:Nat) (ls:List D),k+m=n→ls.length≤k→
  aA Tryz.prog (aC Tryz.f18 0) 3 (MQ num n ls k) (Kz p) (.exit 0) (MR num n (ls++cz (fI p m k))) (Kz p)
 |0,k,ls,hk,h1=>by
  have:=FJ p ls num n k (by omega) (by omega)
  rw [show fI p 0 k= [] from rfl,show cz []= [] from rfl,Wd]
  exact aA.last this (fun h=>by cases h)
 |m+1,k,ls,hk,h1=>by
  have hw:W3.i64.wrap ((k:Int)+1)=((k+1:Nat):Int):=lO (by omega)
  rw [fI]
  cases q1:(p.k ((k+1:Nat):Int)==1) with
  |true=>
   have:=JC p ls num n k (by omega) (by omega) n5 (mX k) (np (by omega)) (by rw [hw];exact q1)
   rw [hw] at this
   rw [if_pos rfl]
   have ih:=Lm p num n n5 m (k+1) (ls++ [.agg [.int .i8 (mX k),.int .i8 (p.n ((k+1:Nat):Int))]]) (by omega) (by rw [Vu,V0];omega)
   rw [V7] at ih
   exact aA.bZ this ih
  |false=>
   have:=JD p ls num n k (by omega) (by omega) n5 (mX k) (np (by omega)) (by rw [hw];exact q1)
   rw [hw] at this
   rw [if_neg (by simp)]
   exact aA.bZ this (Lm p num n n5 m (k+1) ls (by omega) (by omega))
theorem N5 (p:ae) (num:Int):aI Tryz.prog 3 (.loop (aC Tryz.f18 0)) (MQ num (cd num) [] 0) (Kz p) (.exit 0) (MR num (cd num) (cz (fI p (cd num) 0))) (Kz p):=by
 have:=Lm p num (cd num) (by unfold cd;omega) (cd num) 0 [] (by omega) (VF _)
 rw [WW] at this
 exact aI.bf (by simp) this
theorem FI (p:ae) (mv row:List D) (num:Int) (n m k:Nat) (hm:mv.length=m) (m64:m≤64) (hr:row.length≤100) (h:m≤k):ak Tryz.prog (aC Tryz.f18 1) ⟨[0,3,6,8],[0],[(12,8)]⟩ 5 ((.int .i64 num)::(uu)::(uu)::(.ptr false 0 0)::(uu)::(uu)::(.aq .tight 1 kS)::(uu)::(.int .i64 (↑n:Int))::(uu)::(.aq .no 2 mv)::(uu)::(.aq (.tok 5 0) 8 row)::(.int .i64 (↑k:Int))::(un 95)) [.box (aP p),.dead,.dead,.dead,.dead,.bg 0 8] (.exit 2) ((.int .i64 num)::(uu)::(uu)::(.ptr false 0 0)::(uu)::(uu)::(.aq .tight 1 [.int .i8 7,.int .i8 6,.int .i8 2,.int .i8 10,.int .i8 8])::(uu)::(.int .i64 (↑n:Int))::(uu)::(uu)::(uu)::(.aq (.tok 5 0) 8 row)::(un 96)) ([.box [.int .i8 (ae.k p 0),.int .i8 (ae.n p 0),.int .i8 (ae.k p 1),.int .i8 (ae.n p 1),.int .i8 (ae.k p 2),.int .i8 (ae.n p 2),.int .i8 (ae.k p 3),.int .i8 (ae.n p 3),.int .i8 (ae.k p 4),.int .i8 (ae.n p 4),.int .i8 (ae.k p 5),.int .i8 (ae.n p 5),.int .i8 (ae.k p 6),.int .i8 (ae.n p 6),.int .i8 (ae.k p 7),.int .i8 (ae.n p 7),.int .i8 (ae.k p 8),.int .i8 (ae.n p 8),.int .i8 (ae.k p 9),.int .i8 (ae.n p 9),.int .i8 (ae.k p 10),.int .i8 (ae.n p 10)],.dead,.dead,.dead,.dead,.bg 0 8]):=by
 exact (ak.ao (sp:=⟨[0,3,6,8],[0],[(12,8)]⟩) (n0:=5) (ex:=Ex.exit (2:Nat)) (t':=((.int .i64 num)::(uu)::(uu)::(.ptr false 0 0)::(uu)::(uu)::(.aq .tight 1 [.int .i8 7,.int .i8 6,.int .i8 2,.int .i8 10,.int .i8 8])::(uu)::(.int .i64 (↑n:Int))::(uu)::(uu)::(uu)::(.aq (.tok 5 0) 8 row)::(un 96))) (s':= [.box [.int .i8 (ae.k p 0),.int .i8 (ae.n p 0),.int .i8 (ae.k p 1),.int .i8 (ae.n p 1),.int .i8 (ae.k p 2),.int .i8 (ae.n p 2),.int .i8 (ae.k p 3),.int .i8 (ae.n p 3),.int .i8 (ae.k p 4),.int .i8 (ae.n p 4),.int .i8 (ae.k p 5),.int .i8 (ae.n p 5),.int .i8 (ae.k p 6),.int .i8 (ae.n p 6),.int .i8 (ae.k p 7),.int .i8 (ae.n p 7),.int .i8 (ae.k p 8),.int .i8 (ae.n p 8),.int .i8 (ae.k p 9),.int .i8 (ae.n p 9),.int .i8 (ae.k p 10),.int .i8 (ae.n p 10)],.dead,.dead,.dead,.dead,.bg 0 8]) mixed [tC (by ((try simp only [Vv,VC,bm] at*);(try unfold bn at*);omega):(decide ((↑k:Int)<(↑(VD mv):Int)))=false)] (by kernel_rfl)).cast (by rfl) (by rfl)
theorem H2 (p:ae) (mv row:List D) (num:Int) (n m k:Nat) (hm:mv.length=m) (m64:m≤64) (hr:row.length≤100) (hk:k<m) (a b:Int) (hx:mv[k]? =some (.agg [.int .i8 a,.int .i8 b])):ak Tryz.prog (aC Tryz.f18 1) ⟨[0,3,6,8,10,13],[0],[(12,8)]⟩ 5 ((.int .i64 num)::(uu)::(uu)::(.ptr false 0 0)::(uu)::(uu)::(.aq .tight 1 kS)::(uu)::(.int .i64 (↑n:Int))::(uu)::(.aq .no 2 mv)::(uu)::(.aq (.tok 5 0) 8 row)::(.int .i64 (↑k:Int))::(un 95)) [.box (aP p),.dead,.dead,.dead,.dead,.bg 0 8] .norm ((.int .i64 num)::(uu)::(uu)::(.ptr false 0 0)::(uu)::(uu)::(.aq .tight 1 [.int .i8 7,.int .i8 6,.int .i8 2,.int .i8 10,.int .i8 8])::(uu)::(.int .i64 (↑n:Int))::(uu)::(.aq .no 2 mv)::(uu)::(.aq (.tok 5 0) 8 (row++ [(xD 0 64 a b 0 0 0 0)]))::(.int .i64 (W3.i64.wrap ((↑k:Int)+1)))::(un 95)) ([.box [.int .i8 (ae.k p 0),.int .i8 (ae.n p 0),.int .i8 (ae.k p 1),.int .i8 (ae.n p 1),.int .i8 (ae.k p 2),.int .i8 (ae.n p 2),.int .i8 (ae.k p 3),.int .i8 (ae.n p 3),.int .i8 (ae.k p 4),.int .i8 (ae.n p 4),.int .i8 (ae.k p 5),.int .i8 (ae.n p 5),.int .i8 (ae.k p 6),.int .i8 (ae.n p 6),.int .i8 (ae.k p 7),.int .i8 (ae.n p 7),.int .i8 (ae.k p 8),.int .i8 (ae.n p 8),.int .i8 (ae.k p 9),.int .i8 (ae.n p 9),.int .i8 (ae.k p 10),.int .i8 (ae.n p 10)],.dead,.dead,.dead,.dead,.bg 0 8]):=by
 have c0:= @Fx a b
 exact (ak.ao (sp:=⟨[0,3,6,8,10,13],[0],[(12,8)]⟩) (n0:=5) (ex:=Ex.norm) (t':=((.int .i64 num)::(uu)::(uu)::(.ptr false 0 0)::(uu)::(uu)::(.aq .tight 1 [.int .i8 7,.int .i8 6,.int .i8 2,.int .i8 10,.int .i8 8])::(uu)::(.int .i64 (↑n:Int))::(uu)::(.aq .no 2 mv)::(uu)::(.aq (.tok 5 0) 8 (row++ [(xD 0 64 a b 0 0 0 0)]))::(.int .i64 (W3.i64.wrap ((↑k:Int)+1)))::(un 95))) (s':= [.box [.int .i8 (ae.k p 0),.int .i8 (ae.n p 0),.int .i8 (ae.k p 1),.int .i8 (ae.n p 1),.int .i8 (ae.k p 2),.int .i8 (ae.n p 2),.int .i8 (ae.k p 3),.int .i8 (ae.n p 3),.int .i8 (ae.k p 4),.int .i8 (ae.n p 4),.int .i8 (ae.k p 5),.int .i8 (ae.n p 5),.int .i8 (ae.k p 6),.int .i8 (ae.n p 6),.int .i8 (ae.k p 7),.int .i8 (ae.n p 7),.int .i8 (ae.k p 8),.int .i8 (ae.n p 8),.int .i8 (ae.k p 9),.int .i8 (ae.n p 9),.int .i8 (ae.k p 10),.int .i8 (ae.n p 10)],.dead,.dead,.dead,.dead,.bg 0 8]) mixed [tC (by ((try simp only [Vv,VC,bm] at*);(try unfold bn at*);omega):(decide ((↑k:Int)<(↑(VD mv):Int)))=true),tT,.get _ _ _ hx,tT,.get _ _ _ hx,.ret _ _ _ c0,.len (VD row+(1:Nat)) ((2147483648:Nat)) (by first|decide|omega|(simp;omega))] (by kernel_rfl)).cast (by rfl) (by rfl)
theorem FH (p:ae) (row:List D) (num:Int) (n k:Nat) (hr:row.length≤100) (h:n≤k):ak Tryz.prog (aC Tryz.f18 2) ⟨[0],[],[(12,8)]⟩ 6 ((.int .i64 num)::(uu)::(uu)::(.ptr false 0 0)::(uu)::(uu)::(.aq .tight 1 kS)::(uu)::(.int .i64 (↑n:Int))::(uu)::(uu)::(uu)::(.aq (.tok 6 0) 8 row)::(uu)::(.int .i64 (↑k:Int))::(un 94)) [.box (aP p),.dead,.dead,.dead,.dead,.dead,.bg 0 8] (.exit 4) ((.int .i64 num)::(un 11++(.aq (.tok 6 0) 8 row)::(un 96))) ([.dead,.dead,.dead,.dead,.dead,.dead,.bg 0 8]):=by
 exact (ak.ao (sp:=⟨[0],[],[(12,8)]⟩) (n0:=6) (ex:=Ex.exit (4:Nat)) (t':=((.int .i64 num)::(un 11++(.aq (.tok 6 0) 8 row)::(un 96)))) (s':= [.dead,.dead,.dead,.dead,.dead,.dead,.bg 0 8]) mixed [tC (by ((try simp only [Vv,VC,bm] at*);(try unfold bn at*);omega):(decide ((↑k:Int)<(↑n:Int)))=false)] (by kernel_rfl)).cast (by rfl) (by rfl)
theorem JA (p:ae) (row:List D) (num:Int) (n k:Nat) (hr:row.length≤100) (kn:k<n) (n5:n≤5) (to:Int) (ht:kS[k]? =some (.int .i8 to)) (q1:(p.k (W3.i64.wrap ((k:Int)+1))==1)=true):ak Tryz.prog (aC Tryz.f18 2) ⟨[0,3,6,8,14],[0],[(12,8)]⟩ 6 ((.int .i64 num)::(uu)::(uu)::(.ptr false 0 0)::(uu)::(uu)::(.aq .tight 1 kS)::(uu)::(.int .i64 (↑n:Int))::(uu)::(uu)::(uu)::(.aq (.tok 6 0) 8 row)::(uu)::(.int .i64 (↑k:Int))::(un 94)) [.box (aP p),.dead,.dead,.dead,.dead,.dead,.bg 0 8] .norm ((.int .i64 num)::(uu)::(uu)::(.ptr false 0 0)::(uu)::(uu)::(.aq .tight 1 [.int .i8 7,.int .i8 6,.int .i8 2,.int .i8 10,.int .i8 8])::(uu)::(.int .i64 (↑n:Int))::(uu)::(uu)::(uu)::(.aq (.tok 6 0) 8 row)::(uu)::(.int .i64 (W3.i64.wrap ((↑k:Int)+1)))::(un 94)) ([.box [.int .i8 (ae.k p 0),.int .i8 (ae.n p 0),.int .i8 (ae.k p 1),.int .i8 (ae.n p 1),.int .i8 (ae.k p 2),.int .i8 (ae.n p 2),.int .i8 (ae.k p 3),.int .i8 (ae.n p 3),.int .i8 (ae.k p 4),.int .i8 (ae.n p 4),.int .i8 (ae.k p 5),.int .i8 (ae.n p 5),.int .i8 (ae.k p 6),.int .i8 (ae.n p 6),.int .i8 (ae.k p 7),.int .i8 (ae.n p 7),.int .i8 (ae.k p 8),.int .i8 (ae.n p 8),.int .i8 (ae.k p 9),.int .i8 (ae.n p 9),.int .i8 (ae.k p 10),.int .i8 (ae.n p 10)],.dead,.dead,.dead,.dead,.dead,.bg 0 8]):=by
 exact (ak.ao (sp:=⟨[0,3,6,8,14],[0],[(12,8)]⟩) (n0:=6) (ex:=Ex.norm) (t':=((.int .i64 num)::(uu)::(uu)::(.ptr false 0 0)::(uu)::(uu)::(.aq .tight 1 [.int .i8 7,.int .i8 6,.int .i8 2,.int .i8 10,.int .i8 8])::(uu)::(.int .i64 (↑n:Int))::(uu)::(uu)::(uu)::(.aq (.tok 6 0) 8 row)::(uu)::(.int .i64 (W3.i64.wrap ((↑k:Int)+1)))::(un 94))) (s':= [.box [.int .i8 (ae.k p 0),.int .i8 (ae.n p 0),.int .i8 (ae.k p 1),.int .i8 (ae.n p 1),.int .i8 (ae.k p 2),.int .i8 (ae.n p 2),.int .i8 (ae.k p 3),.int .i8 (ae.n p 3),.int .i8 (ae.k p 4),.int .i8 (ae.n p 4),.int .i8 (ae.k p 5),.int .i8 (ae.n p 5),.int .i8 (ae.k p 6),.int .i8 (ae.n p 6),.int .i8 (ae.k p 7),.int .i8 (ae.n p 7),.int .i8 (ae.k p 8),.int .i8 (ae.n p 8),.int .i8 (ae.k p 9),.int .i8 (ae.n p 9),.int .i8 (ae.k p 10),.int .i8 (ae.n p 10)],.dead,.dead,.dead,.dead,.dead,.bg 0 8]) mixed [tC (by ((try simp only [Vv,VC,bm] at*);(try unfold bn at*);omega):(decide ((↑k:Int)<(↑n:Int)))=true),.dM (decide (0≤W3.i64.wrap ((↑k:Int)+1)∧W3.i64.wrap ((↑k:Int)+1)<(↑(11:Nat):Int))) true (by ((try simp only [Vv,VC,bm] at*);(try unfold bn at*);omega)),.get _ _ _ (@ki p (W3.i64.wrap ((↑k:Int)+1)) ([]) (by ((try simp only [Vv,VC,bm] at*);(try unfold bn at*);omega)) (by ((try simp only [Vv,VC,bm] at*);(try unfold bn at*);omega))),tC (nt (bS 1 true (eq_of_beq q1)))] (by kernel_rfl)).cast (by rfl) (by rfl)
theorem Jz (p:ae) (row:List D) (num:Int) (n k:Nat) (hr:row.length≤100) (kn:k<n) (n5:n≤5) (to:Int) (ht:kS[k]? =some (.int .i8 to)) (q1:(p.k (W3.i64.wrap ((k:Int)+1))==1)=false) (q2:(p.k (W3.i64.wrap ((k:Int)+1))==2)=true):ak Tryz.prog (aC Tryz.f18 2) ⟨[0,3,6,8,14],[0],[(12,8)]⟩ 6 ((.int .i64 num)::(uu)::(uu)::(.ptr false 0 0)::(uu)::(uu)::(.aq .tight 1 kS)::(uu)::(.int .i64 (↑n:Int))::(uu)::(uu)::(uu)::(.aq (.tok 6 0) 8 row)::(uu)::(.int .i64 (↑k:Int))::(un 94)) [.box (aP p),.dead,.dead,.dead,.dead,.dead,.bg 0 8] .norm ((.int .i64 num)::(uu)::(uu)::(.ptr false 0 0)::(uu)::(uu)::(.aq .tight 1 [.int .i8 7,.int .i8 6,.int .i8 2,.int .i8 10,.int .i8 8])::(uu)::(.int .i64 (↑n:Int))::(uu)::(uu)::(uu)::(.aq (.tok 6 0) 8 (row++ [(xD 26 64 to 0 4 (W3.i64.wrap (8*W3.i64.wrap (ae.n p (W3.i64.wrap ((↑k:Int)+1))))) 0 0)]))::(uu)::(.int .i64 (W3.i64.wrap ((↑k:Int)+1)))::(un 94)) ([.box [.int .i8 (ae.k p 0),.int .i8 (ae.n p 0),.int .i8 (ae.k p 1),.int .i8 (ae.n p 1),.int .i8 (ae.k p 2),.int .i8 (ae.n p 2),.int .i8 (ae.k p 3),.int .i8 (ae.n p 3),.int .i8 (ae.k p 4),.int .i8 (ae.n p 4),.int .i8 (ae.k p 5),.int .i8 (ae.n p 5),.int .i8 (ae.k p 6),.int .i8 (ae.n p 6),.int .i8 (ae.k p 7),.int .i8 (ae.n p 7),.int .i8 (ae.k p 8),.int .i8 (ae.n p 8),.int .i8 (ae.k p 9),.int .i8 (ae.n p 9),.int .i8 (ae.k p 10),.int .i8 (ae.n p 10)],.dead,.dead,.dead,.dead,.dead,.bg 0 8]):=by
 have c0:= @xz to (ae.k p (W3.i64.wrap ((↑k:Int)+1))) (ae.n p (W3.i64.wrap ((↑k:Int)+1))) q1 (bS 2 true (eq_of_beq q2))
 exact (ak.ao (sp:=⟨[0,3,6,8,14],[0],[(12,8)]⟩) (n0:=6) (ex:=Ex.norm) (t':=((.int .i64 num)::(uu)::(uu)::(.ptr false 0 0)::(uu)::(uu)::(.aq .tight 1 [.int .i8 7,.int .i8 6,.int .i8 2,.int .i8 10,.int .i8 8])::(uu)::(.int .i64 (↑n:Int))::(uu)::(uu)::(uu)::(.aq (.tok 6 0) 8 (row++ [(xD 26 64 to 0 4 (W3.i64.wrap (8*W3.i64.wrap (ae.n p (W3.i64.wrap ((↑k:Int)+1))))) 0 0)]))::(uu)::(.int .i64 (W3.i64.wrap ((↑k:Int)+1)))::(un 94))) (s':= [.box [.int .i8 (ae.k p 0),.int .i8 (ae.n p 0),.int .i8 (ae.k p 1),.int .i8 (ae.n p 1),.int .i8 (ae.k p 2),.int .i8 (ae.n p 2),.int .i8 (ae.k p 3),.int .i8 (ae.n p 3),.int .i8 (ae.k p 4),.int .i8 (ae.n p 4),.int .i8 (ae.k p 5),.int .i8 (ae.n p 5),.int .i8 (ae.k p 6),.int .i8 (ae.n p 6),.int .i8 (ae.k p 7),.int .i8 (ae.n p 7),.int .i8 (ae.k p 8),.int .i8 (ae.n p 8),.int .i8 (ae.k p 9),.int .i8 (ae.n p 9),.int .i8 (ae.k p 10),.int .i8 (ae.n p 10)],.dead,.dead,.dead,.dead,.dead,.bg 0 8]) mixed [tC (by ((try simp only [Vv,VC,bm] at*);(try unfold bn at*);omega):(decide ((↑k:Int)<(↑n:Int)))=true),.dM (decide (0≤W3.i64.wrap ((↑k:Int)+1)∧W3.i64.wrap ((↑k:Int)+1)<(↑(11:Nat):Int))) true (by ((try simp only [Vv,VC,bm] at*);(try unfold bn at*);omega)),.get _ _ _ (@ki p (W3.i64.wrap ((↑k:Int)+1)) ([]) (by ((try simp only [Vv,VC,bm] at*);(try unfold bn at*);omega)) (by ((try simp only [Vv,VC,bm] at*);(try unfold bn at*);omega))),tC (nt q1),tT,.get _ _ _ ht,.dM (decide (0≤W3.i64.wrap ((↑k:Int)+1)∧W3.i64.wrap ((↑k:Int)+1)<(↑(11:Nat):Int))) true (by ((try simp only [Vv,VC,bm] at*);(try unfold bn at*);omega)),.bc _ _ _ _ (@gT p (W3.i64.wrap ((↑k:Int)+1)) ([]) (by ((try simp only [Vv,VC,bm] at*);(try unfold bn at*);omega)) (by ((try simp only [Vv,VC,bm] at*);(try unfold bn at*);omega))),.ret _ _ _ c0,.len (VD row+(1:Nat)) ((2147483648:Nat)) (by first|decide|omega|(simp;omega))] (by kernel_rfl)).cast (by rfl) (by rfl)
theorem JB (p:ae) (row:List D) (num:Int) (n k:Nat) (hr:row.length≤100) (kn:k<n) (n5:n≤5) (to:Int) (ht:kS[k]? =some (.int .i8 to)) (q1:(p.k (W3.i64.wrap ((k:Int)+1))==1)=false) (q2:(p.k (W3.i64.wrap ((k:Int)+1))==2)=false):ak Tryz.prog (aC Tryz.f18 2) ⟨[0,3,6,8,14],[0],[(12,8)]⟩ 6 ((.int .i64 num)::(uu)::(uu)::(.ptr false 0 0)::(uu)::(uu)::(.aq .tight 1 kS)::(uu)::(.int .i64 (↑n:Int))::(uu)::(uu)::(uu)::(.aq (.tok 6 0) 8 row)::(uu)::(.int .i64 (↑k:Int))::(un 94)) [.box (aP p),.dead,.dead,.dead,.dead,.dead,.bg 0 8] .norm ((.int .i64 num)::(uu)::(uu)::(.ptr false 0 0)::(uu)::(uu)::(.aq .tight 1 [.int .i8 7,.int .i8 6,.int .i8 2,.int .i8 10,.int .i8 8])::(uu)::(.int .i64 (↑n:Int))::(uu)::(uu)::(uu)::(.aq (.tok 6 0) 8 (row++ [(xD 1 32 to 0 0 0 0 0)]))::(uu)::(.int .i64 (W3.i64.wrap ((↑k:Int)+1)))::(un 94)) ([.box [.int .i8 (ae.k p 0),.int .i8 (ae.n p 0),.int .i8 (ae.k p 1),.int .i8 (ae.n p 1),.int .i8 (ae.k p 2),.int .i8 (ae.n p 2),.int .i8 (ae.k p 3),.int .i8 (ae.n p 3),.int .i8 (ae.k p 4),.int .i8 (ae.n p 4),.int .i8 (ae.k p 5),.int .i8 (ae.n p 5),.int .i8 (ae.k p 6),.int .i8 (ae.n p 6),.int .i8 (ae.k p 7),.int .i8 (ae.n p 7),.int .i8 (ae.k p 8),.int .i8 (ae.n p 8),.int .i8 (ae.k p 9),.int .i8 (ae.n p 9),.int .i8 (ae.k p 10),.int .i8 (ae.n p 10)],.dead,.dead,.dead,.dead,.dead,.bg 0 8]):=by
 have c0:= @xA to (ae.k p (W3.i64.wrap ((↑k:Int)+1))) (ae.n p (W3.i64.wrap ((↑k:Int)+1))) q1 q2
 exact (ak.ao (sp:=⟨[0,3,6,8,14],[0],[(12,8)]⟩) (n0:=6) (ex:=Ex.norm) (t':=((.int .i64 num)::(uu)::(uu)::(.ptr false 0 0)::(uu)::(uu)::(.aq .tight 1 [.int .i8 7,.int .i8 6,.int .i8 2,.int .i8 10,.int .i8 8])::(uu)::(.int .i64 (↑n:Int))::(uu)::(uu)::(uu)::(.aq (.tok 6 0) 8 (row++ [(xD 1 32 to 0 0 0 0 0)]))::(uu)::(.int .i64 (W3.i64.wrap ((↑k:Int)+1)))::(un 94))) (s':= [.box [.int .i8 (ae.k p 0),.int .i8 (ae.n p 0),.int .i8 (ae.k p 1),.int .i8 (ae.n p 1),.int .i8 (ae.k p 2),.int .i8 (ae.n p 2),.int .i8 (ae.k p 3),.int .i8 (ae.n p 3),.int .i8 (ae.k p 4),.int .i8 (ae.n p 4),.int .i8 (ae.k p 5),.int .i8 (ae.n p 5),.int .i8 (ae.k p 6),.int .i8 (ae.n p 6),.int .i8 (ae.k p 7),.int .i8 (ae.n p 7),.int .i8 (ae.k p 8),.int .i8 (ae.n p 8),.int .i8 (ae.k p 9),.int .i8 (ae.n p 9),.int .i8 (ae.k p 10),.int .i8 (ae.n p 10)],.dead,.dead,.dead,.dead,.dead,.bg 0 8]) mixed [tC (by ((try simp only [Vv,VC,bm] at*);(try unfold bn at*);omega):(decide ((↑k:Int)<(↑n:Int)))=true),.dM (decide (0≤W3.i64.wrap ((↑k:Int)+1)∧W3.i64.wrap ((↑k:Int)+1)<(↑(11:Nat):Int))) true (by ((try simp only [Vv,VC,bm] at*);(try unfold bn at*);omega)),.get _ _ _ (@ki p (W3.i64.wrap ((↑k:Int)+1)) ([]) (by ((try simp only [Vv,VC,bm] at*);(try unfold bn at*);omega)) (by ((try simp only [Vv,VC,bm] at*);(try unfold bn at*);omega))),tC (nt q1),tT,.get _ _ _ ht,.dM (decide (0≤W3.i64.wrap ((↑k:Int)+1)∧W3.i64.wrap ((↑k:Int)+1)<(↑(11:Nat):Int))) true (by ((try simp only [Vv,VC,bm] at*);(try unfold bn at*);omega)),.bc _ _ _ _ (@gT p (W3.i64.wrap ((↑k:Int)+1)) ([]) (by ((try simp only [Vv,VC,bm] at*);(try unfold bn at*);omega)) (by ((try simp only [Vv,VC,bm] at*);(try unfold bn at*);omega))),.ret _ _ _ c0,.len (VD row+(1:Nat)) ((2147483648:Nat)) (by first|decide|omega|(simp;omega))] (by kernel_rfl)).cast (by rfl) (by rfl)
abbrev yY (l:List XS):List D:=l.map Nu
abbrev JK (num:Int) (n:Nat) (mv row:List D) (k:Nat):List D:=((.int .i64 num)::(.undef)::(.undef)::(.ptr false 0 0)::(.undef)::(.undef)::(.aq .tight 1 kS)::(.undef)::(.int .i64 (n:Int))::(.undef)::(.aq .no 2 mv)::(.undef)::(.aq (.tok 5 0) 8 row)::(.int .i64 (k:Int))::(un 95))
abbrev JM (num:Int) (n:Nat) (row:List D):List D:=((.int .i64 num)::(.undef)::(.undef)::(.ptr false 0 0)::(.undef)::(.undef)::(.aq .tight 1 kS)::(.undef)::(.int .i64 (n:Int))::(.undef)::(.undef)::(.undef)::(.aq (.tok 5 0) 8 row)::(un 96))
abbrev FU (p:ae):List Ob:= [.box (aP p),.dead,.dead,.dead,.dead,.bg 0 8]
theorem JL (p:ae) (num:Int) (nn:Nat) (q:List Mv) (hq:q.length≤64):∀(n k:Nat) (row:List D),k+n=q.length→row.length≤k→
  aA Tryz.prog (aC Tryz.f18 1) 5 (JK num nn (cz q) row k) (FU p) (.exit 2) (JM num nn (row++yY ((q.drop k).map j6))) (FU p)
 |0,k,row,hk,hr=>by
  obtain rfl:k=q.length:=by omega
  have:=FI p (cz q) row num nn q.length q.length (cW q) hq (by omega) (VF _)
  rw [Wl,List.map_nil,show yY []= [] from rfl,Wd]
  exact aA.last this (fun h=>by cases h)
 |n+1,k,row,hk,hr=>by
  have Pd:k<q.length:=by omega
  have:=H2 p (cz q) row num nn q.length k (cW q) hq (by omega) Pd q[k].1 q[k].2 (dk Pd)
  rw [lO (by omega)] at this
  have ih:=JL p num nn q hq n (k+1) (row++ [xD 0 64 q[k].1 q[k].2 0 0 0 0]) (by omega) (by rw [Vu,V0];omega)
  rw [V7] at ih
  rw [VT Pd,Wu]
  exact aA.bZ this ih
theorem Lz (p:ae) (num:Int) (nn:Nat) (q:List Mv) (hq:q.length≤64):aI Tryz.prog 5 (.loop (aC Tryz.f18 1)) (JK num nn (cz q) [] 0) (FU p) (.exit 2) (JM num nn (yY (q.map j6))) (FU p):=by
 have:=JL p num nn q hq q.length 0 [] (by omega) (VF _)
 rw [WW,List.drop_zero] at this
 exact aI.bf (by simp) this
abbrev JH (num:Int) (n:Nat) (row:List D) (k:Nat):List D:=((.int .i64 num)::(.undef)::(.undef)::(.ptr false 0 0)::(.undef)::(.undef)::(.aq .tight 1 kS)::(.undef)::(.int .i64 (n:Int))::(.undef)::(.undef)::(.undef)::(.aq (.tok 6 0) 8 row)::(.undef)::(.int .i64 (k:Int))::(un 94))
abbrev JJ (num:Int) (row:List D):List D:=((.int .i64 num)::(un 11++(.aq (.tok 6 0) 8 row)::(un 96)))
abbrev JI (p:ae):List Ob:= [.box (aP p),.dead,.dead,.dead,.dead,.dead,.bg 0 8]
abbrev JG:List Ob:= [.dead,.dead,.dead,.dead,.dead,.dead,.bg 0 8]
theorem FT (p:ae) (hp:p.may=true) (num:Int) (n:Nat) (n5:n≤5):∀(m k:Nat) (row:List D),k+m=n→row.length≤64+k→
  aA Tryz.prog (aC Tryz.f18 2) 6 (JH num n row k) (JI p) (.exit 4) (JJ num (row++yY (mF p m k))) JG
 |0,k,row,hk,h1=>by
  have:=FH p row num n k (by omega) (by omega)
  rw [show mF p 0 k= [] from rfl,show yY []= [] from rfl,Wd]
  exact aA.last this (fun h=>by cases h)
 |m+1,k,row,hk,h1=>by
  have hw:W3.i64.wrap ((k:Int)+1)=((k+1:Nat):Int):=lO (by omega)
  have ho:=dw (ae.fb hp (i:=((k+1:Nat):Int)) (by omega) (by omega))
  have h8:W3.i64.wrap (8*W3.i64.wrap (p.n ((k+1:Nat):Int)))=8*p.n ((k+1:Nat):Int):=by rw [aY,aY];omega
  rw [mF]
  cases q1:(p.k ((k+1:Nat):Int)==1) with
  |true=>
   have:=JA p row num n k (by omega) (by omega) n5 (mX k) (np (by omega)) (by rw [hw];exact q1)
   rw [hw] at this
   rw [if_pos rfl]
   exact aA.bZ this (FT p hp num n n5 m (k+1) row (by omega) (by omega))
  |false=>
   rw [if_neg (by simp)]
   cases q2:(p.k ((k+1:Nat):Int)==2) with
   |true=>
    have:=Jz p row num n k (by omega) (by omega) n5 (mX k) (np (by omega)) (by rw [hw];exact q1) (by rw [hw];exact q2)
    rw [hw,h8] at this
    have ih:=FT p hp num n n5 m (k+1) (row++ [xD 26 64 (mX k) 0 4 (8*p.n ((k+1:Nat):Int)) 0 0]) (by omega) (by rw [Vu,V0];omega)
    rw [V7] at ih
    rw [wj,if_pos q2]
    exact aA.bZ this ih
   |false=>
    have:=JB p row num n k (by omega) (by omega) n5 (mX k) (np (by omega)) (by rw [hw];exact q1) (by rw [hw];exact q2)
    rw [hw] at this
    have ih:=FT p hp num n n5 m (k+1) (row++ [xD 1 32 (mX k) 0 0 0 0 0]) (by omega) (by rw [Vu,V0];omega)
    rw [V7] at ih
    rw [wj,if_neg (by rw [q2];simp)]
    exact aA.bZ this ih
theorem Ly (p:ae) (hp:p.may=true) (num:Int) (row:List D) (hr:row.length≤64):aI Tryz.prog 6 (.loop (aC Tryz.f18 2)) (JH num (cd num) row 0) (JI p) (.exit 4) (JJ num (row++yY (mF p (cd num) 0))) JG:=
 aI.bf (by simp) (FT p hp num (cd num) (by unfold cd;omega) (cd num) 0 row (by omega) (by omega))
theorem uT (p:ae) (num:Int) (h:num<0):aJ Tryz.prog 18 ([.int .i64 num,.agg (aP p)]) (.aQ [.aq .tight 0 [],.int .i64 2]):=by
 exact (KI (d:= .aQ [.aq .tight 0 [],.int .i64 2]) [tC (eF (decide_eq_true h)),tC (eF (decide_eq_true h)),tC (decide_eq_true h),tF,tF,tF,tT,tT] (by kernel_rfl)).to (by first|rfl|(simp [wk,ay,aB];done))
theorem uS (p:ae) (num:Int) (h:15<num):aJ Tryz.prog 18 ([.int .i64 num,.agg (aP p)]) (.aQ [.aq .tight 0 [],.int .i64 2]):=by
 exact (KI (d:= .aQ [.aq .tight 0 [],.int .i64 2]) ([tC (eF (mE 0 (decide_eq_false (by omega:¬num<16)))),tC (eF (mE 0 (decide_eq_false (by omega:¬num<16)))),tC (mE 0 (decide_eq_false (by omega:¬num<16)))]++Vt 3 (tC (eF (aK 16 (decide_eq_false (by omega:¬num<16)))))++ [tC (aK 16 (decide_eq_false (by omega:¬num<16))),tT]) (by kernel_rfl)).to (by first|rfl|(simp [wk,ay,aB];done))
theorem uR (p:ae) (num:Int) (h0:0≤num) (h1:num≤15) (hM:aJ Tryz.prog 23 [.agg (aP p)] (.bool false)):aJ Tryz.prog 18 ([.int .i64 num,.agg (aP p)]) (.aQ [.aq .tight 0 [],.int .i64 2]):=by
 exact (KI (d:= .aQ [.aq .tight 0 [],.int .i64 2]) [tC (eF (decide_eq_false (VH.2 h0))),tC (eF (decide_eq_false (VH.2 h0))),tC (decide_eq_false (VH.2 h0)),tC (eF (aK 16 (decide_eq_true (Vz h1)))),tC (eF (aK 16 (decide_eq_true (Vz h1)))),.ret _ _ _ hM,tC (eF (aK 16 (decide_eq_true (Vz h1)))),tC (aK 16 (decide_eq_true (Vz h1))),tT] (by kernel_rfl)).to (by first|rfl|(simp [wk,ay,aB];done))
theorem xJ (p:ae) (num:Int) (h0:0≤num) (h1:num≤15) (hp:p.may=true) (hM:aJ Tryz.prog 23 [.agg (aP p)] (.bool true)) (hl:(fI p (cd num) 0).length≤16) (hm:gX (fI p (cd num) 0) 11=true) (hq:(ey 11 (2*(fI p (cd num) 0).length) (bF (fI p (cd num) 0))).length≤64) (hla:(mF p (cd num) 0).length≤5) (Ti:(yY ((ey 11 (2*(fI p (cd num) 0).length) (bF (fI p (cd num) 0))).map j6)).length≤64) (hyl:(yY (mF p (cd num) 0)).length≤5):aJ Tryz.prog 18 ([.int .i64 num,.agg (aP p)]) (.aQ [.aq (.fresh 8) 8 ((yY ((ey 11 (2*(fI p (cd num) 0).length) (bF (fI p (cd num) 0))).map j6)++yY (mF p (cd num) 0))++ [xD 1 32 0 0 0 0 num 0,xD 31 0 0 0 0 0 0 0]),.int .i64 0]):=by
 have c0:= @uV num h0 h1
 have c1:= @N5 p num
 have c2:= @AL (fI p (cd num) (0:Nat)) hl hm
 have c3:= @Lz p num (cd num) (ey 11 ((2:Nat)*VD (fI p (cd num) (0:Nat))) (bF (fI p (cd num) (0:Nat)))) hq
 have c4:= @Ly p hp num (yY (VY j6 (ey 11 ((2:Nat)*VD (fI p (cd num) (0:Nat))) (bF (fI p (cd num) (0:Nat)))))) Ti
 have c5:= @Df 0 num
 exact (KI (d:= .aQ [.aq (.fresh 8) 8 (yY (VY j6 (ey 11 ((2:Nat)*VD (fI p (cd num) (0:Nat))) (bF (fI p (cd num) (0:Nat)))))++yY (mF p (cd num) (0:Nat))++ [(xD 1 32 0 0 0 0 num 0),(xD 31 0 0 0 0 0 0 0)]),.int .i64 0]) [tC (eF (decide_eq_false (VH.2 h0))),tC (eF (decide_eq_false (VH.2 h0))),tC (decide_eq_false (VH.2 h0)),tC (eF (aK 16 (decide_eq_true (Vz h1)))),tC (eF (aK 16 (decide_eq_true (Vz h1)))),.ret _ _ _ hM,tC (eF (aK 16 (decide_eq_true (Vz h1)))),tC (aK 16 (decide_eq_true (Vz h1))),tF,.ret _ _ _ c0,.head ⟨[0,3,6,8,9],[0],[(7,2)]⟩ _ _ _ _ _ _ _ c1,.ret _ _ _ c2,tF,.head ⟨[0,3,6,8,10,13],[0],[(12,8)]⟩ _ _ _ _ _ _ _ c3,.head ⟨[0,3,6,8,14],[0],[(12,8)]⟩ _ _ _ _ _ _ _ c4,.ret _ _ _ c5,.len (VD (yY (VY j6 (ey 11 ((2:Nat)*VD (fI p (cd num) (0:Nat))) (bF (fI p (cd num) (0:Nat)))))++yY (mF p (cd num) (0:Nat)))+(2:Nat)) ((2147483648:Nat)) (by first|decide|omega|(simp;omega))] (by kernel_rfl)).to (by first|rfl|(simp [wk,ay,aB];done))
theorem Ci:aJ Tryz.prog 125 ([.int .i8 0]) (.bool false):=by
 exact (ji (d:= .bool false) ([tT,tT,tT,tT]++Vt 10 .inl++ [tT,tT,tT,.get ([D.bw,D.bw,D.fn (VE 167) [] [],D.fn (VE 173) [] [.ptr false 1 0],D.fn (VE 168) [] [],D.fn (VE 173) [] [.ptr false 2 0],D.fn (VE 171) [] [.ptr false 3 0,.ptr false 4 0],D.fn (VE 173) [] [.ptr false 7 0],D.bw,D.bw,D.bw,D.bw,D.fn (VE 169) [] [],D.fn (VE 173) [] [.ptr false 8 0],D.fn (VE 171) [] [.ptr false 9 0,.ptr false 10 0],D.fn (VE 173) [] [.ptr false 13 0]]) 0 (D.bw) rfl,tT,tT]) (by kernel_rfl)).to (by ((simp only [wk,ay,and_true];repeat' (first|rfl|exact WY|apply And.intro));done))
theorem Ch:aJ Tryz.prog 125 ([.int .i8 1]) (.bool false):=by
 exact (ji (d:= .bool false) ([tT,tT,tT,tT]++Vt 10 .inl++ [tT,tT,tT,.get ([D.bw,D.bw,D.fn (VE 167) [] [],D.fn (VE 173) [] [.ptr false 1 0],D.fn (VE 168) [] [],D.fn (VE 173) [] [.ptr false 2 0],D.fn (VE 171) [] [.ptr false 3 0,.ptr false 4 0],D.fn (VE 173) [] [.ptr false 7 0],D.bw,D.bw,D.bw,D.bw,D.fn (VE 169) [] [],D.fn (VE 173) [] [.ptr false 8 0],D.fn (VE 171) [] [.ptr false 9 0,.ptr false 10 0],D.fn (VE 173) [] [.ptr false 13 0]]) 1 (D.bw) rfl,tT,tT]) (by kernel_rfl)).to (by ((simp only [wk,ay,and_true];repeat' (first|rfl|exact WY|apply And.intro));done))
theorem Cg:aJ Tryz.prog 125 ([.int .i8 2]) (.bool true):=by
 exact (ji (d:= .bool true) ([tT,tT,tT,tT]++Vt 10 .inl++ [tT,tT,tT,.get ([D.bw,D.bw,D.fn (VE 167) [] [],D.fn (VE 173) [] [.ptr false 1 0],D.fn (VE 168) [] [],D.fn (VE 173) [] [.ptr false 2 0],D.fn (VE 171) [] [.ptr false 3 0,.ptr false 4 0],D.fn (VE 173) [] [.ptr false 7 0],D.bw,D.bw,D.bw,D.bw,D.fn (VE 169) [] [],D.fn (VE 173) [] [.ptr false 8 0],D.fn (VE 171) [] [.ptr false 9 0,.ptr false 10 0],D.fn (VE 173) [] [.ptr false 13 0]]) 2 (D.fn (VE 167) [] []) rfl,tT,tT]) (by kernel_rfl)).to (by ((simp only [wk,ay,and_true];repeat' (first|rfl|exact WY|apply And.intro));done))
theorem Cf:aJ Tryz.prog 125 ([.int .i8 3]) (.bool true):=by
 exact (ji (d:= .bool true) ([tT,tT,tT,tT]++Vt 10 .inl++ [tT,tT,tT,.get ([D.bw,D.bw,D.fn (VE 167) [] [],D.fn (VE 173) [] [.ptr false 1 0],D.fn (VE 168) [] [],D.fn (VE 173) [] [.ptr false 2 0],D.fn (VE 171) [] [.ptr false 3 0,.ptr false 4 0],D.fn (VE 173) [] [.ptr false 7 0],D.bw,D.bw,D.bw,D.bw,D.fn (VE 169) [] [],D.fn (VE 173) [] [.ptr false 8 0],D.fn (VE 171) [] [.ptr false 9 0,.ptr false 10 0],D.fn (VE 173) [] [.ptr false 13 0]]) 3 (D.fn (VE 173) [] [.ptr false 1 0]) rfl,tT,tT]) (by kernel_rfl)).to (by ((simp only [wk,ay,and_true];repeat' (first|rfl|exact WY|apply And.intro));done))
theorem Ce:aJ Tryz.prog 125 ([.int .i8 4]) (.bool true):=by
 exact (ji (d:= .bool true) ([tT,tT,tT,tT]++Vt 10 .inl++ [tT,tT,tT,.get ([D.bw,D.bw,D.fn (VE 167) [] [],D.fn (VE 173) [] [.ptr false 1 0],D.fn (VE 168) [] [],D.fn (VE 173) [] [.ptr false 2 0],D.fn (VE 171) [] [.ptr false 3 0,.ptr false 4 0],D.fn (VE 173) [] [.ptr false 7 0],D.bw,D.bw,D.bw,D.bw,D.fn (VE 169) [] [],D.fn (VE 173) [] [.ptr false 8 0],D.fn (VE 171) [] [.ptr false 9 0,.ptr false 10 0],D.fn (VE 173) [] [.ptr false 13 0]]) 4 (D.fn (VE 168) [] []) rfl,tT,tT]) (by kernel_rfl)).to (by ((simp only [wk,ay,and_true];repeat' (first|rfl|exact WY|apply And.intro));done))
theorem Cd:aJ Tryz.prog 125 ([.int .i8 5]) (.bool true):=by
 exact (ji (d:= .bool true) ([tT,tT,tT,tT]++Vt 10 .inl++ [tT,tT,tT,.get ([D.bw,D.bw,D.fn (VE 167) [] [],D.fn (VE 173) [] [.ptr false 1 0],D.fn (VE 168) [] [],D.fn (VE 173) [] [.ptr false 2 0],D.fn (VE 171) [] [.ptr false 3 0,.ptr false 4 0],D.fn (VE 173) [] [.ptr false 7 0],D.bw,D.bw,D.bw,D.bw,D.fn (VE 169) [] [],D.fn (VE 173) [] [.ptr false 8 0],D.fn (VE 171) [] [.ptr false 9 0,.ptr false 10 0],D.fn (VE 173) [] [.ptr false 13 0]]) 5 (D.fn (VE 173) [] [.ptr false 2 0]) rfl,tT,tT]) (by kernel_rfl)).to (by ((simp only [wk,ay,and_true];repeat' (first|rfl|exact WY|apply And.intro));done))
theorem Cc:aJ Tryz.prog 125 ([.int .i8 6]) (.bool true):=by
 exact (ji (d:= .bool true) ([tT,tT,tT,tT]++Vt 10 .inl++ [tT,tT,tT,.get ([D.bw,D.bw,D.fn (VE 167) [] [],D.fn (VE 173) [] [.ptr false 1 0],D.fn (VE 168) [] [],D.fn (VE 173) [] [.ptr false 2 0],D.fn (VE 171) [] [.ptr false 3 0,.ptr false 4 0],D.fn (VE 173) [] [.ptr false 7 0],D.bw,D.bw,D.bw,D.bw,D.fn (VE 169) [] [],D.fn (VE 173) [] [.ptr false 8 0],D.fn (VE 171) [] [.ptr false 9 0,.ptr false 10 0],D.fn (VE 173) [] [.ptr false 13 0]]) 6 (D.fn (VE 171) [] [.ptr false 3 0,.ptr false 4 0]) rfl,tT,tT]) (by kernel_rfl)).to (by ((simp only [wk,ay,and_true];repeat' (first|rfl|exact WY|apply And.intro));done))
theorem Cb:aJ Tryz.prog 125 ([.int .i8 7]) (.bool true):=by
 exact (ji (d:= .bool true) ([tT,tT,tT,tT]++Vt 10 .inl++ [tT,tT,tT,.get ([D.bw,D.bw,D.fn (VE 167) [] [],D.fn (VE 173) [] [.ptr false 1 0],D.fn (VE 168) [] [],D.fn (VE 173) [] [.ptr false 2 0],D.fn (VE 171) [] [.ptr false 3 0,.ptr false 4 0],D.fn (VE 173) [] [.ptr false 7 0],D.bw,D.bw,D.bw,D.bw,D.fn (VE 169) [] [],D.fn (VE 173) [] [.ptr false 8 0],D.fn (VE 171) [] [.ptr false 9 0,.ptr false 10 0],D.fn (VE 173) [] [.ptr false 13 0]]) 7 (D.fn (VE 173) [] [.ptr false 7 0]) rfl,tT,tT]) (by kernel_rfl)).to (by ((simp only [wk,ay,and_true];repeat' (first|rfl|exact WY|apply And.intro));done))
theorem Ca:aJ Tryz.prog 125 ([.int .i8 8]) (.bool false):=by
 exact (ji (d:= .bool false) ([tT,tT,tT,tT]++Vt 10 .inl++ [tT,tT,tT,.get ([D.bw,D.bw,D.fn (VE 167) [] [],D.fn (VE 173) [] [.ptr false 1 0],D.fn (VE 168) [] [],D.fn (VE 173) [] [.ptr false 2 0],D.fn (VE 171) [] [.ptr false 3 0,.ptr false 4 0],D.fn (VE 173) [] [.ptr false 7 0],D.bw,D.bw,D.bw,D.bw,D.fn (VE 169) [] [],D.fn (VE 173) [] [.ptr false 8 0],D.fn (VE 171) [] [.ptr false 9 0,.ptr false 10 0],D.fn (VE 173) [] [.ptr false 13 0]]) 8 (D.bw) rfl,tT,tT]) (by kernel_rfl)).to (by ((simp only [wk,ay,and_true];repeat' (first|rfl|exact WY|apply And.intro));done))
theorem B9:aJ Tryz.prog 125 ([.int .i8 9]) (.bool false):=by
 exact (ji (d:= .bool false) ([tT,tT,tT,tT]++Vt 10 .inl++ [tT,tT,tT,.get ([D.bw,D.bw,D.fn (VE 167) [] [],D.fn (VE 173) [] [.ptr false 1 0],D.fn (VE 168) [] [],D.fn (VE 173) [] [.ptr false 2 0],D.fn (VE 171) [] [.ptr false 3 0,.ptr false 4 0],D.fn (VE 173) [] [.ptr false 7 0],D.bw,D.bw,D.bw,D.bw,D.fn (VE 169) [] [],D.fn (VE 173) [] [.ptr false 8 0],D.fn (VE 171) [] [.ptr false 9 0,.ptr false 10 0],D.fn (VE 173) [] [.ptr false 13 0]]) 9 (D.bw) rfl,tT,tT]) (by kernel_rfl)).to (by ((simp only [wk,ay,and_true];repeat' (first|rfl|exact WY|apply And.intro));done))
theorem zk:aJ Tryz.prog 125 ([.int .i8 10]) (.bool false):=by
 exact (ji (d:= .bool false) ([tT,tT,tT,tT]++Vt 10 .inl++ [tT,tT,tT,.get ([D.bw,D.bw,D.fn (VE 167) [] [],D.fn (VE 173) [] [.ptr false 1 0],D.fn (VE 168) [] [],D.fn (VE 173) [] [.ptr false 2 0],D.fn (VE 171) [] [.ptr false 3 0,.ptr false 4 0],D.fn (VE 173) [] [.ptr false 7 0],D.bw,D.bw,D.bw,D.bw,D.fn (VE 169) [] [],D.fn (VE 173) [] [.ptr false 8 0],D.fn (VE 171) [] [.ptr false 9 0,.ptr false 10 0],D.fn (VE 173) [] [.ptr false 13 0]]) 10 (D.bw) rfl,tT,tT]) (by kernel_rfl)).to (by ((simp only [wk,ay,and_true];repeat' (first|rfl|exact WY|apply And.intro));done))
theorem zj:aJ Tryz.prog 125 ([.int .i8 11]) (.bool false):=by
 exact (ji (d:= .bool false) ([tT,tT,tT,tT]++Vt 10 .inl++ [tT,tT,tT,.get ([D.bw,D.bw,D.fn (VE 167) [] [],D.fn (VE 173) [] [.ptr false 1 0],D.fn (VE 168) [] [],D.fn (VE 173) [] [.ptr false 2 0],D.fn (VE 171) [] [.ptr false 3 0,.ptr false 4 0],D.fn (VE 173) [] [.ptr false 7 0],D.bw,D.bw,D.bw,D.bw,D.fn (VE 169) [] [],D.fn (VE 173) [] [.ptr false 8 0],D.fn (VE 171) [] [.ptr false 9 0,.ptr false 10 0],D.fn (VE 173) [] [.ptr false 13 0]]) 11 (D.bw) rfl,tT,tT]) (by kernel_rfl)).to (by ((simp only [wk,ay,and_true];repeat' (first|rfl|exact WY|apply And.intro));done))
theorem zh:aJ Tryz.prog 125 ([.int .i8 12]) (.bool true):=by
 exact (ji (d:= .bool true) ([tT,tT,tT,tT]++Vt 10 .inl++ [tT,tT,tT,.get ([D.bw,D.bw,D.fn (VE 167) [] [],D.fn (VE 173) [] [.ptr false 1 0],D.fn (VE 168) [] [],D.fn (VE 173) [] [.ptr false 2 0],D.fn (VE 171) [] [.ptr false 3 0,.ptr false 4 0],D.fn (VE 173) [] [.ptr false 7 0],D.bw,D.bw,D.bw,D.bw,D.fn (VE 169) [] [],D.fn (VE 173) [] [.ptr false 8 0],D.fn (VE 171) [] [.ptr false 9 0,.ptr false 10 0],D.fn (VE 173) [] [.ptr false 13 0]]) 12 (D.fn (VE 169) [] []) rfl,tT,tT]) (by kernel_rfl)).to (by ((simp only [wk,ay,and_true];repeat' (first|rfl|exact WY|apply And.intro));done))
theorem zg:aJ Tryz.prog 125 ([.int .i8 13]) (.bool true):=by
 exact (ji (d:= .bool true) ([tT,tT,tT,tT]++Vt 10 .inl++ [tT,tT,tT,.get ([D.bw,D.bw,D.fn (VE 167) [] [],D.fn (VE 173) [] [.ptr false 1 0],D.fn (VE 168) [] [],D.fn (VE 173) [] [.ptr false 2 0],D.fn (VE 171) [] [.ptr false 3 0,.ptr false 4 0],D.fn (VE 173) [] [.ptr false 7 0],D.bw,D.bw,D.bw,D.bw,D.fn (VE 169) [] [],D.fn (VE 173) [] [.ptr false 8 0],D.fn (VE 171) [] [.ptr false 9 0,.ptr false 10 0],D.fn (VE 173) [] [.ptr false 13 0]]) 13 (D.fn (VE 173) [] [.ptr false 8 0]) rfl,tT,tT]) (by kernel_rfl)).to (by ((simp only [wk,ay,and_true];repeat' (first|rfl|exact WY|apply And.intro));done))
theorem zf:aJ Tryz.prog 125 ([.int .i8 14]) (.bool true):=by
 exact (ji (d:= .bool true) ([tT,tT,tT,tT]++Vt 10 .inl++ [tT,tT,tT,.get ([D.bw,D.bw,D.fn (VE 167) [] [],D.fn (VE 173) [] [.ptr false 1 0],D.fn (VE 168) [] [],D.fn (VE 173) [] [.ptr false 2 0],D.fn (VE 171) [] [.ptr false 3 0,.ptr false 4 0],D.fn (VE 173) [] [.ptr false 7 0],D.bw,D.bw,D.bw,D.bw,D.fn (VE 169) [] [],D.fn (VE 173) [] [.ptr false 8 0],D.fn (VE 171) [] [.ptr false 9 0,.ptr false 10 0],D.fn (VE 173) [] [.ptr false 13 0]]) 14 (D.fn (VE 171) [] [.ptr false 9 0,.ptr false 10 0]) rfl,tT,tT]) (by kernel_rfl)).to (by ((simp only [wk,ay,and_true];repeat' (first|rfl|exact WY|apply And.intro));done))
theorem ze:aJ Tryz.prog 125 ([.int .i8 15]) (.bool true):=by
 exact (ji (d:= .bool true) ([tT,tT,tT,tT]++Vt 10 .inl++ [tT,tT,tT,.get ([D.bw,D.bw,D.fn (VE 167) [] [],D.fn (VE 173) [] [.ptr false 1 0],D.fn (VE 168) [] [],D.fn (VE 173) [] [.ptr false 2 0],D.fn (VE 171) [] [.ptr false 3 0,.ptr false 4 0],D.fn (VE 173) [] [.ptr false 7 0],D.bw,D.bw,D.bw,D.bw,D.fn (VE 169) [] [],D.fn (VE 173) [] [.ptr false 8 0],D.fn (VE 171) [] [.ptr false 9 0,.ptr false 10 0],D.fn (VE 173) [] [.ptr false 13 0]]) 15 (D.fn (VE 173) [] [.ptr false 13 0]) rfl,tT,tT]) (by kernel_rfl)).to (by ((simp only [wk,ay,and_true];repeat' (first|rfl|exact WY|apply And.intro));done))
theorem wx (cc:Int) (h:decide (0≤cc∧cc≤15)=false):aJ Tryz.prog 125 ([.int .i8 cc]) (.bool false):=by
 rcases cm (decide (cc<0)) with h0|h0
 ·exact (ji (d:= .bool false) [tC (eT (aK 0 h0)),tC (eT (aK 0 h0)),tC (aK 0 h0),tF,tF,tF,tF,tF] (by kernel_rfl)).to (by simp [wk])
 exact (ji (d:= .bool false) ([tC (eT (aK 0 h0)),tC (eT (aK 0 h0)),tC (aK 0 h0)]++Vt 4 (tC (eT (by (simp only [bm] at*;omega):(decide (cc<16))=false)))++ [tC (by (simp only [bm] at*;omega):(decide (cc<16))=false)]) (by kernel_rfl)).to (by simp [wk])
theorem wy (cc:Int):aJ Tryz.prog 125 [.int .i8 cc] (.bool (aE cc)):=by
 by_cases h:0≤cc∧cc≤15
 ·have hc:cc=0∨cc=1∨cc=2∨cc=3∨cc=4∨cc=5∨cc=6∨cc=7∨cc=8∨cc=9∨cc=10∨cc=11∨cc=12∨cc=13∨cc=14∨cc=15:=by omega
  rcases hc with rfl|rfl|rfl|rfl|rfl|rfl|rfl|rfl|rfl|rfl|rfl|rfl|rfl|rfl|rfl|rfl
  ·exact Ci
  ·exact Ch
  ·exact Cg
  ·exact Cf
  ·exact Ce
  ·exact Cd
  ·exact Cc
  ·exact Cb
  ·exact Ca
  ·exact B9
  ·exact zk
  ·exact zj
  ·exact zh
  ·exact zg
  ·exact zf
  ·exact ze
 ·have e:aE cc=false:=decide_eq_false (by omega)
  rw [e]
  exact wx cc (decide_eq_false h)
end Go.Proofs.YtkpneibifdoecaaGreat
