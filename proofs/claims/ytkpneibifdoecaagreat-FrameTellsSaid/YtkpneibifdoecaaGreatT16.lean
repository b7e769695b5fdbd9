import Derived.Test.YtkpneibifdoecaaGreatT05
import Derived.Test.YtkpneibifdoecaaGreatT06
import Derived.Test.YtkpneibifdoecaaGreatT09
import Derived.Test.YtkpneibifdoecaaGreatT11
import Derived.Test.YtkpneibifdoecaaGreatT15
open List renaming replicate→Vt,length_append→Vu,length_set→Vv,length_cons→Vx,length_nil→Vy,length_map→VC,length→VD,drop_eq_getElem_cons→VT,map→VY,length_singleton→V0,append_assoc→V7,append_nil→Wd,drop_length→Wl,map_cons→Wu,nil_append→WW
open Int renaming lt_add_one_of_le→Vz,not_lt→VH,toNat→VP,toNat_natCast→Wh
open Go.Fn renaming func→VE
open Nat renaming le_refl→VF,zero_add→V9,blt→Wx
open Go renaming IntKind→W3
/- Contracts and plain laws that a statement's proof leans on (texts merged:MV3,MV3A,MV4,MH1,MH1A,MH2,MdHp,FX1,FR2,RR1,RR1A). -/
set_option linter.unusedVariables false
set_option linter.unusedSimpArgs false
set_option maxRecDepth 100000
set_option maxHeartbeats 8000000
namespace Go.Proofs.YtkpneibifdoecaaGreat
open Go Go.Ev
theorem GB (l:List Mv) (Pe:l.length≤64) (Px:∀p∈l,p.1≠p.2) (sc:Int) (outs:List D) (ho:outs.length≤200) (hp:0<l.length) (j:Nat) (hj:dU l l 0=some j) (jl:j<l.length) (a b:Int) (hA:eG (bT l) (j*2) 2 [.int .i8 a,.int .i8 b]) (c1 c2:List D) (PT:∀c∈c1,c.clean=true) (PW:∀c∈c2,c.clean=true) (hF:eG (bT l) 0 (VP (j:Int)*2) c1) (hR:eG (bT l) (0+VP (W3.i64.wrap ((j:Int)+1))*2) ((l.length - VP (W3.i64.wrap ((j:Int)+1)))*2) c2) (hb:(Wx 0 (VP (j:Int)+(l.length - VP (W3.i64.wrap ((j:Int)+1)))))=true):ak Tryz.prog (aC Tryz.f47 1) ⟨[1],[],[(4,2),(6,2)]⟩ 3 ((uu)::(.int .i8 sc)::(uu)::(uu)::(.aq (.tok 3 0) 2 outs)::(uu)::(.bP 4 2 (VD l))::(un 94)) [.dead,.dead,.dead,.bg 0 2,.box (bT l)] .norm ((uu)::(.int .i8 sc)::(uu)::(uu)::(.aq (.tok 3 0) 2 (outs++ [.agg [.int .i8 a,.int .i8 b]]))::(uu)::(.bP 4 2 (VP (↑j:Int)+(VD l - VP (W3.i64.wrap ((↑j:Int)+1)))))::(un 94)) ([.dead,.dead,.dead,.bg 0 2,.box (VY D.aG (c1++c2))]):=by
 exact (ak.ao (sp:=⟨[1],[],[(4,2),(6,2)]⟩) (n0:=3) (ex:=Ex.norm) (t':=((uu)::(.int .i8 sc)::(uu)::(uu)::(.aq (.tok 3 0) 2 (outs++ [.agg [.int .i8 a,.int .i8 b]]))::(uu)::(.bP 4 2 (VP (↑j:Int)+(VD l - VP (W3.i64.wrap ((↑j:Int)+1)))))::(un 94))) (s':= [.dead,.dead,.dead,.bg 0 2,.box (VY D.aG (c1++c2))]) mixed [tC (fh 0 (by ((try simp only [Vu,Vx,Vy,Vv,bm] at*);(try unfold bn at*);omega):(decide ((↑(VD l):Int)<1))=false)),.gP _ _ _ _ _ (@vO l Pe Px _ hj),tF,.dM (decide (0≤(↑j:Int)∧(↑j:Int)<(↑(VD l):Int))) true (by ((try simp only [Vu,Vx,Vy,Vv,bm] at*);(try unfold bn at*);omega)),.bc _ _ _ _ (@ew (bT l) (VP (↑j:Int)*(2:Nat)) ((2:Nat)) _ hA),.len (VD outs+(1:Nat)) ((2147483648:Nat)) (by first|decide|omega|(simp;omega)),.dM (decide (0≤(↑j:Int)∧(↑j:Int)≤(↑j:Int)∧(↑j:Int)≤(↑(VD l):Int))) true (by ((try simp only [Vu,Vx,Vy,Vv,bm] at*);(try unfold bn at*);omega)),.dM (decide (0≤W3.i64.wrap ((↑j:Int)+1)∧W3.i64.wrap ((↑j:Int)+1)≤(↑(VD l):Int))) true (by ((try simp only [Vu,Vx,Vy,Vv,bm] at*);(try unfold bn at*);omega)),.len (VP (↑j:Int)+(VD l - VP (W3.i64.wrap ((↑j:Int)+1)))) ((2147483648:Nat)) (by first|decide|omega|(simp;omega)),tC (v:=true) (@qa (VP (↑j:Int))),tC hb,.bc _ _ _ _ (@ew (bT l) ((0:Nat)) (VP (↑j:Int)*(2:Nat)) _ hF),.bc _ _ _ _ (@ew (bT l) ((0:Nat)+VP (W3.i64.wrap ((↑j:Int)+1))*(2:Nat)) ((VD l - VP (W3.i64.wrap ((↑j:Int)+1)))*(2:Nat)) _ hR),.cl (c1++c2) (by first|exact cO rfl|exact aZ _|exact dm PT PW)] (by kernel_rfl)).cast (by rfl) (by rfl)
theorem GC (l:List Mv) (Pe:l.length≤64) (Px:∀p∈l,p.1≠p.2) (sc:Int) (outs:List D) (ho:outs.length≤200) (hp:0<l.length) (j:Nat) (hj:dU l l 0=some j) (jl:j<l.length) (a b:Int) (hA:eG (bT l) (j*2) 2 [.int .i8 a,.int .i8 b]) (hb:(Wx 0 (VP (j:Int)+(l.length - VP (W3.i64.wrap ((j:Int)+1)))))=false):ak Tryz.prog (aC Tryz.f47 1) ⟨[1,6],[],[(4,2)]⟩ 3 ((uu)::(.int .i8 sc)::(uu)::(uu)::(.aq (.tok 3 0) 2 outs)::(uu)::(.bP 4 2 (VD l))::(un 94)) [.dead,.dead,.dead,.bg 0 2,.box (bT l)] .norm ((uu)::(.int .i8 sc)::(uu)::(uu)::(.aq (.tok 3 0) 2 (outs++ [.agg [.int .i8 a,.int .i8 b]]))::(uu)::(.aq .tight 2 [])::(un 94)) ([.dead,.dead,.dead,.bg 0 2]):=by
 exact (ak.ao (sp:=⟨[1,6],[],[(4,2)]⟩) (n0:=3) (ex:=Ex.norm) (t':=((uu)::(.int .i8 sc)::(uu)::(uu)::(.aq (.tok 3 0) 2 (outs++ [.agg [.int .i8 a,.int .i8 b]]))::(uu)::(.aq .tight 2 [])::(un 94))) (s':= [.dead,.dead,.dead,.bg 0 2]) mixed [tC (fh 0 (by ((try simp only [Vu,Vx,Vy,Vv,bm] at*);(try unfold bn at*);omega):(decide ((↑(VD l):Int)<1))=false)),.gP _ _ _ _ _ (@vO l Pe Px _ hj),tF,.dM (decide (0≤(↑j:Int)∧(↑j:Int)<(↑(VD l):Int))) true (by ((try simp only [Vu,Vx,Vy,Vv,bm] at*);(try unfold bn at*);omega)),.bc _ _ _ _ (@ew (bT l) (VP (↑j:Int)*(2:Nat)) ((2:Nat)) _ hA),.len (VD outs+(1:Nat)) ((2147483648:Nat)) (by first|decide|omega|(simp;omega)),.dM (decide (0≤(↑j:Int)∧(↑j:Int)≤(↑j:Int)∧(↑j:Int)≤(↑(VD l):Int))) true (by ((try simp only [Vu,Vx,Vy,Vv,bm] at*);(try unfold bn at*);omega)),.dM (decide (0≤W3.i64.wrap ((↑j:Int)+1)∧W3.i64.wrap ((↑j:Int)+1)≤(↑(VD l):Int))) true (by ((try simp only [Vu,Vx,Vy,Vv,bm] at*);(try unfold bn at*);omega)),.len (VP (↑j:Int)+(VD l - VP (W3.i64.wrap ((↑j:Int)+1)))) ((2147483648:Nat)) (by first|decide|omega|(simp;omega)),tC (v:=true) (@qa (VP (↑j:Int))),tC hb] (by kernel_rfl)).cast (by rfl) (by rfl)
theorem D8 (l:List Mv) (Pe:l.length≤64) (Px:∀p∈l,p.1≠p.2) (sc:Int) (outs:List D) (ho:outs.length≤200) (hp:0<l.length) (hj:dU l l 0=none) (f:Int) (hf:(bT l)[0*2+1]? =some (.int .i8 f)):ak Tryz.prog (aC Tryz.f47 1) ⟨[1],[],[(4,2),(6,2)]⟩ 3 ((D.undef)::(.int .i8 sc)::(D.undef)::(D.undef)::(.aq (.tok 3 0) 2 outs)::(D.undef)::(.bP 4 2 (VD l))::(un 94)) [.dead,.dead,.dead,.bg 0 2,.box (bT l)] .norm ((D.undef)::(.int .i8 sc)::(D.undef)::(D.undef)::(.aq (.tok 3 0) 2 (outs++ [.agg [.int .i8 sc,.int .i8 f]]))::(D.undef)::(.bP 4 2 (VD l))::(un 94)) ([.dead,.dead,.dead,.bg 0 2,.box (VY D.aG (bT (VY (mn sc f) l)))]):=by
 have c0:= @N1 l Pe sc f (outs++ [.agg [.int .i8 sc,.int .i8 f]])
 exact (ak.ao (sp:=⟨[1],[],[(4,2),(6,2)]⟩) (n0:=3) (ex:=Ex.norm) (t':=((D.undef)::(.int .i8 sc)::(D.undef)::(D.undef)::(.aq (.tok 3 0) 2 (outs++ [.agg [.int .i8 sc,.int .i8 f]]))::(D.undef)::(.bP 4 2 (VD l))::(un 94))) (s':= [.dead,.dead,.dead,.bg 0 2,.box (VY D.aG (bT (VY (mn sc f) l)))]) mixed [tC (fh 0 (by ((try simp only [Vu,Vx,Vy,Vv,bm] at*);(try unfold bn at*);omega):(decide ((↑(VD l):Int)<(1:Int)))=false)),.gP _ _ _ _ _ (@Dl (l) Pe Px hj),tT,.dM (decide ((0:Int)≤(0:Int)∧(0:Int)<(↑(VD l):Int))) true (by ((try simp only [Vu,Vx,Vy,Vv,bm] at*);(try unfold bn at*);omega)),.get _ _ _ hf,.len (VD outs+(1:Nat)) ((2147483648:Nat)) (by first|decide|omega|(simp;omega)),.head ⟨[1,4,6,12,67,68],[3,1000004],[]⟩ _ _ _ _ _ _ _ c0,.cl (bT l) (by first|exact cO rfl|exact aZ _|exact dm PT PW),.cl (bT (VY (mn sc f) l)) (by first|exact cO rfl|exact aZ _|exact dm PT PW)] (by kernel_rfl)).cast (by rfl) (by rfl)
theorem Iu (sc:Int) (outs:List D):ak Tryz.prog (aC Tryz.f47 1) ⟨[],[],[(4,2)]⟩ 3 ((uu)::(.int .i8 sc)::(uu)::(uu)::(.aq (.tok 3 0) 2 outs)::(uu)::(.aq .tight 2 [])::(un 94)) [.dead,.dead,.dead,.bg 0 2] (.exit 3) (un 4++(.aq (.tok 3 0) 2 outs)::(un 96)) ([.dead,.dead,.dead,.bg 0 2]):=by
 exact (ak.ao (sp:=⟨[],[],[(4,2)]⟩) (n0:=3) (ex:=Ex.exit (3:Nat)) (t':=(un 4++(.aq (.tok 3 0) 2 outs)::(un 96))) (s':= [.dead,.dead,.dead,.bg 0 2]) mixed [tF] (by kernel_rfl)).cast (by rfl) (by rfl)
theorem wa (sc:Int):∀f,ey sc f []= []
 |0=>rfl
 |_+1=>rfl
theorem vZ (p:Mv) (l:List Mv):cz (p::l)= .agg [.int .i8 p.1,.int .i8 p.2]::cz l:=rfl
abbrev Np (sc:Int) (outs:List D) (n:Nat):List D:=((.undef)::(.int .i8 sc)::(.undef)::(.undef)::(.aq (.tok 3 0) 2 outs)::(.undef)::(.bP 4 2 n)::(un 94))
abbrev Nq (outs:List D):List D:=(un 4++(.aq (.tok 3 0) 2 outs)::(un 96))
abbrev Ox (l:List Mv):List Ob:= [.dead,.dead,.dead,.bg 0 2,.box (bT l)]
theorem Ef (sc:Int):∀(f:Nat) (l:List Mv) (outs:List D),mm sc l→l≠ []→l.length+fU sc l≤f→l.length≤64→outs.length+f≤200→
  aA Tryz.prog (aC Tryz.f47 1) 3 (Np sc outs l.length) (Ox l) (.exit 3) (Nq (outs++cz (ey sc f l))) [.dead,.dead,.dead,.bg 0 2]
 |0,l,outs,h,hn,hf,Pe,ho=>by
  have:=List.length_pos_iff.2 hn
  omega
 |f+1,[],outs,h,hn,hf,Pe,ho=>absurd rfl hn
 |f+1,p::r,outs,h,hn,hf,Pe,ho=>by
  have Pw:0<(p::r).length:=by simp
  have Rh:=fun k=>kB sc (p::r) k
  rw [ey]
  cases hj:dU (p::r) (p::r) 0 with
  |some j=>
   obtain ⟨j',q,rfl,hk,hq⟩:=ku _ _ _ _ hj
   rw [V9] at*
   obtain ⟨Pd,P5⟩:=List.getElem?_eq_some_iff.1 hk
   have hA:=iv Pd
   rw [P5] at hA
   have hw:W3.i64.wrap ((j':Int)+1)=((j'+1:Nat):Int):=ti (by omega)
   have hlen:((p::r).eraseIdx j').length+1=(p::r).length:=by rw [List.length_eraseIdx,if_pos Pd];omega
   simp only []
   rw [List.getD_eq_getElem?_getD,hk,Option.getD_some,vZ]
   by_cases h1:(p::r).length=1
   ·have hb:Wx 0 (VP (j':Int)+((p::r).length - VP (W3.i64.wrap ((j':Int)+1))))=false:=by
     rw [hw,Wh,Wh,h1,show j'=0 by omega];rfl
    have:=GC (p::r) Pe h.ne sc outs (by omega) Pw j' hj Pd q.1 q.2 hA hb
    have e:(p::r).eraseIdx j'= []:=List.eq_nil_of_length_eq_zero (by omega)
    rw [e,wa]
    exact aA.bZ this (aA.last (Iu sc (outs++ [.agg [.int .i8 q.1,.int .i8 q.2]])) (fun h=>by cases h))
   ·have hb:Wx 0 (VP (j':Int)+((p::r).length - VP (W3.i64.wrap ((j':Int)+1))))=true:=by
     rw [hw,Wh,Wh,Nat.blt_eq];omega
    have hF:=qb (l:=p::r) (k:=j') (by omega)
    have hR:eG (bT (p::r)) (0+VP (W3.i64.wrap ((j':Int)+1))*2) (((p::r).length - VP (W3.i64.wrap ((j':Int)+1)))*2) (bT ((p::r).drop (j'+1))):=by
     rw [hw,Wh,V9]
     exact v7 (by omega) rfl
    have:=GB (p::r) Pe h.ne sc outs (by omega) Pw j' hj Pd q.1 q.2 hA _ _ (aZ _) (aZ _) hF hR hb
    have e:(p::r).eraseIdx j'=(p::r).take j'++(p::r).drop (j'+1):=List.eraseIdx_eq_take_drop_succ _ _
    have el:VP (j':Int)+((p::r).length - VP (W3.i64.wrap ((j':Int)+1)))=((p::r).eraseIdx j').length:=by rw [hw,Wh,Wh];omega
    rw [el,← ln,aW,← e] at this
    have SX:=Rh j'
    have ih:=Ef sc f ((p::r).eraseIdx j') (outs++ [.agg [.int .i8 q.1,.int .i8 q.2]]) (h.erase j') (fun e=>h1 (by rw [← hlen,e];rfl)) (by omega) (by omega) (by rw [Vu,V0];omega)
    rw [V7] at ih
    exact aA.bZ this ih
  |none=>
   have Td:=pV sc (p::r) h.nd h.sc hj
   have hp:p.2≠sc:=Td p (by simp)
   obtain ⟨o1,o2⟩:=nP sc p.2 hp (p::r)
   have o3:fU sc ((p::r).map (mn sc p.2))<fU sc (p::r):=o2 ⟨p,by simp,rfl⟩
   simp only []
   rw [vZ]
   have:=D8 (p::r) Pe h.ne sc outs (by omega) Pw hj p.2 rfl
   rw [aW] at this
   have ih:=Ef sc f ((p::r).map (mn sc p.2)) (outs++ [.agg [.int .i8 sc,.int .i8 p.2]]) (h.swap p.2) (by simp) (by rw [VC];omega) (by rw [VC];omega) (by rw [Vu,V0];omega)
   rw [V7,VC] at ih
   exact aA.bZ this ih
abbrev I4 (l:List Mv):Nat:=2*l.length
theorem Ka (l:List Mv) (Pe:l.length≤64) (sc:Int) (h:mm sc (bF l)) (hn:bF l≠ []):aI Tryz.prog 3 (.loop (aC Tryz.f47 1)) (Np sc [] (bF l).length) [.dead,.dead,.dead,.bg 0 2,.box (VY D.aG (bT (bF l)))] (.exit 3) (Nq (cz (ey sc (I4 l) (bF l)))) [.dead,.dead,.dead,.bg 0 2]:=by
 have hle:(bF l).length≤l.length:=List.length_filter_le _ _
 have ho:=m6 sc (bF l)
 have:=Ef sc (I4 l) (bF l) [] h hn (by unfold I4;omega) (by omega) (by unfold I4;simp;omega)
 rw [WW] at this
 rw [aW]
 exact aI.bf (by simp) this
theorem v9 (l:List Mv) (Pe:(cz l).length≤64) (RZ:l.length≤64) (sc:Int) (hl:(cz l).length≤16) (h:gX l sc=true) (hn:bF l= []):aJ Tryz.prog 47 ([.aq .no 2 (cz l),.int .i8 sc]) (.aQ [.aq .tight 0 [],.int .i64 0]):=by
 have c0:= @we l RZ sc
 have c1:= @LD l RZ sc hn
 exact (Nf (d:= .aQ [.aq .tight 0 [],.int .i64 0]) [tC (fh 16 (by ((try simp only [Vu,Vx,Vy,Vv,bm] at*);(try unfold bn at*);omega):(decide ((↑(VD (cz l)):Int)<17))=true)),.ret _ _ _ c0,tC (nt h),.mU _ _ eY,.head ⟨[1,4,6,7,24,25,26],[1],[]⟩ _ _ _ _ _ _ _ c1,.go 64,tF] (by kernel_rfl)).to (by simp [wk,ay,aB])
theorem yI (l:List Mv) (Pe:(cz l).length≤64) (RZ:l.length≤64) (sc:Int) (hl:(cz l).length≤16) (h:gX l sc=true) (hk:mm sc (bF l)) (hn:bF l≠ []) (hp:0<(bF l).length):aJ Tryz.prog 47 ([.aq .no 2 (cz l),.int .i8 sc]) (.aQ [.aq (.fresh 2) 2 (cz (ey sc (I4 l) (bF l))),.int .i64 0]):=by
 have c0:= @we l RZ sc
 have c1:= @LC l RZ sc hn
 have c2:= @Ka l RZ sc hk hn
 exact (Nf (d:= .aQ [.aq (.fresh 2) 2 (cz (ey sc (I4 l) (bF l))),.int .i64 0]) [tC (fh 16 (by ((try simp only [Vu,Vx,Vy,Vv,bm] at*);(try unfold bn at*);omega):(decide ((↑(VD (cz l)):Int)<17))=true)),.ret _ _ _ c0,tC (nt h),.mU _ _ eY,.head ⟨[1,4,6,7,24,25,26],[1],[]⟩ _ _ _ _ _ _ _ c1,.head ⟨[1],[],[(4,2),(6,2)]⟩ _ _ _ _ _ _ _ c2,.cl (bT (bF l)) (by first|exact cO rfl|exact aZ _)] (by kernel_rfl)).to (by simp [wk,ay,aB])
theorem En (num:Int) (h0:0≤num) (h1:num≤15):aJ Tryz.prog 46 ([.int .i64 num]) (.int .i64 (Int.tmod num 6)):=by
 exact (Ok (d:= .int .i64 (Int.tmod num 6)) ([.inl]++Vt 3 (tC (eT (aK 0 (decide_eq_false (VH.2 h0)))))++ [tC (aK 0 (decide_eq_false (VH.2 h0))),tC (nt (cQ 15 (decide_eq_true (Vz h1))))]) (by kernel_rfl)).to (by simp [wk,ay,aB])
theorem BH (to k n:Int) (h1:(k==1)=false) (h2:(k==2)=true):aJ Tryz.prog 39 ([.int .i8 to,.agg [.int .i8 k,.int .i8 n]]) (xD 26 64 to 0 4 (W3.i64.wrap (8*W3.i64.wrap n)) 0 0):=by
 exact (Nh (d:=(xD 26 64 to 0 4 (W3.i64.wrap (8*W3.wrap W3.i64 n)) 0 0)) [tC h1,tC (bS 2 true (eq_of_beq h2))] (by kernel_rfl)).to (by simp [wk,ay,aB])
theorem BI (to k n:Int) (h1:(k==1)=false) (h2:(k==2)=false):aJ Tryz.prog 39 ([.int .i8 to,.agg [.int .i8 k,.int .i8 n]]) (xD 1 32 to 0 0 0 0 0):=by
 exact (Nh (d:=(xD 1 32 to 0 0 0 0 0)) [tC h1,tC h2,.inl] (by kernel_rfl)).to (by simp [wk,ay,aB])
theorem GJ (to n:Int):aJ Tryz.prog 48 ([.int .i8 to,.int .i64 n]) (xD 1 32 to 0 0 0 n 0):=by
 exact (Oj (d:=(xD 1 32 to 0 0 0 n 0)) [] (by kernel_rfl)).to (by simp [wk,ay,aB])
theorem IE (p:ae) (ls late:List D) (num n k:Int) (hl:ls.length≤100) (h2:late.length≤100) (h:n≤k):ak Tryz.prog (aC Tryz.f17 0) ⟨[0,6,7,9],[2,4],[(10,2),(1004000,8)]⟩ 6 ((.int .i64 num)::(uu)::(uu)::(.ptr false 0 0)::(uu)::(uu)::(.ptr false 2 0)::(D.fn (VE (42:FuncId)) [.ptr false 2 0] [])::(.ptr false 3 0)::(.ptr false 4 0)::(.aq (.tok 6 0) 2 ls)::(un 20++(.int .i64 n)::(.int .i64 k)::(un 58))) [.box (aP p),.dead,.box [.aq .tight 0 []],.box kS,.box [.aq (.tok 7 0) 8 late],.dead,.bg 0 2,.bg 0 8] (.exit 0) ((.int .i64 num)::(un 5++(.ptr false 2 0)::(D.fn (VE (42:FuncId)) [.ptr false 2 0] [])::(uu)::(.ptr false 4 0)::(.aq (.tok 6 0) 2 ls)::(un 80))) ([.dead,.dead,.box [.aq .tight 0 []],.dead,.box [.aq (.tok 7 0) 8 late],.dead,.bg 0 2,.bg 0 8]):=by
 exact (ak.ao (sp:=⟨[0,6,7,9],[2,4],[(10,2),(1004000,8)]⟩) (n0:=6) (ex:=Ex.exit (0:Nat)) (t':=((.int .i64 num)::(un 5++(.ptr false 2 0)::(D.fn (VE (42:FuncId)) [.ptr false 2 0] [])::(uu)::(.ptr false 4 0)::(.aq (.tok 6 0) 2 ls)::(un 80)))) (s':= [.dead,.dead,.box [.aq .tight 0 []],.dead,.box [.aq (.tok 7 0) 8 late],.dead,.bg 0 2,.bg 0 8]) mixed [tC (by ((try simp only [Vu,Vx,Vy,Vv,bm] at*);(try unfold bn at*);omega):(decide (k<n))=false)] (by kernel_rfl)).cast (by rfl) (by rfl)
theorem LW (p:ae) (ls late:List D) (num n k:Int) (hl:ls.length≤100) (h2:late.length≤100) (k0:0≤k) (kn:k<n) (n5:n≤5) (to:Int) (ht:kS[0+VP k*1]? =some (.int .i8 to)) (q1:(p.k (W3.i64.wrap (k+1))==1)=true):ak Tryz.prog (aC Tryz.f17 0) ⟨[0,3,6,7,8,9,31,32],[0,2,3,4],[(10,2),(1004000,8)]⟩ 6 ((.int .i64 num)::(uu)::(uu)::(.ptr false 0 0)::(uu)::(uu)::(.ptr false 2 0)::(D.fn (VE (42:FuncId)) [.ptr false 2 0] [])::(.ptr false 3 0)::(.ptr false 4 0)::(.aq (.tok 6 0) 2 ls)::(un 20++(.int .i64 n)::(.int .i64 k)::(un 58))) [.box (aP p),.dead,.box [.aq .tight 0 []],.box kS,.box [.aq (.tok 7 0) 8 late],.dead,.bg 0 2,.bg 0 8] .norm ((.int .i64 num)::(uu)::(uu)::(.ptr false 0 0)::(uu)::(uu)::(.ptr false 2 0)::(D.fn (VE (42:FuncId)) [.ptr false 2 0] [])::(.ptr false 3 0)::(.ptr false 4 0)::(.aq (.tok 6 0) 2 (ls++ [.agg [.int .i8 to,.int .i8 (ae.n p (W3.i64.wrap (k+1)))]]))::(un 20++(.int .i64 n)::(.int .i64 (W3.i64.wrap (k+1)))::(un 58))) ([.box [.int .i8 (ae.k p 0),.int .i8 (ae.n p 0),.int .i8 (ae.k p 1),.int .i8 (ae.n p 1),.int .i8 (ae.k p 2),.int .i8 (ae.n p 2),.int .i8 (ae.k p 3),.int .i8 (ae.n p 3),.int .i8 (ae.k p 4),.int .i8 (ae.n p 4),.int .i8 (ae.k p 5),.int .i8 (ae.n p 5),.int .i8 (ae.k p 6),.int .i8 (ae.n p 6),.int .i8 (ae.k p 7),.int .i8 (ae.n p 7),.int .i8 (ae.k p 8),.int .i8 (ae.n p 8),.int .i8 (ae.k p 9),.int .i8 (ae.n p 9),.int .i8 (ae.k p 10),.int .i8 (ae.n p 10)],.dead,.box [.aq .tight 0 []],.box [.int .i8 7,.int .i8 6,.int .i8 2,.int .i8 10,.int .i8 8],.box [.aq (.tok 7 0) 8 late],.dead,.bg 0 2,.bg 0 8]):=by
 exact (ak.ao (sp:=⟨[0,3,6,7,8,9,31,32],[0,2,3,4],[(10,2),(1004000,8)]⟩) (n0:=6) (ex:=Ex.norm) (t':=((.int .i64 num)::(uu)::(uu)::(.ptr false 0 0)::(uu)::(uu)::(.ptr false 2 0)::(D.fn (VE (42:FuncId)) [.ptr false 2 0] [])::(.ptr false 3 0)::(.ptr false 4 0)::(.aq (.tok 6 0) 2 (ls++ [.agg [.int .i8 to,.int .i8 (ae.n p (W3.i64.wrap (k+1)))]]))::(un 20++(.int .i64 n)::(.int .i64 (W3.i64.wrap (k+1)))::(un 58)))) (s':= [.box [.int .i8 (ae.k p 0),.int .i8 (ae.n p 0),.int .i8 (ae.k p 1),.int .i8 (ae.n p 1),.int .i8 (ae.k p 2),.int .i8 (ae.n p 2),.int .i8 (ae.k p 3),.int .i8 (ae.n p 3),.int .i8 (ae.k p 4),.int .i8 (ae.n p 4),.int .i8 (ae.k p 5),.int .i8 (ae.n p 5),.int .i8 (ae.k p 6),.int .i8 (ae.n p 6),.int .i8 (ae.k p 7),.int .i8 (ae.n p 7),.int .i8 (ae.k p 8),.int .i8 (ae.n p 8),.int .i8 (ae.k p 9),.int .i8 (ae.n p 9),.int .i8 (ae.k p 10),.int .i8 (ae.n p 10)],.dead,.box [.aq .tight 0 []],.box [.int .i8 7,.int .i8 6,.int .i8 2,.int .i8 10,.int .i8 8],.box [.aq (.tok 7 0) 8 late],.dead,.bg 0 2,.bg 0 8]) mixed [tC (by ((try simp only [Vu,Vx,Vy,Vv,bm] at*);(try unfold bn at*);omega):(decide (k<n))=true),.dM (decide (0≤W3.i64.wrap (k+1)∧W3.i64.wrap (k+1)<(↑(11:Nat):Int))) true (by ((try simp only [Vu,Vx,Vy,Vv,bm] at*);(try unfold bn at*);omega)),.bc _ _ _ _ (@gT p (W3.i64.wrap (k+1)) ([]) (by ((try simp only [Vu,Vx,Vy,Vv,bm] at*);(try unfold bn at*);omega)) (by ((try simp only [Vu,Vx,Vy,Vv,bm] at*);(try unfold bn at*);omega))),tC (bS 1 true (eq_of_beq q1)),.dM (decide (0≤k∧k<(↑(5:Nat):Int))) true (by ((try simp only [Vu,Vx,Vy,Vv,bm] at*);(try unfold bn at*);omega)),.get _ _ _ ht,.len (VD ls+(1:Nat)) ((2147483648:Nat)) (by first|decide|omega|(simp;omega))] (by kernel_rfl)).cast (by rfl) (by rfl)
theorem LV (p:ae) (ls late:List D) (num n k:Int) (hl:ls.length≤100) (h2:late.length≤100) (k0:0≤k) (kn:k<n) (n5:n≤5) (to:Int) (ht:kS[0+VP k*1]? =some (.int .i8 to)) (q1:(p.k (W3.i64.wrap (k+1))==1)=false) (q2:(p.k (W3.i64.wrap (k+1))==2)=true):ak Tryz.prog (aC Tryz.f17 0) ⟨[0,3,6,7,8,9,31,32],[0,2,3,4],[(10,2),(1004000,8)]⟩ 6 ((.int .i64 num)::(uu)::(uu)::(.ptr false 0 0)::(uu)::(uu)::(.ptr false 2 0)::(D.fn (VE (42:FuncId)) [.ptr false 2 0] [])::(.ptr false 3 0)::(.ptr false 4 0)::(.aq (.tok 6 0) 2 ls)::(un 20++(.int .i64 n)::(.int .i64 k)::(un 58))) [.box (aP p),.dead,.box [.aq .tight 0 []],.box kS,.box [.aq (.tok 7 0) 8 late],.dead,.bg 0 2,.bg 0 8] .norm ((.int .i64 num)::(uu)::(uu)::(.ptr false 0 0)::(uu)::(uu)::(.ptr false 2 0)::(D.fn (VE (42:FuncId)) [.ptr false 2 0] [])::(.ptr false 3 0)::(.ptr false 4 0)::(.aq (.tok 6 0) 2 ls)::(un 20++(.int .i64 n)::(.int .i64 (W3.i64.wrap (k+1)))::(un 58))) ([.box [.int .i8 (ae.k p 0),.int .i8 (ae.n p 0),.int .i8 (ae.k p 1),.int .i8 (ae.n p 1),.int .i8 (ae.k p 2),.int .i8 (ae.n p 2),.int .i8 (ae.k p 3),.int .i8 (ae.n p 3),.int .i8 (ae.k p 4),.int .i8 (ae.n p 4),.int .i8 (ae.k p 5),.int .i8 (ae.n p 5),.int .i8 (ae.k p 6),.int .i8 (ae.n p 6),.int .i8 (ae.k p 7),.int .i8 (ae.n p 7),.int .i8 (ae.k p 8),.int .i8 (ae.n p 8),.int .i8 (ae.k p 9),.int .i8 (ae.n p 9),.int .i8 (ae.k p 10),.int .i8 (ae.n p 10)],.dead,.box [.aq .tight 0 []],.box [.int .i8 7,.int .i8 6,.int .i8 2,.int .i8 10,.int .i8 8],.box [.aq (.tok 7 0) 8 (late++ [(xD 26 64 to 0 4 (W3.i64.wrap (8*W3.i64.wrap (ae.n p (W3.i64.wrap (k+1))))) 0 0)])],.dead,.bg 0 2,.bg 0 8]):=by
 have c0:= @BH to (ae.k p (W3.i64.wrap (k+1))) (ae.n p (W3.i64.wrap (k+1))) q1 (bS 2 true (eq_of_beq q2))
 exact (ak.ao (sp:=⟨[0,3,6,7,8,9,31,32],[0,2,3,4],[(10,2),(1004000,8)]⟩) (n0:=6) (ex:=Ex.norm) (t':=((.int .i64 num)::(uu)::(uu)::(.ptr false 0 0)::(uu)::(uu)::(.ptr false 2 0)::(D.fn (VE (42:FuncId)) [.ptr false 2 0] [])::(.ptr false 3 0)::(.ptr false 4 0)::(.aq (.tok 6 0) 2 ls)::(un 20++(.int .i64 n)::(.int .i64 (W3.i64.wrap (k+1)))::(un 58)))) (s':= [.box [.int .i8 (ae.k p 0),.int .i8 (ae.n p 0),.int .i8 (ae.k p 1),.int .i8 (ae.n p 1),.int .i8 (ae.k p 2),.int .i8 (ae.n p 2),.int .i8 (ae.k p 3),.int .i8 (ae.n p 3),.int .i8 (ae.k p 4),.int .i8 (ae.n p 4),.int .i8 (ae.k p 5),.int .i8 (ae.n p 5),.int .i8 (ae.k p 6),.int .i8 (ae.n p 6),.int .i8 (ae.k p 7),.int .i8 (ae.n p 7),.int .i8 (ae.k p 8),.int .i8 (ae.n p 8),.int .i8 (ae.k p 9),.int .i8 (ae.n p 9),.int .i8 (ae.k p 10),.int .i8 (ae.n p 10)],.dead,.box [.aq .tight 0 []],.box [.int .i8 7,.int .i8 6,.int .i8 2,.int .i8 10,.int .i8 8],.box [.aq (.tok 7 0) 8 (late++ [(xD 26 64 to 0 4 (W3.i64.wrap (8*W3.i64.wrap (ae.n p (W3.i64.wrap (k+1))))) 0 0)])],.dead,.bg 0 2,.bg 0 8]) mixed [tC (by ((try simp only [Vu,Vx,Vy,Vv,bm] at*);(try unfold bn at*);omega):(decide (k<n))=true),.dM (decide (0≤W3.i64.wrap (k+1)∧W3.i64.wrap (k+1)<(↑(11:Nat):Int))) true (by ((try simp only [Vu,Vx,Vy,Vv,bm] at*);(try unfold bn at*);omega)),.bc _ _ _ _ (@gT p (W3.i64.wrap (k+1)) ([]) (by ((try simp only [Vu,Vx,Vy,Vv,bm] at*);(try unfold bn at*);omega)) (by ((try simp only [Vu,Vx,Vy,Vv,bm] at*);(try unfold bn at*);omega))),tC q1,.dM (decide (0≤k∧k<(↑(5:Nat):Int))) true (by ((try simp only [Vu,Vx,Vy,Vv,bm] at*);(try unfold bn at*);omega)),.get _ _ _ ht,.ret _ _ _ c0,.inl,.len (VD late+(1:Nat)) ((2147483648:Nat)) (by first|decide|omega|(simp;omega))] (by kernel_rfl)).cast (by rfl) (by rfl)
theorem LX (p:ae) (ls late:List D) (num n k:Int) (hl:ls.length≤100) (h2:late.length≤100) (k0:0≤k) (kn:k<n) (n5:n≤5) (to:Int) (ht:kS[0+VP k*1]? =some (.int .i8 to)) (q1:(p.k (W3.i64.wrap (k+1))==1)=false) (q2:(p.k (W3.i64.wrap (k+1))==2)=false):ak Tryz.prog (aC Tryz.f17 0) ⟨[0,3,6,7,8,9,31,32],[0,2,3,4],[(10,2),(1004000,8)]⟩ 6 ((.int .i64 num)::(uu)::(uu)::(.ptr false 0 0)::(uu)::(uu)::(.ptr false 2 0)::(D.fn (VE (42:FuncId)) [.ptr false 2 0] [])::(.ptr false 3 0)::(.ptr false 4 0)::(.aq (.tok 6 0) 2 ls)::(un 20++(.int .i64 n)::(.int .i64 k)::(un 58))) [.box (aP p),.dead,.box [.aq .tight 0 []],.box kS,.box [.aq (.tok 7 0) 8 late],.dead,.bg 0 2,.bg 0 8] .norm ((.int .i64 num)::(uu)::(uu)::(.ptr false 0 0)::(uu)::(uu)::(.ptr false 2 0)::(D.fn (VE (42:FuncId)) [.ptr false 2 0] [])::(.ptr false 3 0)::(.ptr false 4 0)::(.aq (.tok 6 0) 2 ls)::(un 20++(.int .i64 n)::(.int .i64 (W3.i64.wrap (k+1)))::(un 58))) ([.box [.int .i8 (ae.k p 0),.int .i8 (ae.n p 0),.int .i8 (ae.k p 1),.int .i8 (ae.n p 1),.int .i8 (ae.k p 2),.int .i8 (ae.n p 2),.int .i8 (ae.k p 3),.int .i8 (ae.n p 3),.int .i8 (ae.k p 4),.int .i8 (ae.n p 4),.int .i8 (ae.k p 5),.int .i8 (ae.n p 5),.int .i8 (ae.k p 6),.int .i8 (ae.n p 6),.int .i8 (ae.k p 7),.int .i8 (ae.n p 7),.int .i8 (ae.k p 8),.int .i8 (ae.n p 8),.int .i8 (ae.k p 9),.int .i8 (ae.n p 9),.int .i8 (ae.k p 10),.int .i8 (ae.n p 10)],.dead,.box [.aq .tight 0 []],.box [.int .i8 7,.int .i8 6,.int .i8 2,.int .i8 10,.int .i8 8],.box [.aq (.tok 7 0) 8 (late++ [(xD 1 32 to 0 0 0 0 0)])],.dead,.bg 0 2,.bg 0 8]):=by
 have c0:= @BI to (ae.k p (W3.i64.wrap (k+1))) (ae.n p (W3.i64.wrap (k+1))) q1 q2
 exact (ak.ao (sp:=⟨[0,3,6,7,8,9,31,32],[0,2,3,4],[(10,2),(1004000,8)]⟩) (n0:=6) (ex:=Ex.norm) (t':=((.int .i64 num)::(uu)::(uu)::(.ptr false 0 0)::(uu)::(uu)::(.ptr false 2 0)::(D.fn (VE (42:FuncId)) [.ptr false 2 0] [])::(.ptr false 3 0)::(.ptr false 4 0)::(.aq (.tok 6 0) 2 ls)::(un 20++(.int .i64 n)::(.int .i64 (W3.i64.wrap (k+1)))::(un 58)))) (s':= [.box [.int .i8 (ae.k p 0),.int .i8 (ae.n p 0),.int .i8 (ae.k p 1),.int .i8 (ae.n p 1),.int .i8 (ae.k p 2),.int .i8 (ae.n p 2),.int .i8 (ae.k p 3),.int .i8 (ae.n p 3),.int .i8 (ae.k p 4),.int .i8 (ae.n p 4),.int .i8 (ae.k p 5),.int .i8 (ae.n p 5),.int .i8 (ae.k p 6),.int .i8 (ae.n p 6),.int .i8 (ae.k p 7),.int .i8 (ae.n p 7),.int .i8 (ae.k p 8),.int .i8 (ae.n p 8),.int .i8 (ae.k p 9),.int .i8 (ae.n p 9),.int .i8 (ae.k p 10),.int .i8 (ae.n p 10)],.dead,.box [.aq .tight 0 []],.box [.int .i8 7,.int .i8 6,.int .i8 2,.int .i8 10,.int .i8 8],.box [.aq (.tok 7 0) 8 (late++ [(xD 1 32 to 0 0 0 0 0)])],.dead,.bg 0 2,.bg 0 8]) mixed [tC (by ((try simp only [Vu,Vx,Vy,Vv,bm] at*);(try unfold bn at*);omega):(decide (k<n))=true),.dM (decide (0≤W3.i64.wrap (k+1)∧W3.i64.wrap (k+1)<(↑(11:Nat):Int))) true (by ((try simp only [Vu,Vx,Vy,Vv,bm] at*);(try unfold bn at*);omega)),.bc _ _ _ _ (@gT p (W3.i64.wrap (k+1)) ([]) (by ((try simp only [Vu,Vx,Vy,Vv,bm] at*);(try unfold bn at*);omega)) (by ((try simp only [Vu,Vx,Vy,Vv,bm] at*);(try unfold bn at*);omega))),tC q1,.dM (decide (0≤k∧k<(↑(5:Nat):Int))) true (by ((try simp only [Vu,Vx,Vy,Vv,bm] at*);(try unfold bn at*);omega)),.get _ _ _ ht,.ret _ _ _ c0,.inl,.len (VD late+(1:Nat)) ((2147483648:Nat)) (by first|decide|omega|(simp;omega))] (by kernel_rfl)).cast (by rfl) (by rfl)
theorem IC (row late mv:List D) (num:Int) (m k:Nat) (hr:row.length≤200) (h:m≤k):ak Tryz.prog (aC Tryz.f17 1) ⟨[0,6,7,9],[2,4,7],[(1002000,8)]⟩ 9 ((.int .i64 num)::(un 5++(.ptr false 2 0)::(D.fn (VE (42:FuncId)) [.ptr false 2 0] [])::(uu)::(.ptr false 4 0)::(un 56++(.aq .no 2 mv)::(.int .i64 (↑m:Int))::(.int .i64 (↑k:Int))::(un 22)))) [.dead,.dead,.box [.aq (.tok 9 0) 8 row],.dead,.box [.aq (.tok 7 0) 8 late],.dead,.dead,.bg 0 8,.dead,.bg 0 8] (.exit 2) ((.int .i64 num)::(un 5++(.ptr false 2 0)::(D.fn (VE (42:FuncId)) [.ptr false 2 0] [])::(uu)::(.ptr false 4 0)::(un 81))) ([.dead,.dead,.box [.aq (.tok 9 0) 8 row],.dead,.box [.aq (.tok 7 0) 8 late],.dead,.dead,.bg 0 8,.dead,.bg 0 8]):=by
 exact (ak.ao (sp:=⟨[0,6,7,9],[2,4,7],[(1002000,8)]⟩) (n0:=9) (ex:=Ex.exit (2:Nat)) (t':=((.int .i64 num)::(un 5++(.ptr false 2 0)::(D.fn (VE (42:FuncId)) [.ptr false 2 0] [])::(uu)::(.ptr false 4 0)::(un 81)))) (s':= [.dead,.dead,.box [.aq (.tok 9 0) 8 row],.dead,.box [.aq (.tok 7 0) 8 late],.dead,.dead,.bg 0 8,.dead,.bg 0 8]) mixed [tC (by ((try simp only [Vu,Vx,Vy,Vv,bm] at*);(try unfold bn at*);omega):(decide ((↑k:Int)<(↑m:Int)))=false)] (by kernel_rfl)).cast (by rfl) (by rfl)
theorem Kj (row late mv:List D) (num:Int) (m k:Nat) (hr:row.length≤200) (hk:k<m) (hm:m≤64) (a b:Int) (hx:mv[k]? =some (.agg [.int .i8 a,.int .i8 b])):ak Tryz.prog (aC Tryz.f17 1) ⟨[0,6,7,9,66,67,68],[2,4,7],[(1002000,8)]⟩ 9 ((.int .i64 num)::(un 5++(.ptr false 2 0)::(D.fn (VE (42:FuncId)) [.ptr false 2 0] [])::(uu)::(.ptr false 4 0)::(un 56++(.aq .no 2 mv)::(.int .i64 (↑m:Int))::(.int .i64 (↑k:Int))::(un 22)))) [.dead,.dead,.box [.aq (.tok 9 0) 8 row],.dead,.box [.aq (.tok 7 0) 8 late],.dead,.dead,.bg 0 8,.dead,.bg 0 8] .norm ((.int .i64 num)::(un 5++(.ptr false 2 0)::(D.fn (VE (42:FuncId)) [.ptr false 2 0] [])::(uu)::(.ptr false 4 0)::(un 56++(.aq .no 2 mv)::(.int .i64 (↑m:Int))::(.int .i64 (W3.i64.wrap ((↑k:Int)+1)))::(un 22)))) ([.dead,.dead,.box [.aq (.tok 9 0) 8 (row++ [(xD 0 64 a b 0 0 0 0)])],.dead,.box [.aq (.tok 7 0) 8 late],.dead,.dead,.bg 0 8,.dead,.bg 0 8]):=by
 exact (ak.ao (sp:=⟨[0,6,7,9,66,67,68],[2,4,7],[(1002000,8)]⟩) (n0:=9) (ex:=Ex.norm) (t':=((.int .i64 num)::(un 5++(.ptr false 2 0)::(D.fn (VE (42:FuncId)) [.ptr false 2 0] [])::(uu)::(.ptr false 4 0)::(un 56++(.aq .no 2 mv)::(.int .i64 (↑m:Int))::(.int .i64 (W3.i64.wrap ((↑k:Int)+1)))::(un 22))))) (s':= [.dead,.dead,.box [.aq (.tok 9 0) 8 (row++ [(xD 0 64 a b 0 0 0 0)])],.dead,.box [.aq (.tok 7 0) 8 late],.dead,.dead,.bg 0 8,.dead,.bg 0 8]) mixed [tC (by ((try simp only [Vu,Vx,Vy,Vv,bm] at*);(try unfold bn at*);omega):(decide ((↑k:Int)<(↑m:Int)))=true),tT,.get _ _ _ hx,.inl,.len (VD row+(1:Nat)) ((2147483648:Nat)) (by first|decide|omega|(simp;omega))] (by kernel_rfl)).cast (by rfl) (by rfl)
theorem yX (num:Int) (h0:0≤num) (h1:num≤15):aJ Tryz.prog 46 [.int .i64 num] (.int .i64 (cd num:Int)):=by
 have e:Int.tmod num 6=(cd num:Int):=by
  rw [Int.tmod_eq_emod_of_nonneg h0]
  unfold cd
  omega
 rw [← e]
 exact En num h0 h1
theorem Bo (l:List Mv) (hl:l.length≤16) (hm:gX l 11=true):aJ Tryz.prog 47 [.aq .no 2 (cz l),.int .i8 11] (.aQ [.aq .no 2 (cz (ey 11 (2*l.length) (bF l))),.int .i64 0]):=by
 have h1:(cz l).length=l.length:=lk l
 by_cases hn:bF l= []
 ·rw [hn,wa]
  exact (v9 l (by omega) (by omega) 11 (by omega) hm hn).to (by exact ⟨⟨rfl,.inr rfl,trivial,.inl rfl⟩,rfl,trivial⟩)
 ·exact (yI l (by omega) (by omega) 11 (by omega) hm (wh hm) hn (List.length_pos_iff.2 hn)).to (by exact ⟨⟨rfl,.inl rfl,trivial,.inr rfl⟩,rfl,trivial⟩)
abbrev Ny (p:ae) (num:Int) (n:Nat) (ls:List D) (k:Nat):List D:= [.int .i64 num,.undef,.undef,.ptr false 0 0,.undef,.undef,.ptr false 2 0,.fn (.func 42) [.ptr false 2 0] [],.ptr false 3 0,.ptr false 4 0,.aq (.tok 6 0) 2 ls,.undef,.undef,.undef,.undef,.undef,.undef,.undef,.undef,.undef,.undef,.undef,.undef,.undef,.undef,.undef,.undef,.undef,.undef,.undef,.undef,.int .i64 (n:Int),.int .i64 (k:Int),.undef,.undef,.undef,.undef,.undef,.undef,.undef,.undef,.undef,.undef,.undef,.undef,.undef,.undef,.undef,.undef,.undef,.undef,.undef,.undef,.undef,.undef,.undef,.undef,.undef,.undef,.undef,.undef,.undef,.undef,.undef,.undef,.undef,.undef,.undef,.undef,.undef,.undef,.undef,.undef,.undef,.undef,.undef,.undef,.undef,.undef,.undef,.undef,.undef,.undef,.undef,.undef,.undef,.undef,.undef,.undef,.undef,.undef]
abbrev NA (num:Int) (ls:List D):List D:= [.int .i64 num,.undef,.undef,.undef,.undef,.undef,.ptr false 2 0,.fn (.func 42) [.ptr false 2 0] [],.undef,.ptr false 4 0,.aq (.tok 6 0) 2 ls,.undef,.undef,.undef,.undef,.undef,.undef,.undef,.undef,.undef,.undef,.undef,.undef,.undef,.undef,.undef,.undef,.undef,.undef,.undef,.undef,.undef,.undef,.undef,.undef,.undef,.undef,.undef,.undef,.undef,.undef,.undef,.undef,.undef,.undef,.undef,.undef,.undef,.undef,.undef,.undef,.undef,.undef,.undef,.undef,.undef,.undef,.undef,.undef,.undef,.undef,.undef,.undef,.undef,.undef,.undef,.undef,.undef,.undef,.undef,.undef,.undef,.undef,.undef,.undef,.undef,.undef,.undef,.undef,.undef,.undef,.undef,.undef,.undef,.undef,.undef,.undef,.undef,.undef,.undef,.undef]
abbrev Nz (p:ae) (late:List D):List Ob:= [.box (aP p),.dead,.box [.aq .tight 0 []],.box kS,.box [.aq (.tok 7 0) 8 late],.dead,.bg 0 2,.bg 0 8]
abbrev Nx (late:List D):List Ob:= [.dead,.dead,.box [.aq .tight 0 []],.dead,.box [.aq (.tok 7 0) 8 late],.dead,.bg 0 2,.bg 0 8]
abbrev sU (l:List XS):List D:=l.map Nu
theorem KQ (p:ae) (hp:p.may=true) (num:Int) (n:Nat) (n5:n≤5):∀(m k:Nat) (ls late:List D),k+m=n→ls.length≤k→late.length≤k→
  aA Tryz.prog (aC Tryz.f17 0) 6 (Ny p num n ls k) (Nz p late) (.exit 0) (NA num (ls++cz (fI p m k))) (Nx (late++sU (mF p m k)))
 |0,k,ls,late,hk,h1,h2=>by
  have:=IE p ls late num n k (by omega) (by omega) (by omega)
  rw [show fI p 0 k= [] from rfl,show mF p 0 k= [] from rfl,show cz []= [] from rfl,show sU []= [] from rfl,Wd,Wd]
  exact aA.last this (fun h=>by cases h)
 |m+1,k,ls,late,hk,h1,h2=>by
  have hw:W3.i64.wrap ((k:Int)+1)=((k+1:Nat):Int):=ti (by omega)
  have ho:=dw (ae.fb hp (i:=((k+1:Nat):Int)) (by omega) (by omega))
  have h8:W3.i64.wrap (8*W3.i64.wrap (p.n ((k+1:Nat):Int)))=8*p.n ((k+1:Nat):Int):=by rw [aY,aY];omega
  rw [fI,mF]
  cases q1:(p.k ((k+1:Nat):Int)==1) with
  |true=>
   have:=LW p ls late num n k (by omega) (by omega) (by omega) (by omega) (by omega) (mX k) (re (by omega)) (by rw [hw];exact q1)
   rw [hw] at this
   rw [if_pos rfl,if_pos rfl]
   have ih:=KQ p hp num n n5 m (k+1) (ls++ [.agg [.int .i8 (mX k),.int .i8 (p.n ((k+1:Nat):Int))]]) late (by omega) (by rw [Vu,V0];omega) (by omega)
   rw [V7] at ih
   exact aA.bZ this ih
  |false=>
   rw [if_neg (by simp),if_neg (by simp)]
   cases q2:(p.k ((k+1:Nat):Int)==2) with
   |true=>
    have:=LV p ls late num n k (by omega) (by omega) (by omega) (by omega) (by omega) (mX k) (re (by omega)) (by rw [hw];exact q1) (by rw [hw];exact q2)
    rw [hw,h8] at this
    have ih:=KQ p hp num n n5 m (k+1) ls (late++ [xD 26 64 (mX k) 0 4 (8*p.n ((k+1:Nat):Int)) 0 0]) (by omega) (by omega) (by rw [Vu,V0];omega)
    rw [V7] at ih
    rw [wj,if_pos q2]
    exact aA.bZ this ih
   |false=>
    have:=LX p ls late num n k (by omega) (by omega) (by omega) (by omega) (by omega) (mX k) (re (by omega)) (by rw [hw];exact q1) (by rw [hw];exact q2)
    rw [hw] at this
    have ih:=KQ p hp num n n5 m (k+1) ls (late++ [xD 1 32 (mX k) 0 0 0 0 0]) (by omega) (by omega) (by rw [Vu,V0];omega)
    rw [V7] at ih
    rw [wj,if_neg (by rw [q2];simp)]
    exact aA.bZ this ih
theorem OB (p:ae) (hp:p.may=true) (num:Int):aI Tryz.prog 6 (.loop (aC Tryz.f17 0)) (Ny p num (cd num) [] 0) (Nz p []) (.exit 0) (NA num (cz (fI p (cd num) 0))) (Nx (sU (mF p (cd num) 0))):=by
 have:=KQ p hp num (cd num) (by unfold cd;omega) (cd num) 0 [] [] (by omega) (VF _) (VF _)
 rw [WW,WW] at this
 exact aI.bf (by simp) this
abbrev LU (num:Int) (mv:List D) (m k:Nat):List D:= [.int .i64 num,.undef,.undef,.undef,.undef,.undef,.ptr false 2 0,.fn (.func 42) [.ptr false 2 0] [],.undef,.ptr false 4 0,.undef,.undef,.undef,.undef,.undef,.undef,.undef,.undef,.undef,.undef,.undef,.undef,.undef,.undef,.undef,.undef,.undef,.undef,.undef,.undef,.undef,.undef,.undef,.undef,.undef,.undef,.undef,.undef,.undef,.undef,.undef,.undef,.undef,.undef,.undef,.undef,.undef,.undef,.undef,.undef,.undef,.undef,.undef,.undef,.undef,.undef,.undef,.undef,.undef,.undef,.undef,.undef,.undef,.undef,.undef,.undef,.aq .no 2 mv,.int .i64 (m:Int),.int .i64 (k:Int),.undef,.undef,.undef,.undef,.undef,.undef,.undef,.undef,.undef,.undef,.undef,.undef,.undef,.undef,.undef,.undef,.undef,.undef,.undef,.undef,.undef,.undef]
abbrev Nw (num:Int):List D:= [.int .i64 num,.undef,.undef,.undef,.undef,.undef,.ptr false 2 0,.fn (.func 42) [.ptr false 2 0] [],.undef,.ptr false 4 0,.undef,.undef,.undef,.undef,.undef,.undef,.undef,.undef,.undef,.undef,.undef,.undef,.undef,.undef,.undef,.undef,.undef,.undef,.undef,.undef,.undef,.undef,.undef,.undef,.undef,.undef,.undef,.undef,.undef,.undef,.undef,.undef,.undef,.undef,.undef,.undef,.undef,.undef,.undef,.undef,.undef,.undef,.undef,.undef,.undef,.undef,.undef,.undef,.undef,.undef,.undef,.undef,.undef,.undef,.undef,.undef,.undef,.undef,.undef,.undef,.undef,.undef,.undef,.undef,.undef,.undef,.undef,.undef,.undef,.undef,.undef,.undef,.undef,.undef,.undef,.undef,.undef,.undef,.undef,.undef,.undef]
abbrev KP (row late:List D):List Ob:= [.dead,.dead,.box [.aq (.tok 9 0) 8 row],.dead,.box [.aq (.tok 7 0) 8 late],.dead,.dead,.bg 0 8,.dead,.bg 0 8]
theorem Nv (num:Int) (q:List Mv) (hq:q.length≤64) (late:List D):∀(n k:Nat) (row:List D),k+n=q.length→row.length≤k→
  aA Tryz.prog (aC Tryz.f17 1) 9 (LU num (cz q) q.length k) (KP row late) (.exit 2) (Nw num) (KP (row++sU ((q.drop k).map j6)) late)
 |0,k,row,hk,hr=>by
  obtain rfl:k=q.length:=by omega
  have:=IC row late (cz q) num q.length q.length (by omega) (VF _)
  rw [Wl,List.map_nil,show sU []= [] from rfl,Wd]
  exact aA.last this (fun h=>by cases h)
 |n+1,k,row,hk,hr=>by
  have Pd:k<q.length:=by omega
  have:=Kj row late (cz q) num q.length k (by omega) Pd hq q[k].1 q[k].2 (eh Pd)
  rw [ti (by omega)] at this
  have ih:=Nv num q hq late n (k+1) (row++ [xD 0 64 q[k].1 q[k].2 0 0 0 0]) (by omega) (by rw [Vu,V0];omega)
  rw [V7] at ih
  rw [VT Pd,Wu]
  exact aA.bZ this ih
abbrev ID (num:Int) (q:List Mv):List D:= [.int .i64 num,.undef,.undef,.undef,.undef,.undef,.ptr false 2 0,.fn (.func 42) [.ptr false 2 0] [],.undef,.ptr false 4 0,.undef,.undef,.undef,.undef,.undef,.undef,.undef,.undef,.undef,.undef,.undef,.undef,.undef,.undef,.undef,.undef,.undef,.undef,.undef,.undef,.undef,.undef,.undef,.undef,.undef,.undef,.undef,.undef,.undef,.undef,.undef,.undef,.undef,.undef,.undef,.undef,.undef,.undef,.undef,.undef,.undef,.undef,.undef,.undef,.undef,.undef,.undef,.undef,.undef,.undef,.undef,.undef,.undef,.undef,.undef,.undef,.aq .no 2 (cz q),.int .i64 ((cz q).length:Int),.int .i64 0,.undef,.undef,.undef,.undef,.undef,.undef,.undef,.undef,.undef,.undef,.undef,.undef,.undef,.undef,.undef,.undef,.undef,.undef,.undef,.undef,.undef,.undef]
theorem OA (num:Int) (q:List Mv) (hq:q.length≤64) (late:List D):aI Tryz.prog 9 (.loop (aC Tryz.f17 1)) (ID num q) (KP [] late) (.exit 2) (Nw num) (KP (sU (q.map j6)) late):=by
 have e:ID num q=LU num (cz q) q.length 0:=by simp only [ID,LU,lk];rfl
 rw [e]
 have:=Nv num q hq late q.length 0 [] (by omega) (VF _)
 rw [WW,List.drop_zero] at this
 exact aI.bf (by simp) this
theorem y1 (p:ae) (num:Int) (h:num<0):aJ Tryz.prog 17 ([.int .i64 num,.agg (aP p)]) (.aQ [.aq .tight 0 [],.int .i64 2]):=by
 exact (KJ (d:= .aQ [.aq .tight 0 [],.int .i64 2]) [tC (eF (decide_eq_true h)),tC (eF (decide_eq_true h)),tC (decide_eq_true h),tF,tF,tF,tT,tT] (by kernel_rfl)).to (by first|rfl|(simp [wk,ay,aB];done))
theorem y0 (p:ae) (num:Int) (h:15<num):aJ Tryz.prog 17 ([.int .i64 num,.agg (aP p)]) (.aQ [.aq .tight 0 [],.int .i64 2]):=by
 exact (KJ (d:= .aQ [.aq .tight 0 [],.int .i64 2]) ([tC (eF (mE 0 (decide_eq_false (by omega:¬num<16)))),tC (eF (mE 0 (decide_eq_false (by omega:¬num<16)))),tC (mE 0 (decide_eq_false (by omega:¬num<16)))]++Vt 3 (tC (eF (aK 16 (decide_eq_false (by omega:¬num<16)))))++ [tC (aK 16 (decide_eq_false (by omega:¬num<16))),tT]) (by kernel_rfl)).to (by first|rfl|(simp [wk,ay,aB];done))
theorem yZ (p:ae) (num:Int) (h0:0≤num) (h1:num≤15) (hM:aJ Tryz.prog 28 [.agg (aP p)] (.bool false)):aJ Tryz.prog 17 ([.int .i64 num,.agg (aP p)]) (.aQ [.aq .tight 0 [],.int .i64 2]):=by
 exact (KJ (d:= .aQ [.aq .tight 0 [],.int .i64 2]) [tC (eF (decide_eq_false (VH.2 h0))),tC (eF (decide_eq_false (VH.2 h0))),tC (decide_eq_false (VH.2 h0)),tC (eF (aK 16 (decide_eq_true (Vz h1)))),tC (eF (aK 16 (decide_eq_true (Vz h1)))),.ret _ _ _ hM,tC (eF (aK 16 (decide_eq_true (Vz h1)))),tC (aK 16 (decide_eq_true (Vz h1))),tT] (by kernel_rfl)).to (by first|rfl|(simp [wk,ay,aB];done))
theorem BU (p:ae) (num:Int) (h0:0≤num) (h1:num≤15) (hp:p.may=true) (hM:aJ Tryz.prog 28 [.agg (aP p)] (.bool true)) (hl:(fI p (cd num) 0).length≤16) (hm:gX (fI p (cd num) 0) 11=true) (hq:(ey 11 (2*(fI p (cd num) 0).length) (bF (fI p (cd num) 0))).length≤64) (hla:(mF p (cd num) 0).length≤5) (Ti:(sU ((ey 11 (2*(fI p (cd num) 0).length) (bF (fI p (cd num) 0))).map j6)).length≤64) (hyl:(sU (mF p (cd num) 0)).length≤5):aJ Tryz.prog 17 ([.int .i64 num,.agg (aP p)]) (.aQ [.aq (.fresh 8) 8 ((sU ((ey 11 (2*(fI p (cd num) 0).length) (bF (fI p (cd num) 0))).map j6)++sU (mF p (cd num) 0))++ [xD 1 32 0 0 0 0 num 0,xD 31 0 0 0 0 0 0 0]),.int .i64 0]):=by
 have c0:= @yX num h0 h1
 have c1:= @OB p hp num
 have c2:= @Bo (fI p (cd num) (0:Nat)) hl hm
 have c3:= @OA num (ey 11 ((2:Nat)*VD (fI p (cd num) (0:Nat))) (bF (fI p (cd num) (0:Nat)))) hq (sU (mF p (cd num) (0:Nat)))
 have c4:= @GJ 0 num
 exact (KJ (d:= .aQ [.aq (.fresh 8) 8 (sU (VY j6 (ey 11 ((2:Nat)*VD (fI p (cd num) (0:Nat))) (bF (fI p (cd num) (0:Nat)))))++sU (mF p (cd num) (0:Nat))++ [(xD 1 32 0 0 0 0 num 0),(xD 31 0 0 0 0 0 0 0)]),.int .i64 0]) [tC (eF (decide_eq_false (VH.2 h0))),tC (eF (decide_eq_false (VH.2 h0))),tC (decide_eq_false (VH.2 h0)),tC (eF (aK 16 (decide_eq_true (Vz h1)))),tC (eF (aK 16 (decide_eq_true (Vz h1)))),.ret _ _ _ hM,tC (eF (aK 16 (decide_eq_true (Vz h1)))),tC (aK 16 (decide_eq_true (Vz h1))),tF,.ret _ _ _ c0,.head ⟨[0,3,6,7,8,9,31,32],[0,2,3,4],[(10,2),(1004000,8)]⟩ _ _ _ _ _ _ _ c1,.ret _ _ _ c2,tF,.head ⟨[0,6,7,9,66,67,68],[2,4,7],[(1002000,8)]⟩ _ _ _ _ _ _ _ c3,.inl,.len (VD (sU (VY j6 (ey 11 ((2:Nat)*VD (fI p (cd num) (0:Nat))) (bF (fI p (cd num) (0:Nat))))))+VD (sU (mF p (cd num) (0:Nat)))) ((2147483648:Nat)) (by first|decide|omega|(simp;omega)),.ret _ _ _ c4,.inl,.len (VD (sU (VY j6 (ey 11 ((2:Nat)*VD (fI p (cd num) (0:Nat))) (bF (fI p (cd num) (0:Nat)))))++sU (mF p (cd num) (0:Nat)))+(2:Nat)) ((2147483648:Nat)) (by first|decide|omega|(simp;omega))] (by kernel_rfl)).to (by first|rfl|(simp [wk,ay,aB];done))
end Go.Proofs.YtkpneibifdoecaaGreat
namespace Go.Ev
open Go
theorem lq (sc:Int):∀(f:Nat) (l:List Mv),(ey sc f l).length≤f
 |0,l=>by simp [ey]
 |_+1,[]=>by simp [ey]
 |f+1,p::r=>by
  rw [ey]
  cases dU (p::r) (p::r) 0 with
  |some k=>simp only [Vx];have:=lq sc f ((p::r).eraseIdx k);omega
  |none=>simp only [Vx];have:=lq sc f ((p::r).map fun q=>if q.2=p.2 then (q.1,sc) else q);omega
def Oz (s:List Int) (x:XS):Int:=if x.op=26 then s.getD (x.ai / 8).toNat 0 else 0
def Ln (s:List Int):cn→List XS→cn
  |m,[]=>m
  |m,x::r=>if x.op=31 then m else Ln s (oK m x (Oz s x)).1 r
def Pb (x:XS):Prop:=((x.op=0∨x.op=1)∧∀m,(oK m x 0).2=0)∨∃to n:Int,0≤to∧to≤15∧0≤n∧n<11∧x=⟨26,64,to,0,4,8*n,0,0⟩
section
variable {s:List Int}
abbrev OX (m:cn) (j:Int):Int:=rg m.rl j
variable {p:ae}
end
end Go.Ev
namespace Go.Proofs.YtkpneibifdoecaaGreat
open Go Go.Ev
abbrev AK (f:Nat) (args:List D) (xs:List XS) (e:Int):Prop:=aJ Tryz.prog f args (.aQ [.aq .no 8 (fX xs),.int .i64 e])
theorem rk {n:Int} (h:cV n=true):n=0∨n=1∨n=2∨n=11:=by unfold cV at h;simpa using h
theorem eX {e:Int} :wk (.aQ [.aq .tight 0 [],.int .i64 e]) (.aQ [.aq .no 8 (fX []),.int .i64 e]):=by exact ⟨⟨rfl,.inr rfl,trivial,.inl rfl⟩,rfl,trivial⟩
theorem Am {p:ae} (hm:p.may=true):aJ Tryz.prog 28 [.agg (aP p)] (.bool true):=by
 have h:=cF p
 rw [hm] at h
 exact h
theorem qf {p:ae} (hm:p.may=true):aJ Tryz.prog 23 [.agg (aP p)] (.bool true):=by
 have h:=z6 p
 rw [hm] at h
 exact h
theorem sO {p:ae} (hm:p.may=false):aJ Tryz.prog 28 [.agg (aP p)] (.bool false):=by
 have h:=cF p
 rw [hm] at h
 exact h
theorem l0 {p:ae} (hm:p.may=false):aJ Tryz.prog 23 [.agg (aP p)] (.bool false):=by
 have h:=z6 p
 rw [hm] at h
 exact h
theorem nr (p:ae) (hm:p.may=true) {aF aw:Int} (g0:0≤aF) (g1:aF≤10) (QZ:aw≤127) (hs:cV aw=true):
  AK 12 [.int .i64 aF,.int .i8 aw,.agg (aP p)] [ez aw (p.k aF) (p.n aF)] 0∧AK 13 [.int .i64 aF,.int .i8 aw,.agg (aP p)] [ez aw (p.k aF) (p.n aF)] 0:=by
 have h0:0≤aw:=by have:=rk hs;omega
 have hM:=Am hm
 have hR:=qf hm
 have hI:=iy aw h0 QZ
 rw [hs] at hI
 rcases dw (ae.fb hm g0 g1) with ⟨k1,k2⟩|⟨k1,k2⟩|⟨k1,k2,k3⟩
 ·have a:(p.k aF==2)=false:=by simp [k1]
  have b:(p.k aF==1)=false:=by simp [k1]
  rw [ez,if_neg (by omega),if_neg (by omega)]
  exact ⟨A0 p aF aw g0 g1 h0 hI hM a b,xj p aF aw g0 g1 hs hR a b⟩
 ·have a:(p.k aF==2)=false:=by simp [k1]
  have b:(p.k aF==1)=true:=by simp [k1]
  rw [ez,if_pos k1]
  exact ⟨AZ p aF aw g0 g1 h0 hI hM a b,xi p aF aw g0 g1 hs hR a b⟩
 ·have a:(p.k aF==2)=true:=by simp [k1]
  have b:(p.k aF==1)=false:=by simp [k1]
  have hT:=AY p aF aw g0 g1 h0 hI hM a b
  have hU:=xh p aF aw g0 g1 hs hR a b
  rw [kN ⟨k2,k3⟩] at hT hU
  rw [ez,if_neg (by omega),if_pos k1]
  exact ⟨hT,hU⟩
theorem ov (p:ae) (hm:p.may=true) {aF aw:Int} (g0:0≤aF) (g1:aF≤10) (QZ:aw≤127) (hs:cV aw=true):
  AK 15 [.int .i64 aF,.int .i8 aw,.agg (aP p)] (jf aw (p.k aF) (p.n aF)) 0∧AK 16 [.int .i64 aF,.int .i8 aw,.agg (aP p)] (jf aw (p.k aF) (p.n aF)) 0:=by
 have h0:0≤aw:=by have:=rk hs;omega
 have hM:=Am hm
 have hR:=qf hm
 have hI:=iy aw h0 QZ
 rw [hs] at hI
 rcases dw (ae.fb hm g0 g1) with ⟨k1,k2⟩|⟨k1,k2⟩|⟨k1,k2,k3⟩
 ·have a:(p.k aF==2)=false:=by simp [k1]
  have b:(p.k aF==1)=false:=by simp [k1]
  rw [jf,if_neg (by omega),if_neg (by omega)]
  exact ⟨(B4 p aF aw g0 g1 h0 hI hM a b).to eX,(xM p aF aw g0 g1 hs hR a b).to eX⟩
 ·have a:(p.k aF==2)=false:=by simp [k1]
  have b:(p.k aF==1)=true:=by simp [k1]
  rw [jf,if_pos k1]
  exact ⟨B3 p aF aw g0 g1 h0 hI hM a b,xL p aF aw g0 g1 hs hR a b⟩
 ·have a:(p.k aF==2)=true:=by simp [k1]
  have b:(p.k aF==1)=false:=by simp [k1]
  have hT:=B2 p aF aw g0 g1 h0 hI hM a b
  have hU:=xK p aF aw g0 g1 hs hR a b
  rw [kN ⟨k2,k3⟩] at hT hU
  rw [jf,if_neg (by omega),if_pos k1]
  exact ⟨hT,hU⟩
theorem om (p:ae) (hm:p.may=true) {num:Int} (h0:0≤num) (h1:num≤15):
  AK 17 [.int .i64 num,.agg (aP p)] (Eo p num) 0∧AK 18 [.int .i64 num,.agg (aP p)] (Eo p num) 0:=by
 have hn:cd num≤5:=by unfold cd;omega
 have a:=lq 11 (2*(fI p (cd num) 0).length) (bF (fI p (cd num) 0))
 have b:=sV p (cd num) 0
 have c:=sR p (cd num) 0
 have e:fX (Eo p num)=(sU ((ey 11 (2*(fI p (cd num) 0).length) (bF (fI p (cd num) 0))).map j6)++sU (mF p (cd num) 0))++ [xD 1 32 0 0 0 0 num 0,xD 31 0 0 0 0 0 0 0]:=by
  unfold Eo fX IB
  rw [List.map_append,List.map_append,V7]
  rfl
 unfold AK
 rw [e]
 refine ⟨?_,?_⟩
 ·exact (BU p num h0 h1 hm (Am hm) (by omega) (Es hm hn) (by omega) (by omega) (by rw [VC,VC];omega) (by rw [VC];omega)).to (by exact ⟨⟨rfl,.inl rfl,trivial,.inr rfl⟩,rfl,trivial⟩)
 ·exact (xJ p num h0 h1 hm (qf hm) (by omega) (Es hm hn) (by omega) (by omega) (by rw [VC,VC];omega) (by rw [VC];omega)).to (by exact ⟨⟨rfl,.inl rfl,trivial,.inr rfl⟩,rfl,trivial⟩)
theorem mo {p:ae} (hm:p.may=true):0≤p.sp∧p.sp≤11:=ae.ri hm 11 (by omega)
theorem oJ (p:ae) (hm:p.may=true):AK 19 [.agg (aP p)] (du p) 0∧AK 20 [.agg (aP p)] (du p) 0:=
 ⟨EC p hm (mo hm).1 (mo hm).2,Ba p hm (qf hm) (C8 p hm) (mo hm).1 (mo hm).2⟩
theorem FY (p:ae) (hm:p.may=true):AK 21 [.agg (aP p)] (cy p) 0∧AK 22 [.agg (aP p)] (cy p) 0:=
 ⟨F4 p hm (mo hm).1 (mo hm).2,Db p hm (qf hm) (C8 p hm) (mo hm).1 (mo hm).2⟩
theorem lD {aw k n:Int} :(jf aw k n).length≤1:=by
 unfold jf
 split
 ·exact VF _
 ·split
  ·exact VF _
  ·exact Nat.zero_le _
theorem iz {p:ae} {num:Int} :(Eo p num).length≤100:=by
 have hn:cd num≤5:=by unfold cd;omega
 have a:=lq 11 (2*(fI p (cd num) 0).length) (bF (fI p (cd num) 0))
 have b:=sV p (cd num) 0
 have c:=sR p (cd num) 0
 unfold Eo IB
 rw [Vu,Vu,VC]
 simp only [Vx,Vy]
 omega
theorem iA {p:ae} :(du p).length≤3:=by
 unfold du
 split<;>simp
theorem zT {v k n:Int} :(dX v k n).length≤2:=by
 unfold dX
 split
 ·exact VF _
 ·split<;>simp
theorem FZ {p:ae} :(cy p).length≤5:=by
 have a:=zT (v:=2097152) (k:=p.k 1) (n:=p.n 1)
 have b:=zT (v:=3145792) (k:=p.k 10) (n:=p.n 10)
 unfold cy
 rw [Vu,Vu]
 split<;>simp<;>omega
def wS (f g:Nat) (args:List D):Prop:= ∃(xs:List XS) (e:Int),xs.length≤100∧AK f args xs e∧AK g args xs e
theorem AX (p:ae) (aF aw:Int) (QZ:aw≤127):wS 12 13 [.int .i64 aF,.int .i8 aw,.agg (aP p)]:=by
 by_cases g0:0≤aF
 case neg=>exact ⟨[],2,by simp,(xa p aF aw (by omega)).to eX,(tY p aF aw (by omega)).to eX⟩
 by_cases g1:aF≤10
 case neg=>exact ⟨[],2,by simp,(wZ p aF aw (by omega)).to eX,(tX p aF aw (by omega)).to eX⟩
 cases hs:cV aw with
 |true=>
  cases hm:p.may with
  |true=>exact ⟨_,0,by simp,nr p hm g0 g1 QZ hs⟩
  |false=>
   have h0:0≤aw:=by have:=rk hs;omega
   have hI:=iy aw h0 QZ
   rw [hs] at hI
   exact ⟨[],2,by simp,(wW p aF aw g0 g1 h0 hI (sO hm)).to eX,(tW p aF aw g0 g1 hs (l0 hm)).to eX⟩
 |false=>
  by_cases h0:0≤aw
  ·have hI:=iy aw h0 QZ
   rw [hs] at hI
   exact ⟨[],2,by simp,(wX p aF aw g0 g1 h0 hI).to eX,(mu p aF aw g0 g1 hs).to eX⟩
  ·exact ⟨[],2,by simp,(wY p aF aw g0 g1 (by omega)).to eX,(mu p aF aw g0 g1 hs).to eX⟩
theorem B1 (p:ae) (aF aw:Int) (QZ:aw≤127):wS 15 16 [.int .i64 aF,.int .i8 aw,.agg (aP p)]:=by
 by_cases g0:0≤aF
 case neg=>exact ⟨[],2,by simp,(y7 p aF aw (by omega)).to eX,(uY p aF aw (by omega)).to eX⟩
 by_cases g1:aF≤10
 case neg=>exact ⟨[],2,by simp,(y6 p aF aw (by omega)).to eX,(uX p aF aw (by omega)).to eX⟩
 cases hs:cV aw with
 |true=>
  cases hm:p.may with
  |true=>exact ⟨_,0,by have:=lD (aw:=aw) (k:=p.k aF) (n:=p.n aF);omega,ov p hm g0 g1 QZ hs⟩
  |false=>
   have h0:0≤aw:=by have:=rk hs;omega
   have hI:=iy aw h0 QZ
   rw [hs] at hI
   exact ⟨[],2,by simp,(y3 p aF aw g0 g1 h0 hI (sO hm)).to eX,(uW p aF aw g0 g1 hs (l0 hm)).to eX⟩
 |false=>
  by_cases h0:0≤aw
  ·have hI:=iy aw h0 QZ
   rw [hs] at hI
   exact ⟨[],2,by simp,(y4 p aF aw g0 g1 h0 hI).to eX,(mw p aF aw g0 g1 hs).to eX⟩
  ·exact ⟨[],2,by simp,(y5 p aF aw g0 g1 (by omega)).to eX,(mw p aF aw g0 g1 hs).to eX⟩
theorem BV (p:ae) (num:Int):wS 17 18 [.int .i64 num,.agg (aP p)]:=by
 by_cases h0:0≤num
 case neg=>exact ⟨[],2,by simp,(y1 p num (by omega)).to eX,(uT p num (by omega)).to eX⟩
 by_cases h1:num≤15
 case neg=>exact ⟨[],2,by simp,(y0 p num (by omega)).to eX,(uS p num (by omega)).to eX⟩
 cases hm:p.may with
 |true=>exact ⟨_,0,iz,om p hm h0 h1⟩
 |false=>exact ⟨[],2,by simp,(yZ p num h0 h1 (sO hm)).to eX,(uR p num h0 h1 (l0 hm)).to eX⟩
theorem Cn (p:ae):wS 19 20 [.agg (aP p)]:=by
 cases hm:p.may with
 |true=>exact ⟨_,0,by have:=iA (p:=p);omega,oJ p hm⟩
 |false=>exact ⟨[],2,by simp,(zr p hm).to eX,(vi p (l0 hm)).to eX⟩
theorem Dw (p:ae):wS 21 22 [.agg (aP p)]:=by
 cases hm:p.may with
 |true=>exact ⟨_,0,by have:=FZ (p:=p);omega,FY p hm⟩
 |false=>exact ⟨[],2,by simp,(Bg p hm).to eX,(xk p (l0 hm)).to eX⟩
theorem IM (p:ae) (l outs:List D) (n k:Nat) (n1:n≤100) (ho:outs.length≤20000) (h:n≤k):ak Tryz.prog (aC Tryz.f9 0) ⟨[],[],[(8,13)]⟩ 3 ((uu)::(uu)::(uu)::(.ptr false 0 0)::(un 4++(.aq (.tok 3 0) 13 outs)::(un 18++(.aq .no 13 l)::(.int .i64 (↑n:Int))::(.int .i64 (↑k:Int))::(un 72)))) [.box (aP p),.dead,.dead,.bg 0 13] (.exit 0) (un 8++(.aq (.tok 3 0) 13 outs)::(un 93)) ([.dead,.dead,.dead,.bg 0 13]):=by
 exact (ak.ao (sp:=⟨[],[],[(8,13)]⟩) (n0:=3) (ex:=Ex.exit (0:Nat)) (t':=(un 8++(.aq (.tok 3 0) 13 outs)::(un 93))) (s':= [.dead,.dead,.dead,.bg 0 13]) mixed [tC (by ((try simp only [Vu,Vx,Vy,dD,aY,decide_eq_true_eq,decide_eq_false_iff_not,beq_iff_eq,bne_iff_ne,beq_eq_false_iff_ne] at*);omega):(decide ((↑k:Int)<(↑n:Int)))=false)] (by kernel_rfl)).cast (by rfl) (by rfl)
theorem GL (p:ae) (l outs:List D) (n k:Nat) (n1:n≤100) (ho:outs.length≤20000) (hk:k<n) (kind op w dst src base ai au cc aF aw num to:Int) (hx:l[k]? =some (e6 kind op w dst src base ai au cc aF aw num to)) (ys:List XS) (hy:ys.length≤100) (SA:(fX ys).length≤100) (hT:aJ Tryz.prog 12 [.int .i64 (W3.i64.wrap aF),.int .i8 aw,.agg (aP p)] (.aQ [.aq .no 8 (fX ys),.int .i64 0])) (qy:(kind==1)=true):ak Tryz.prog (aC Tryz.f9 0) ⟨[3,27,28,29],[0],[(8,13)]⟩ 3 ((uu)::(uu)::(uu)::(.ptr false 0 0)::(un 4++(.aq (.tok 3 0) 13 outs)::(un 18++(.aq .no 13 l)::(.int .i64 (↑n:Int))::(.int .i64 (↑k:Int))::(un 72)))) [.box (aP p),.dead,.dead,.bg 0 13] .norm ((uu)::(uu)::(uu)::(.ptr false 0 0)::(un 4++(.aq (.tok 3 0) 13 (outs++eZ ys))::(un 18++(.aq .no 13 l)::(.int .i64 (↑n:Int))::(.int .i64 (W3.i64.wrap ((↑k:Int)+1)))::(un 72)))) ([.box [.int .i8 (ae.k p 0),.int .i8 (ae.n p 0),.int .i8 (ae.k p 1),.int .i8 (ae.n p 1),.int .i8 (ae.k p 2),.int .i8 (ae.n p 2),.int .i8 (ae.k p 3),.int .i8 (ae.n p 3),.int .i8 (ae.k p 4),.int .i8 (ae.n p 4),.int .i8 (ae.k p 5),.int .i8 (ae.n p 5),.int .i8 (ae.k p 6),.int .i8 (ae.n p 6),.int .i8 (ae.k p 7),.int .i8 (ae.n p 7),.int .i8 (ae.k p 8),.int .i8 (ae.n p 8),.int .i8 (ae.k p 9),.int .i8 (ae.n p 9),.int .i8 (ae.k p 10),.int .i8 (ae.n p 10)],.dead,.dead,.bg 0 13]):=by
 have c0:= @KT p l n k ys hy outs ho
 exact (ak.ao (sp:=⟨[3,27,28,29],[0],[(8,13)]⟩) (n0:=3) (ex:=Ex.norm) (t':=((uu)::(uu)::(uu)::(.ptr false 0 0)::(un 4++(.aq (.tok 3 0) 13 (outs++eZ ys))::(un 18++(.aq .no 13 l)::(.int .i64 (↑n:Int))::(.int .i64 (W3.i64.wrap ((↑k:Int)+1)))::(un 72))))) (s':= [.box [.int .i8 (ae.k p 0),.int .i8 (ae.n p 0),.int .i8 (ae.k p 1),.int .i8 (ae.n p 1),.int .i8 (ae.k p 2),.int .i8 (ae.n p 2),.int .i8 (ae.k p 3),.int .i8 (ae.n p 3),.int .i8 (ae.k p 4),.int .i8 (ae.n p 4),.int .i8 (ae.k p 5),.int .i8 (ae.n p 5),.int .i8 (ae.k p 6),.int .i8 (ae.n p 6),.int .i8 (ae.k p 7),.int .i8 (ae.n p 7),.int .i8 (ae.k p 8),.int .i8 (ae.n p 8),.int .i8 (ae.k p 9),.int .i8 (ae.n p 9),.int .i8 (ae.k p 10),.int .i8 (ae.n p 10)],.dead,.dead,.bg 0 13]) mixed [tC (by ((try simp only [Vu,Vx,Vy,dD,aY,decide_eq_true_eq,decide_eq_false_iff_not,beq_iff_eq,bne_iff_ne,beq_eq_false_iff_ne] at*);omega):(decide ((↑k:Int)<(↑n:Int)))=true),tT,.get _ _ _ hx,tC (bS 1 true (eq_of_beq qy)),.ret _ _ _ hT,tF,.gP _ _ _ _ _ (@gA ([.int .i8 (ae.k p 0),.int .i8 (ae.n p 0),.int .i8 (ae.k p 1),.int .i8 (ae.n p 1),.int .i8 (ae.k p 2),.int .i8 (ae.n p 2),.int .i8 (ae.k p 3),.int .i8 (ae.n p 3),.int .i8 (ae.k p 4),.int .i8 (ae.n p 4),.int .i8 (ae.k p 5),.int .i8 (ae.n p 5),.int .i8 (ae.k p 6),.int .i8 (ae.n p 6),.int .i8 (ae.k p 7),.int .i8 (ae.n p 7),.int .i8 (ae.k p 8),.int .i8 (ae.n p 8),.int .i8 (ae.k p 9),.int .i8 (ae.n p 9),.int .i8 (ae.k p 10),.int .i8 (ae.n p 10)]) ([.box [.int .i8 kind,.int .i8 op,.int .i8 w,.int .i8 dst,.int .i8 src,.int .i8 base,.int .i64 ai,.int .i64 au,.int .i8 cc,.int .i8 aF,.int .i8 aw,.int .i64 num,.int .i64 to],.dead]) outs (VD (fX ys)) ((0:Nat)) (by ((try simp only [Vu,Vx,Vy,dD,aY,decide_eq_true_eq,decide_eq_false_iff_not,beq_iff_eq,bne_iff_ne,beq_eq_false_iff_ne] at*);omega)) (by ((try simp only [Vu,Vx,Vy,dD,aY,decide_eq_true_eq,decide_eq_false_iff_not,beq_iff_eq,bne_iff_ne,beq_eq_false_iff_ne] at*);omega))),.head ⟨[3,27,28,29,88,89,90],[0],[(8,13)]⟩ _ _ _ _ _ _ _ c0] (by kernel_rfl)).cast (by rfl) (by rfl)
theorem GN (p:ae) (l outs:List D) (n k:Nat) (n1:n≤100) (ho:outs.length≤20000) (hk:k<n) (kind op w dst src base ai au cc aF aw num to:Int) (hx:l[k]? =some (e6 kind op w dst src base ai au cc aF aw num to)) (ys:List XS) (hy:ys.length≤100) (SA:(fX ys).length≤100) (hT:aJ Tryz.prog 15 [.int .i64 (W3.i64.wrap aF),.int .i8 aw,.agg (aP p)] (.aQ [.aq .no 8 (fX ys),.int .i64 0])) (q1:(kind==1)=false) (qy:(kind==2)=true):ak Tryz.prog (aC Tryz.f9 0) ⟨[3,27,28,29],[0],[(8,13)]⟩ 3 ((uu)::(uu)::(uu)::(.ptr false 0 0)::(un 4++(.aq (.tok 3 0) 13 outs)::(un 18++(.aq .no 13 l)::(.int .i64 (↑n:Int))::(.int .i64 (↑k:Int))::(un 72)))) [.box (aP p),.dead,.dead,.bg 0 13] .norm ((uu)::(uu)::(uu)::(.ptr false 0 0)::(un 4++(.aq (.tok 3 0) 13 (outs++eZ ys))::(un 18++(.aq .no 13 l)::(.int .i64 (↑n:Int))::(.int .i64 (W3.i64.wrap ((↑k:Int)+1)))::(un 72)))) ([.box [.int .i8 (ae.k p 0),.int .i8 (ae.n p 0),.int .i8 (ae.k p 1),.int .i8 (ae.n p 1),.int .i8 (ae.k p 2),.int .i8 (ae.n p 2),.int .i8 (ae.k p 3),.int .i8 (ae.n p 3),.int .i8 (ae.k p 4),.int .i8 (ae.n p 4),.int .i8 (ae.k p 5),.int .i8 (ae.n p 5),.int .i8 (ae.k p 6),.int .i8 (ae.n p 6),.int .i8 (ae.k p 7),.int .i8 (ae.n p 7),.int .i8 (ae.k p 8),.int .i8 (ae.n p 8),.int .i8 (ae.k p 9),.int .i8 (ae.n p 9),.int .i8 (ae.k p 10),.int .i8 (ae.n p 10)],.dead,.dead,.bg 0 13]):=by
 have c0:= @KT p l n k ys hy outs ho
 exact (ak.ao (sp:=⟨[3,27,28,29],[0],[(8,13)]⟩) (n0:=3) (ex:=Ex.norm) (t':=((uu)::(uu)::(uu)::(.ptr false 0 0)::(un 4++(.aq (.tok 3 0) 13 (outs++eZ ys))::(un 18++(.aq .no 13 l)::(.int .i64 (↑n:Int))::(.int .i64 (W3.i64.wrap ((↑k:Int)+1)))::(un 72))))) (s':= [.box [.int .i8 (ae.k p 0),.int .i8 (ae.n p 0),.int .i8 (ae.k p 1),.int .i8 (ae.n p 1),.int .i8 (ae.k p 2),.int .i8 (ae.n p 2),.int .i8 (ae.k p 3),.int .i8 (ae.n p 3),.int .i8 (ae.k p 4),.int .i8 (ae.n p 4),.int .i8 (ae.k p 5),.int .i8 (ae.n p 5),.int .i8 (ae.k p 6),.int .i8 (ae.n p 6),.int .i8 (ae.k p 7),.int .i8 (ae.n p 7),.int .i8 (ae.k p 8),.int .i8 (ae.n p 8),.int .i8 (ae.k p 9),.int .i8 (ae.n p 9),.int .i8 (ae.k p 10),.int .i8 (ae.n p 10)],.dead,.dead,.bg 0 13]) mixed [tC (by ((try simp only [Vu,Vx,Vy,dD,aY,decide_eq_true_eq,decide_eq_false_iff_not,beq_iff_eq,bne_iff_ne,beq_eq_false_iff_ne] at*);omega):(decide ((↑k:Int)<(↑n:Int)))=true),tT,.get _ _ _ hx,tC q1,tC (bS 2 true (eq_of_beq qy)),.ret _ _ _ hT,tF,.gP _ _ _ _ _ (@gA ([.int .i8 (ae.k p 0),.int .i8 (ae.n p 0),.int .i8 (ae.k p 1),.int .i8 (ae.n p 1),.int .i8 (ae.k p 2),.int .i8 (ae.n p 2),.int .i8 (ae.k p 3),.int .i8 (ae.n p 3),.int .i8 (ae.k p 4),.int .i8 (ae.n p 4),.int .i8 (ae.k p 5),.int .i8 (ae.n p 5),.int .i8 (ae.k p 6),.int .i8 (ae.n p 6),.int .i8 (ae.k p 7),.int .i8 (ae.n p 7),.int .i8 (ae.k p 8),.int .i8 (ae.n p 8),.int .i8 (ae.k p 9),.int .i8 (ae.n p 9),.int .i8 (ae.k p 10),.int .i8 (ae.n p 10)]) ([.box [.int .i8 kind,.int .i8 op,.int .i8 w,.int .i8 dst,.int .i8 src,.int .i8 base,.int .i64 ai,.int .i64 au,.int .i8 cc,.int .i8 aF,.int .i8 aw,.int .i64 num,.int .i64 to],.dead]) outs (VD (fX ys)) ((0:Nat)) (by ((try simp only [Vu,Vx,Vy,dD,aY,decide_eq_true_eq,decide_eq_false_iff_not,beq_iff_eq,bne_iff_ne,beq_eq_false_iff_ne] at*);omega)) (by ((try simp only [Vu,Vx,Vy,dD,aY,decide_eq_true_eq,decide_eq_false_iff_not,beq_iff_eq,bne_iff_ne,beq_eq_false_iff_ne] at*);omega))),.head ⟨[3,27,28,29,88,89,90],[0],[(8,13)]⟩ _ _ _ _ _ _ _ c0] (by kernel_rfl)).cast (by rfl) (by rfl)
theorem GM (p:ae) (l outs:List D) (n k:Nat) (n1:n≤100) (ho:outs.length≤20000) (hk:k<n) (kind op w dst src base ai au cc aF aw num to:Int) (hx:l[k]? =some (e6 kind op w dst src base ai au cc aF aw num to)) (ys:List XS) (hy:ys.length≤100) (SA:(fX ys).length≤100) (hT:aJ Tryz.prog 17 [.int .i64 num,.agg (aP p)] (.aQ [.aq .no 8 (fX ys),.int .i64 0])) (q1:(kind==1)=false) (q2:(kind==2)=false) (qy:(kind==3)=true):ak Tryz.prog (aC Tryz.f9 0) ⟨[3,27,28,29],[0],[(8,13)]⟩ 3 ((uu)::(uu)::(uu)::(.ptr false 0 0)::(un 4++(.aq (.tok 3 0) 13 outs)::(un 18++(.aq .no 13 l)::(.int .i64 (↑n:Int))::(.int .i64 (↑k:Int))::(un 72)))) [.box (aP p),.dead,.dead,.bg 0 13] .norm ((uu)::(uu)::(uu)::(.ptr false 0 0)::(un 4++(.aq (.tok 3 0) 13 (outs++eZ ys))::(un 18++(.aq .no 13 l)::(.int .i64 (↑n:Int))::(.int .i64 (W3.i64.wrap ((↑k:Int)+1)))::(un 72)))) ([.box [.int .i8 (ae.k p 0),.int .i8 (ae.n p 0),.int .i8 (ae.k p 1),.int .i8 (ae.n p 1),.int .i8 (ae.k p 2),.int .i8 (ae.n p 2),.int .i8 (ae.k p 3),.int .i8 (ae.n p 3),.int .i8 (ae.k p 4),.int .i8 (ae.n p 4),.int .i8 (ae.k p 5),.int .i8 (ae.n p 5),.int .i8 (ae.k p 6),.int .i8 (ae.n p 6),.int .i8 (ae.k p 7),.int .i8 (ae.n p 7),.int .i8 (ae.k p 8),.int .i8 (ae.n p 8),.int .i8 (ae.k p 9),.int .i8 (ae.n p 9),.int .i8 (ae.k p 10),.int .i8 (ae.n p 10)],.dead,.dead,.bg 0 13]):=by
 have c0:= @KT p l n k ys hy outs ho
 exact (ak.ao (sp:=⟨[3,27,28,29],[0],[(8,13)]⟩) (n0:=3) (ex:=Ex.norm) (t':=((uu)::(uu)::(uu)::(.ptr false 0 0)::(un 4++(.aq (.tok 3 0) 13 (outs++eZ ys))::(un 18++(.aq .no 13 l)::(.int .i64 (↑n:Int))::(.int .i64 (W3.i64.wrap ((↑k:Int)+1)))::(un 72))))) (s':= [.box [.int .i8 (ae.k p 0),.int .i8 (ae.n p 0),.int .i8 (ae.k p 1),.int .i8 (ae.n p 1),.int .i8 (ae.k p 2),.int .i8 (ae.n p 2),.int .i8 (ae.k p 3),.int .i8 (ae.n p 3),.int .i8 (ae.k p 4),.int .i8 (ae.n p 4),.int .i8 (ae.k p 5),.int .i8 (ae.n p 5),.int .i8 (ae.k p 6),.int .i8 (ae.n p 6),.int .i8 (ae.k p 7),.int .i8 (ae.n p 7),.int .i8 (ae.k p 8),.int .i8 (ae.n p 8),.int .i8 (ae.k p 9),.int .i8 (ae.n p 9),.int .i8 (ae.k p 10),.int .i8 (ae.n p 10)],.dead,.dead,.bg 0 13]) mixed [tC (by ((try simp only [Vu,Vx,Vy,dD,aY,decide_eq_true_eq,decide_eq_false_iff_not,beq_iff_eq,bne_iff_ne,beq_eq_false_iff_ne] at*);omega):(decide ((↑k:Int)<(↑n:Int)))=true),tT,.get _ _ _ hx,tC q1,tC q2,tC (bS 3 true (eq_of_beq qy)),.ret _ _ _ hT,tF,.gP _ _ _ _ _ (@gA ([.int .i8 (ae.k p 0),.int .i8 (ae.n p 0),.int .i8 (ae.k p 1),.int .i8 (ae.n p 1),.int .i8 (ae.k p 2),.int .i8 (ae.n p 2),.int .i8 (ae.k p 3),.int .i8 (ae.n p 3),.int .i8 (ae.k p 4),.int .i8 (ae.n p 4),.int .i8 (ae.k p 5),.int .i8 (ae.n p 5),.int .i8 (ae.k p 6),.int .i8 (ae.n p 6),.int .i8 (ae.k p 7),.int .i8 (ae.n p 7),.int .i8 (ae.k p 8),.int .i8 (ae.n p 8),.int .i8 (ae.k p 9),.int .i8 (ae.n p 9),.int .i8 (ae.k p 10),.int .i8 (ae.n p 10)]) ([.box [.int .i8 kind,.int .i8 op,.int .i8 w,.int .i8 dst,.int .i8 src,.int .i8 base,.int .i64 ai,.int .i64 au,.int .i8 cc,.int .i8 aF,.int .i8 aw,.int .i64 num,.int .i64 to],.dead]) outs (VD (fX ys)) ((0:Nat)) (by ((try simp only [Vu,Vx,Vy,dD,aY,decide_eq_true_eq,decide_eq_false_iff_not,beq_iff_eq,bne_iff_ne,beq_eq_false_iff_ne] at*);omega)) (by ((try simp only [Vu,Vx,Vy,dD,aY,decide_eq_true_eq,decide_eq_false_iff_not,beq_iff_eq,bne_iff_ne,beq_eq_false_iff_ne] at*);omega))),.head ⟨[3,27,28,29,88,89,90],[0],[(8,13)]⟩ _ _ _ _ _ _ _ c0] (by kernel_rfl)).cast (by rfl) (by rfl)
theorem GO (p:ae) (l outs:List D) (n k:Nat) (n1:n≤100) (ho:outs.length≤20000) (hk:k<n) (kind op w dst src base ai au cc aF aw num to:Int) (hx:l[k]? =some (e6 kind op w dst src base ai au cc aF aw num to)) (ys:List XS) (hy:ys.length≤100) (SA:(fX ys).length≤100) (hT:aJ Tryz.prog 19 [.agg (aP p)] (.aQ [.aq .no 8 (fX ys),.int .i64 0])) (q1:(kind==1)=false) (q2:(kind==2)=false) (q3:(kind==3)=false) (qy:(kind==6)=true):ak Tryz.prog (aC Tryz.f9 0) ⟨[3,27,28,29],[0],[(8,13)]⟩ 3 ((uu)::(uu)::(uu)::(.ptr false 0 0)::(un 4++(.aq (.tok 3 0) 13 outs)::(un 18++(.aq .no 13 l)::(.int .i64 (↑n:Int))::(.int .i64 (↑k:Int))::(un 72)))) [.box (aP p),.dead,.dead,.bg 0 13] .norm ((uu)::(uu)::(uu)::(.ptr false 0 0)::(un 4++(.aq (.tok 3 0) 13 (outs++eZ ys))::(un 18++(.aq .no 13 l)::(.int .i64 (↑n:Int))::(.int .i64 (W3.i64.wrap ((↑k:Int)+1)))::(un 72)))) ([.box [.int .i8 (ae.k p 0),.int .i8 (ae.n p 0),.int .i8 (ae.k p 1),.int .i8 (ae.n p 1),.int .i8 (ae.k p 2),.int .i8 (ae.n p 2),.int .i8 (ae.k p 3),.int .i8 (ae.n p 3),.int .i8 (ae.k p 4),.int .i8 (ae.n p 4),.int .i8 (ae.k p 5),.int .i8 (ae.n p 5),.int .i8 (ae.k p 6),.int .i8 (ae.n p 6),.int .i8 (ae.k p 7),.int .i8 (ae.n p 7),.int .i8 (ae.k p 8),.int .i8 (ae.n p 8),.int .i8 (ae.k p 9),.int .i8 (ae.n p 9),.int .i8 (ae.k p 10),.int .i8 (ae.n p 10)],.dead,.dead,.bg 0 13]):=by
 have c0:= @KT p l n k ys hy outs ho
 exact (ak.ao (sp:=⟨[3,27,28,29],[0],[(8,13)]⟩) (n0:=3) (ex:=Ex.norm) (t':=((uu)::(uu)::(uu)::(.ptr false 0 0)::(un 4++(.aq (.tok 3 0) 13 (outs++eZ ys))::(un 18++(.aq .no 13 l)::(.int .i64 (↑n:Int))::(.int .i64 (W3.i64.wrap ((↑k:Int)+1)))::(un 72))))) (s':= [.box [.int .i8 (ae.k p 0),.int .i8 (ae.n p 0),.int .i8 (ae.k p 1),.int .i8 (ae.n p 1),.int .i8 (ae.k p 2),.int .i8 (ae.n p 2),.int .i8 (ae.k p 3),.int .i8 (ae.n p 3),.int .i8 (ae.k p 4),.int .i8 (ae.n p 4),.int .i8 (ae.k p 5),.int .i8 (ae.n p 5),.int .i8 (ae.k p 6),.int .i8 (ae.n p 6),.int .i8 (ae.k p 7),.int .i8 (ae.n p 7),.int .i8 (ae.k p 8),.int .i8 (ae.n p 8),.int .i8 (ae.k p 9),.int .i8 (ae.n p 9),.int .i8 (ae.k p 10),.int .i8 (ae.n p 10)],.dead,.dead,.bg 0 13]) mixed [tC (by ((try simp only [Vu,Vx,Vy,dD,aY,decide_eq_true_eq,decide_eq_false_iff_not,beq_iff_eq,bne_iff_ne,beq_eq_false_iff_ne] at*);omega):(decide ((↑k:Int)<(↑n:Int)))=true),tT,.get _ _ _ hx,tC q1,tC q2,tC q3,tC (bS 6 true (eq_of_beq qy)),.ret _ _ _ hT,tF,.gP _ _ _ _ _ (@gA ([.int .i8 (ae.k p 0),.int .i8 (ae.n p 0),.int .i8 (ae.k p 1),.int .i8 (ae.n p 1),.int .i8 (ae.k p 2),.int .i8 (ae.n p 2),.int .i8 (ae.k p 3),.int .i8 (ae.n p 3),.int .i8 (ae.k p 4),.int .i8 (ae.n p 4),.int .i8 (ae.k p 5),.int .i8 (ae.n p 5),.int .i8 (ae.k p 6),.int .i8 (ae.n p 6),.int .i8 (ae.k p 7),.int .i8 (ae.n p 7),.int .i8 (ae.k p 8),.int .i8 (ae.n p 8),.int .i8 (ae.k p 9),.int .i8 (ae.n p 9),.int .i8 (ae.k p 10),.int .i8 (ae.n p 10)]) ([.box [.int .i8 kind,.int .i8 op,.int .i8 w,.int .i8 dst,.int .i8 src,.int .i8 base,.int .i64 ai,.int .i64 au,.int .i8 cc,.int .i8 aF,.int .i8 aw,.int .i64 num,.int .i64 to],.dead]) outs (VD (fX ys)) ((0:Nat)) (by ((try simp only [Vu,Vx,Vy,dD,aY,decide_eq_true_eq,decide_eq_false_iff_not,beq_iff_eq,bne_iff_ne,beq_eq_false_iff_ne] at*);omega)) (by ((try simp only [Vu,Vx,Vy,dD,aY,decide_eq_true_eq,decide_eq_false_iff_not,beq_iff_eq,bne_iff_ne,beq_eq_false_iff_ne] at*);omega))),.head ⟨[3,27,28,29,88,89,90],[0],[(8,13)]⟩ _ _ _ _ _ _ _ c0] (by kernel_rfl)).cast (by rfl) (by rfl)
theorem L0 (p:ae) (l outs:List D) (n k:Nat) (n1:n≤100) (ho:outs.length≤20000) (hk:k<n) (kind op w dst src base ai au cc aF aw num to:Int) (hx:l[k]? =some (e6 kind op w dst src base ai au cc aF aw num to)) (q1:(kind==1)=false) (q2:(kind==2)=false) (q3:(kind==3)=false) (q6:(kind==6)=false) (qy:(kind==0)=true):ak Tryz.prog (aC Tryz.f9 0) ⟨[3,27,28,29],[0],[(8,13)]⟩ 3 ((uu)::(uu)::(uu)::(.ptr false 0 0)::(un 4++(.aq (.tok 3 0) 13 outs)::(un 18++(.aq .no 13 l)::(.int .i64 (↑n:Int))::(.int .i64 (↑k:Int))::(un 72)))) [.box (aP p),.dead,.dead,.bg 0 13] .norm ((uu)::(uu)::(uu)::(.ptr false 0 0)::(un 4++(.aq (.tok 3 0) 13 (outs++ [(e6 kind op w dst src base ai au cc aF aw num to)]))::(un 18++(.aq .no 13 l)::(.int .i64 (↑n:Int))::(.int .i64 (W3.i64.wrap ((↑k:Int)+1)))::(un 72)))) ([.box [.int .i8 (ae.k p 0),.int .i8 (ae.n p 0),.int .i8 (ae.k p 1),.int .i8 (ae.n p 1),.int .i8 (ae.k p 2),.int .i8 (ae.n p 2),.int .i8 (ae.k p 3),.int .i8 (ae.n p 3),.int .i8 (ae.k p 4),.int .i8 (ae.n p 4),.int .i8 (ae.k p 5),.int .i8 (ae.n p 5),.int .i8 (ae.k p 6),.int .i8 (ae.n p 6),.int .i8 (ae.k p 7),.int .i8 (ae.n p 7),.int .i8 (ae.k p 8),.int .i8 (ae.n p 8),.int .i8 (ae.k p 9),.int .i8 (ae.n p 9),.int .i8 (ae.k p 10),.int .i8 (ae.n p 10)],.dead,.dead,.bg 0 13]):=by
 exact (ak.ao (sp:=⟨[3,27,28,29],[0],[(8,13)]⟩) (n0:=3) (ex:=Ex.norm) (t':=((uu)::(uu)::(uu)::(.ptr false 0 0)::(un 4++(.aq (.tok 3 0) 13 (outs++ [(e6 kind op w dst src base ai au cc aF aw num to)]))::(un 18++(.aq .no 13 l)::(.int .i64 (↑n:Int))::(.int .i64 (W3.i64.wrap ((↑k:Int)+1)))::(un 72))))) (s':= [.box [.int .i8 (ae.k p 0),.int .i8 (ae.n p 0),.int .i8 (ae.k p 1),.int .i8 (ae.n p 1),.int .i8 (ae.k p 2),.int .i8 (ae.n p 2),.int .i8 (ae.k p 3),.int .i8 (ae.n p 3),.int .i8 (ae.k p 4),.int .i8 (ae.n p 4),.int .i8 (ae.k p 5),.int .i8 (ae.n p 5),.int .i8 (ae.k p 6),.int .i8 (ae.n p 6),.int .i8 (ae.k p 7),.int .i8 (ae.n p 7),.int .i8 (ae.k p 8),.int .i8 (ae.n p 8),.int .i8 (ae.k p 9),.int .i8 (ae.n p 9),.int .i8 (ae.k p 10),.int .i8 (ae.n p 10)],.dead,.dead,.bg 0 13]) mixed [tC (by ((try simp only [Vu,Vx,Vy,dD,aY,decide_eq_true_eq,decide_eq_false_iff_not,beq_iff_eq,bne_iff_ne,beq_eq_false_iff_ne] at*);omega):(decide ((↑k:Int)<(↑n:Int)))=true),tT,.get _ _ _ hx,tC q1,tC q2,tC q3,tC q6,tC (bS 0 true (eq_of_beq qy)),.len (VD outs+(1:Nat)) ((2147483648:Nat)) (by first|decide|omega|(simp;omega)),tF,.gP _ _ _ _ _ (@gA ([.int .i8 (ae.k p 0),.int .i8 (ae.n p 0),.int .i8 (ae.k p 1),.int .i8 (ae.n p 1),.int .i8 (ae.k p 2),.int .i8 (ae.n p 2),.int .i8 (ae.k p 3),.int .i8 (ae.n p 3),.int .i8 (ae.k p 4),.int .i8 (ae.n p 4),.int .i8 (ae.k p 5),.int .i8 (ae.n p 5),.int .i8 (ae.k p 6),.int .i8 (ae.n p 6),.int .i8 (ae.k p 7),.int .i8 (ae.n p 7),.int .i8 (ae.k p 8),.int .i8 (ae.n p 8),.int .i8 (ae.k p 9),.int .i8 (ae.n p 9),.int .i8 (ae.k p 10),.int .i8 (ae.n p 10)]) ([.box [.int .i8 kind,.int .i8 op,.int .i8 w,.int .i8 dst,.int .i8 src,.int .i8 base,.int .i64 ai,.int .i64 au,.int .i8 cc,.int .i8 aF,.int .i8 aw,.int .i64 num,.int .i64 to]]) (outs++ [(e6 kind op w dst src base ai au cc aF aw num to)]) (nat_lit 0) ((1:Nat)) (by ((try simp only [Vu,Vx,Vy,dD,aY,decide_eq_true_eq,decide_eq_false_iff_not,beq_iff_eq,bne_iff_ne,beq_eq_false_iff_ne] at*);omega)) (by decide)),.go 64,tF] (by kernel_rfl)).cast (by rfl) (by rfl)
theorem L1 (p:ae) (l outs:List D) (n k:Nat) (n1:n≤100) (ho:outs.length≤20000) (hk:k<n) (kind op w dst src base ai au cc aF aw num to:Int) (hx:l[k]? =some (e6 kind op w dst src base ai au cc aF aw num to)) (q1:(kind==1)=false) (q2:(kind==2)=false) (q3:(kind==3)=false) (q6:(kind==6)=false) (q0:(kind==0)=false):ak Tryz.prog (aC Tryz.f9 0) ⟨[3,27,28,29],[0],[(8,13)]⟩ 3 ((uu)::(uu)::(uu)::(.ptr false 0 0)::(un 4++(.aq (.tok 3 0) 13 outs)::(un 18++(.aq .no 13 l)::(.int .i64 (↑n:Int))::(.int .i64 (↑k:Int))::(un 72)))) [.box (aP p),.dead,.dead,.bg 0 13] .norm ((uu)::(uu)::(uu)::(.ptr false 0 0)::(un 4++(.aq (.tok 3 0) 13 (outs++ [(e6 kind op w dst src base ai au cc aF aw num to)]))::(un 18++(.aq .no 13 l)::(.int .i64 (↑n:Int))::(.int .i64 (W3.i64.wrap ((↑k:Int)+1)))::(un 72)))) ([.box [.int .i8 (ae.k p 0),.int .i8 (ae.n p 0),.int .i8 (ae.k p 1),.int .i8 (ae.n p 1),.int .i8 (ae.k p 2),.int .i8 (ae.n p 2),.int .i8 (ae.k p 3),.int .i8 (ae.n p 3),.int .i8 (ae.k p 4),.int .i8 (ae.n p 4),.int .i8 (ae.k p 5),.int .i8 (ae.n p 5),.int .i8 (ae.k p 6),.int .i8 (ae.n p 6),.int .i8 (ae.k p 7),.int .i8 (ae.n p 7),.int .i8 (ae.k p 8),.int .i8 (ae.n p 8),.int .i8 (ae.k p 9),.int .i8 (ae.n p 9),.int .i8 (ae.k p 10),.int .i8 (ae.n p 10)],.dead,.dead,.bg 0 13]):=by
 exact (ak.ao (sp:=⟨[3,27,28,29],[0],[(8,13)]⟩) (n0:=3) (ex:=Ex.norm) (t':=((uu)::(uu)::(uu)::(.ptr false 0 0)::(un 4++(.aq (.tok 3 0) 13 (outs++ [(e6 kind op w dst src base ai au cc aF aw num to)]))::(un 18++(.aq .no 13 l)::(.int .i64 (↑n:Int))::(.int .i64 (W3.i64.wrap ((↑k:Int)+1)))::(un 72))))) (s':= [.box [.int .i8 (ae.k p 0),.int .i8 (ae.n p 0),.int .i8 (ae.k p 1),.int .i8 (ae.n p 1),.int .i8 (ae.k p 2),.int .i8 (ae.n p 2),.int .i8 (ae.k p 3),.int .i8 (ae.n p 3),.int .i8 (ae.k p 4),.int .i8 (ae.n p 4),.int .i8 (ae.k p 5),.int .i8 (ae.n p 5),.int .i8 (ae.k p 6),.int .i8 (ae.n p 6),.int .i8 (ae.k p 7),.int .i8 (ae.n p 7),.int .i8 (ae.k p 8),.int .i8 (ae.n p 8),.int .i8 (ae.k p 9),.int .i8 (ae.n p 9),.int .i8 (ae.k p 10),.int .i8 (ae.n p 10)],.dead,.dead,.bg 0 13]) mixed [tC (by ((try simp only [Vu,Vx,Vy,dD,aY,decide_eq_true_eq,decide_eq_false_iff_not,beq_iff_eq,bne_iff_ne,beq_eq_false_iff_ne] at*);omega):(decide ((↑k:Int)<(↑n:Int)))=true),tT,.get _ _ _ hx,tC q1,tC q2,tC q3,tC q6,tC q0,.len (VD outs+(1:Nat)) ((2147483648:Nat)) (by first|decide|omega|(simp;omega)),tF,.gP _ _ _ _ _ (@gA ([.int .i8 (ae.k p 0),.int .i8 (ae.n p 0),.int .i8 (ae.k p 1),.int .i8 (ae.n p 1),.int .i8 (ae.k p 2),.int .i8 (ae.n p 2),.int .i8 (ae.k p 3),.int .i8 (ae.n p 3),.int .i8 (ae.k p 4),.int .i8 (ae.n p 4),.int .i8 (ae.k p 5),.int .i8 (ae.n p 5),.int .i8 (ae.k p 6),.int .i8 (ae.n p 6),.int .i8 (ae.k p 7),.int .i8 (ae.n p 7),.int .i8 (ae.k p 8),.int .i8 (ae.n p 8),.int .i8 (ae.k p 9),.int .i8 (ae.n p 9),.int .i8 (ae.k p 10),.int .i8 (ae.n p 10)]) ([.box [.int .i8 kind,.int .i8 op,.int .i8 w,.int .i8 dst,.int .i8 src,.int .i8 base,.int .i64 ai,.int .i64 au,.int .i8 cc,.int .i8 aF,.int .i8 aw,.int .i64 num,.int .i64 to]]) (outs++ [(e6 kind op w dst src base ai au cc aF aw num to)]) (nat_lit 0) ((1:Nat)) (by ((try simp only [Vu,Vx,Vy,dD,aY,decide_eq_true_eq,decide_eq_false_iff_not,beq_iff_eq,bne_iff_ne,beq_eq_false_iff_ne] at*);omega)) (by decide)),.go 64,tF] (by kernel_rfl)).cast (by rfl) (by rfl)
theorem H0 (p:ae) (l outs xs:List D) (k m j:Nat) (hm:xs.length=m) (m1:m≤100) (ho:outs.length≤100000) (h:m≤j):ak Tryz.prog (aC Tryz.f10 1) ⟨[0,3,9],[0],[(8,13)]⟩ 6 ((.aq .no 13 l)::(uu)::(uu)::(.ptr false 0 0)::(un 4++(.aq (.tok 6 0) 13 outs)::(.int .i64 (↑k:Int))::(uu)::(.aq .no 8 xs)::(.int .i64 (↑j:Int))::(un 83))) [.box (aP p),.dead,.dead,.dead,.dead,.dead,.bg 0 13] (.exit 3) ((.aq .no 13 l)::(uu)::(uu)::(.ptr false 0 0)::(un 4++(.aq (.tok 6 0) 13 outs)::(.int .i64 (↑k:Int))::(un 86))) ([.box [.int .i8 (ae.k p 0),.int .i8 (ae.n p 0),.int .i8 (ae.k p 1),.int .i8 (ae.n p 1),.int .i8 (ae.k p 2),.int .i8 (ae.n p 2),.int .i8 (ae.k p 3),.int .i8 (ae.n p 3),.int .i8 (ae.k p 4),.int .i8 (ae.n p 4),.int .i8 (ae.k p 5),.int .i8 (ae.n p 5),.int .i8 (ae.k p 6),.int .i8 (ae.n p 6),.int .i8 (ae.k p 7),.int .i8 (ae.n p 7),.int .i8 (ae.k p 8),.int .i8 (ae.n p 8),.int .i8 (ae.k p 9),.int .i8 (ae.n p 9),.int .i8 (ae.k p 10),.int .i8 (ae.n p 10)],.dead,.dead,.dead,.dead,.dead,.bg 0 13]):=by
 exact (ak.ao (sp:=⟨[0,3,9],[0],[(8,13)]⟩) (n0:=6) (ex:=Ex.exit (3:Nat)) (t':=((.aq .no 13 l)::(uu)::(uu)::(.ptr false 0 0)::(un 4++(.aq (.tok 6 0) 13 outs)::(.int .i64 (↑k:Int))::(un 86)))) (s':= [.box [.int .i8 (ae.k p 0),.int .i8 (ae.n p 0),.int .i8 (ae.k p 1),.int .i8 (ae.n p 1),.int .i8 (ae.k p 2),.int .i8 (ae.n p 2),.int .i8 (ae.k p 3),.int .i8 (ae.n p 3),.int .i8 (ae.k p 4),.int .i8 (ae.n p 4),.int .i8 (ae.k p 5),.int .i8 (ae.n p 5),.int .i8 (ae.k p 6),.int .i8 (ae.n p 6),.int .i8 (ae.k p 7),.int .i8 (ae.n p 7),.int .i8 (ae.k p 8),.int .i8 (ae.n p 8),.int .i8 (ae.k p 9),.int .i8 (ae.n p 9),.int .i8 (ae.k p 10),.int .i8 (ae.n p 10)],.dead,.dead,.dead,.dead,.dead,.bg 0 13]) mixed [tC (by ((try simp only [Vv,VC,bm] at*);(try unfold bn at*);omega):(decide ((↑j:Int)<(↑(VD xs):Int)))=false)] (by kernel_rfl)).cast (by rfl) (by rfl)
theorem Jy (p:ae) (l outs xs:List D) (k m j:Nat) (hm:xs.length=m) (m1:m≤100) (ho:outs.length≤100000) (hj:j<m) (op w dst src base ai au cc:Int) (hx:xs[j]? =some (xD op w dst src base ai au cc)):ak Tryz.prog (aC Tryz.f10 1) ⟨[0,3,9,11,12],[0],[(8,13)]⟩ 6 ((.aq .no 13 l)::(uu)::(uu)::(.ptr false 0 0)::(un 4++(.aq (.tok 6 0) 13 outs)::(.int .i64 (↑k:Int))::(uu)::(.aq .no 8 xs)::(.int .i64 (↑j:Int))::(un 83))) [.box (aP p),.dead,.dead,.dead,.dead,.dead,.bg 0 13] .norm ((.aq .no 13 l)::(uu)::(uu)::(.ptr false 0 0)::(un 4++(.aq (.tok 6 0) 13 (outs++ [(e6 0 op w dst src base ai au cc 0 0 0 0)]))::(.int .i64 (↑k:Int))::(uu)::(.aq .no 8 xs)::(.int .i64 (W3.i64.wrap ((↑j:Int)+1)))::(un 83))) ([.box [.int .i8 (ae.k p 0),.int .i8 (ae.n p 0),.int .i8 (ae.k p 1),.int .i8 (ae.n p 1),.int .i8 (ae.k p 2),.int .i8 (ae.n p 2),.int .i8 (ae.k p 3),.int .i8 (ae.n p 3),.int .i8 (ae.k p 4),.int .i8 (ae.n p 4),.int .i8 (ae.k p 5),.int .i8 (ae.n p 5),.int .i8 (ae.k p 6),.int .i8 (ae.n p 6),.int .i8 (ae.k p 7),.int .i8 (ae.n p 7),.int .i8 (ae.k p 8),.int .i8 (ae.n p 8),.int .i8 (ae.k p 9),.int .i8 (ae.n p 9),.int .i8 (ae.k p 10),.int .i8 (ae.n p 10)],.dead,.dead,.dead,.dead,.dead,.bg 0 13]):=by
 exact (ak.ao (sp:=⟨[0,3,9,11,12],[0],[(8,13)]⟩) (n0:=6) (ex:=Ex.norm) (t':=((.aq .no 13 l)::(uu)::(uu)::(.ptr false 0 0)::(un 4++(.aq (.tok 6 0) 13 (outs++ [(e6 0 op w dst src base ai au cc 0 0 0 0)]))::(.int .i64 (↑k:Int))::(uu)::(.aq .no 8 xs)::(.int .i64 (W3.i64.wrap ((↑j:Int)+1)))::(un 83)))) (s':= [.box [.int .i8 (ae.k p 0),.int .i8 (ae.n p 0),.int .i8 (ae.k p 1),.int .i8 (ae.n p 1),.int .i8 (ae.k p 2),.int .i8 (ae.n p 2),.int .i8 (ae.k p 3),.int .i8 (ae.n p 3),.int .i8 (ae.k p 4),.int .i8 (ae.n p 4),.int .i8 (ae.k p 5),.int .i8 (ae.n p 5),.int .i8 (ae.k p 6),.int .i8 (ae.n p 6),.int .i8 (ae.k p 7),.int .i8 (ae.n p 7),.int .i8 (ae.k p 8),.int .i8 (ae.n p 8),.int .i8 (ae.k p 9),.int .i8 (ae.n p 9),.int .i8 (ae.k p 10),.int .i8 (ae.n p 10)],.dead,.dead,.dead,.dead,.dead,.bg 0 13]) mixed [tC (by ((try simp only [Vv,VC,bm] at*);(try unfold bn at*);omega):(decide ((↑j:Int)<(↑(VD xs):Int)))=true),tT,.get _ _ _ hx,.len (VD outs+(1:Nat)) ((2147483648:Nat)) (by first|decide|omega|(simp;omega))] (by kernel_rfl)).cast (by rfl) (by rfl)
abbrev Oa (l outs xs:List D) (k j:Nat):List D:= [.aq .no 13 l,.undef,.undef,.ptr false 0 0,.undef,.undef,.undef,.undef,.aq (.tok 6 0) 13 outs,.int .i64 (k:Int),.undef,.aq .no 8 xs,.int .i64 (j:Int),.undef,.undef,.undef,.undef,.undef,.undef,.undef,.undef,.undef,.undef,.undef,.undef,.undef,.undef,.undef,.undef,.undef,.undef,.undef,.undef,.undef,.undef,.undef,.undef,.undef,.undef,.undef,.undef,.undef,.undef,.undef,.undef,.undef,.undef,.undef,.undef,.undef,.undef,.undef,.undef,.undef,.undef,.undef,.undef,.undef,.undef,.undef,.undef,.undef,.undef,.undef,.undef,.undef,.undef,.undef,.undef,.undef,.undef,.undef,.undef,.undef,.undef,.undef,.undef,.undef,.undef,.undef,.undef,.undef,.undef,.undef,.undef,.undef,.undef,.undef,.undef,.undef,.undef,.undef,.undef,.undef,.undef,.undef]
abbrev MW (l outs:List D) (k:Nat):List D:= [.aq .no 13 l,.undef,.undef,.ptr false 0 0,.undef,.undef,.undef,.undef,.aq (.tok 6 0) 13 outs,.int .i64 (k:Int),.undef,.undef,.undef,.undef,.undef,.undef,.undef,.undef,.undef,.undef,.undef,.undef,.undef,.undef,.undef,.undef,.undef,.undef,.undef,.undef,.undef,.undef,.undef,.undef,.undef,.undef,.undef,.undef,.undef,.undef,.undef,.undef,.undef,.undef,.undef,.undef,.undef,.undef,.undef,.undef,.undef,.undef,.undef,.undef,.undef,.undef,.undef,.undef,.undef,.undef,.undef,.undef,.undef,.undef,.undef,.undef,.undef,.undef,.undef,.undef,.undef,.undef,.undef,.undef,.undef,.undef,.undef,.undef,.undef,.undef,.undef,.undef,.undef,.undef,.undef,.undef,.undef,.undef,.undef,.undef,.undef,.undef,.undef,.undef,.undef,.undef]
theorem MV (p:ae) (l:List D) (k:Nat) (ys:List XS) (hy:ys.length≤100):∀(r j:Nat) (outs:List D),j+r=ys.length→outs.length≤50000+j→
  aA Tryz.prog (aC Tryz.f10 1) 6 (Oa l outs (fX ys) k j) (Hn p) (.exit 3) (MW l (outs++eZ (ys.drop j)) k) (Hn p)
 |0,j,outs,hj,ho=>by
  obtain rfl:j=ys.length:=by omega
  have:=H0 p l outs (fX ys) k ys.length ys.length (ev ys) hy (by omega) (VF _)
  rw [Wl,show eZ []= [] from rfl,Wd]
  exact aA.last this (fun h=>by cases h)
 |r+1,j,outs,hj,ho=>by
  have Pd:j<ys.length:=by omega
  have:=Jy p l outs (fX ys) k ys.length j (ev ys) hy (by omega) Pd _ _ _ _ _ _ _ _ (qC Pd)
  rw [lO (by omega)] at this
  have ih:=MV p l k ys hy r (j+1) (outs++ [(GF ys[j]).d]) (by omega) (by rw [Vu,V0];omega)
  rw [V7] at ih
  rw [VT Pd,eZ,Wu,Wu]
  exact aA.bZ this ih
abbrev Ls (l outs:List D) (ys:List XS) (k:Nat):List D:= [.aq .no 13 l,.undef,.undef,.ptr false 0 0,.undef,.undef,.undef,.undef,.aq (.tok 6 0) 13 outs,.int .i64 (k:Int),.undef,.aq .no 8 (fX ys),.int .i64 0,.undef,.undef,.undef,.undef,.undef,.undef,.undef,.undef,.undef,.undef,.undef,.undef,.undef,.undef,.undef,.undef,.undef,.undef,.undef,.undef,.undef,.undef,.undef,.undef,.undef,.undef,.undef,.undef,.undef,.undef,.undef,.undef,.undef,.undef,.undef,.undef,.undef,.undef,.undef,.undef,.undef,.undef,.undef,.undef,.undef,.undef,.undef,.undef,.undef,.undef,.undef,.undef,.undef,.undef,.undef,.undef,.undef,.undef,.undef,.undef,.undef,.undef,.undef,.undef,.undef,.undef,.undef,.undef,.undef,.undef,.undef,.undef,.undef,.undef,.undef,.undef,.undef,.undef,.undef,.undef,.undef,.undef,.undef]
theorem KA (p:ae) (l:List D) (k:Nat) (ys:List XS) (hy:ys.length≤100) (outs:List D) (ho:outs.length≤20000):aI Tryz.prog 6 (.loop (aC Tryz.f10 1)) (Ls l outs ys k) (Hn p) (.exit 3) (MW l (outs++eZ ys) k) (Hn p):=
 aI.bf (by simp) (MV p l k ys hy ys.length 0 outs (by omega) (by omega))
end Go.Proofs.YtkpneibifdoecaaGreat
