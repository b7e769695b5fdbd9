import Derived.Test.YtkpneibifdoecaaGreatT05
import Derived.Test.YtkpneibifdoecaaGreatT16
open List renaming replicate→Vt,length_append→Vu,length_cons→Vx,length_nil→Vy,length_map→VC,length→VD,drop_eq_getElem_cons→VT,append_assoc→V7,append_nil→Wd,drop_length→Wl,getElem_mem→Wr,drop_zero→WH,nil_append→WW
open Go renaming IntKind→W3
/- Contracts and plain laws that a statement's proof leans on (texts merged:RR2,FX2,FX3A,FX3,FX4A,FT2W,FX4,FX5). -/
set_option linter.unusedVariables false
set_option linter.unusedSimpArgs false
set_option maxRecDepth 100000
set_option maxHeartbeats 8000000
namespace Go.Proofs.YtkpneibifdoecaaGreat
open Go Go.Ev
theorem HZ (p:ae) (l outs:List D) (n k:Nat) (hn:l.length=n) (n1:n≤100) (ho:outs.length≤20000) (h:n≤k):ak Tryz.prog (aC Tryz.f10 0) ⟨[],[],[(8,13)]⟩ 3 ((.aq .no 13 l)::(uu)::(uu)::(.ptr false 0 0)::(un 4++(.aq (.tok 3 0) 13 outs)::(.int .i64 (↑k:Int))::(un 86))) [.box (aP p),.dead,.dead,.bg 0 13] (.exit 0) (un 8++(.aq (.tok 3 0) 13 outs)::(un 87)) ([.dead,.dead,.dead,.bg 0 13]):=by
 exact (ak.ao (sp:=⟨[],[],[(8,13)]⟩) (n0:=3) (ex:=Ex.exit (0:Nat)) (t':=(un 8++(.aq (.tok 3 0) 13 outs)::(un 87))) (s':= [.dead,.dead,.dead,.bg 0 13]) mixed [tC (by ((try simp only [Vu,Vx,Vy,dD,aY,decide_eq_true_eq,decide_eq_false_iff_not,beq_iff_eq,bne_iff_ne,beq_eq_false_iff_ne] at*);omega):(decide ((↑k:Int)<(↑(VD l):Int)))=false)] (by kernel_rfl)).cast (by rfl) (by rfl)
theorem FD (p:ae) (l outs:List D) (n k:Nat) (hn:l.length=n) (n1:n≤100) (ho:outs.length≤20000) (hk:k<n) (kind op w dst src base ai au cc aF aw num to:Int) (hx:l[k]? =some (e6 kind op w dst src base ai au cc aF aw num to)) (ys:List XS) (hy:ys.length≤100) (SA:(fX ys).length≤100) (hT:aJ Tryz.prog 13 [.int .i64 (W3.i64.wrap aF),.int .i8 aw,.agg (aP p)] (.aQ [.aq .no 8 (fX ys),.int .i64 0])) (qy:(kind==1)=true):ak Tryz.prog (aC Tryz.f10 0) ⟨[0,3,9],[0],[(8,13)]⟩ 3 ((.aq .no 13 l)::(uu)::(uu)::(.ptr false 0 0)::(un 4++(.aq (.tok 3 0) 13 outs)::(.int .i64 (↑k:Int))::(un 86))) [.box (aP p),.dead,.dead,.bg 0 13] .norm ((.aq .no 13 l)::(uu)::(uu)::(.ptr false 0 0)::(un 4++(.aq (.tok 3 0) 13 (outs++eZ ys))::(.int .i64 (W3.i64.wrap ((↑k:Int)+1)))::(un 86))) ([.box [.int .i8 (ae.k p 0),.int .i8 (ae.n p 0),.int .i8 (ae.k p 1),.int .i8 (ae.n p 1),.int .i8 (ae.k p 2),.int .i8 (ae.n p 2),.int .i8 (ae.k p 3),.int .i8 (ae.n p 3),.int .i8 (ae.k p 4),.int .i8 (ae.n p 4),.int .i8 (ae.k p 5),.int .i8 (ae.n p 5),.int .i8 (ae.k p 6),.int .i8 (ae.n p 6),.int .i8 (ae.k p 7),.int .i8 (ae.n p 7),.int .i8 (ae.k p 8),.int .i8 (ae.n p 8),.int .i8 (ae.k p 9),.int .i8 (ae.n p 9),.int .i8 (ae.k p 10),.int .i8 (ae.n p 10)],.dead,.dead,.bg 0 13]):=by
 have c0:= @KA p l k ys hy outs ho
 exact (ak.ao (sp:=⟨[0,3,9],[0],[(8,13)]⟩) (n0:=3) (ex:=Ex.norm) (t':=((.aq .no 13 l)::(uu)::(uu)::(.ptr false 0 0)::(un 4++(.aq (.tok 3 0) 13 (outs++eZ ys))::(.int .i64 (W3.i64.wrap ((↑k:Int)+1)))::(un 86)))) (s':= [.box [.int .i8 (ae.k p 0),.int .i8 (ae.n p 0),.int .i8 (ae.k p 1),.int .i8 (ae.n p 1),.int .i8 (ae.k p 2),.int .i8 (ae.n p 2),.int .i8 (ae.k p 3),.int .i8 (ae.n p 3),.int .i8 (ae.k p 4),.int .i8 (ae.n p 4),.int .i8 (ae.k p 5),.int .i8 (ae.n p 5),.int .i8 (ae.k p 6),.int .i8 (ae.n p 6),.int .i8 (ae.k p 7),.int .i8 (ae.n p 7),.int .i8 (ae.k p 8),.int .i8 (ae.n p 8),.int .i8 (ae.k p 9),.int .i8 (ae.n p 9),.int .i8 (ae.k p 10),.int .i8 (ae.n p 10)],.dead,.dead,.bg 0 13]) mixed [tC (by ((try simp only [Vu,Vx,Vy,dD,aY,decide_eq_true_eq,decide_eq_false_iff_not,beq_iff_eq,bne_iff_ne,beq_eq_false_iff_ne] at*);omega):(decide ((↑k:Int)<(↑(VD l):Int)))=true),tT,.get _ _ _ hx,tC (bS 1 true (eq_of_beq qy)),.ret _ _ _ hT,.head ⟨[0,3,9,11,12],[0],[(8,13)]⟩ _ _ _ _ _ _ _ c0] (by kernel_rfl)).cast (by rfl) (by rfl)
theorem FF (p:ae) (l outs:List D) (n k:Nat) (hn:l.length=n) (n1:n≤100) (ho:outs.length≤20000) (hk:k<n) (kind op w dst src base ai au cc aF aw num to:Int) (hx:l[k]? =some (e6 kind op w dst src base ai au cc aF aw num to)) (ys:List XS) (hy:ys.length≤100) (SA:(fX ys).length≤100) (hT:aJ Tryz.prog 16 [.int .i64 (W3.i64.wrap aF),.int .i8 aw,.agg (aP p)] (.aQ [.aq .no 8 (fX ys),.int .i64 0])) (q1:(kind==1)=false) (qy:(kind==2)=true):ak Tryz.prog (aC Tryz.f10 0) ⟨[0,3,9],[0],[(8,13)]⟩ 3 ((.aq .no 13 l)::(uu)::(uu)::(.ptr false 0 0)::(un 4++(.aq (.tok 3 0) 13 outs)::(.int .i64 (↑k:Int))::(un 86))) [.box (aP p),.dead,.dead,.bg 0 13] .norm ((.aq .no 13 l)::(uu)::(uu)::(.ptr false 0 0)::(un 4++(.aq (.tok 3 0) 13 (outs++eZ ys))::(.int .i64 (W3.i64.wrap ((↑k:Int)+1)))::(un 86))) ([.box [.int .i8 (ae.k p 0),.int .i8 (ae.n p 0),.int .i8 (ae.k p 1),.int .i8 (ae.n p 1),.int .i8 (ae.k p 2),.int .i8 (ae.n p 2),.int .i8 (ae.k p 3),.int .i8 (ae.n p 3),.int .i8 (ae.k p 4),.int .i8 (ae.n p 4),.int .i8 (ae.k p 5),.int .i8 (ae.n p 5),.int .i8 (ae.k p 6),.int .i8 (ae.n p 6),.int .i8 (ae.k p 7),.int .i8 (ae.n p 7),.int .i8 (ae.k p 8),.int .i8 (ae.n p 8),.int .i8 (ae.k p 9),.int .i8 (ae.n p 9),.int .i8 (ae.k p 10),.int .i8 (ae.n p 10)],.dead,.dead,.bg 0 13]):=by
 have c0:= @KA p l k ys hy outs ho
 exact (ak.ao (sp:=⟨[0,3,9],[0],[(8,13)]⟩) (n0:=3) (ex:=Ex.norm) (t':=((.aq .no 13 l)::(uu)::(uu)::(.ptr false 0 0)::(un 4++(.aq (.tok 3 0) 13 (outs++eZ ys))::(.int .i64 (W3.i64.wrap ((↑k:Int)+1)))::(un 86)))) (s':= [.box [.int .i8 (ae.k p 0),.int .i8 (ae.n p 0),.int .i8 (ae.k p 1),.int .i8 (ae.n p 1),.int .i8 (ae.k p 2),.int .i8 (ae.n p 2),.int .i8 (ae.k p 3),.int .i8 (ae.n p 3),.int .i8 (ae.k p 4),.int .i8 (ae.n p 4),.int .i8 (ae.k p 5),.int .i8 (ae.n p 5),.int .i8 (ae.k p 6),.int .i8 (ae.n p 6),.int .i8 (ae.k p 7),.int .i8 (ae.n p 7),.int .i8 (ae.k p 8),.int .i8 (ae.n p 8),.int .i8 (ae.k p 9),.int .i8 (ae.n p 9),.int .i8 (ae.k p 10),.int .i8 (ae.n p 10)],.dead,.dead,.bg 0 13]) mixed [tC (by ((try simp only [Vu,Vx,Vy,dD,aY,decide_eq_true_eq,decide_eq_false_iff_not,beq_iff_eq,bne_iff_ne,beq_eq_false_iff_ne] at*);omega):(decide ((↑k:Int)<(↑(VD l):Int)))=true),tT,.get _ _ _ hx,tC q1,tC (bS 2 true (eq_of_beq qy)),.ret _ _ _ hT,.head ⟨[0,3,9,11,12],[0],[(8,13)]⟩ _ _ _ _ _ _ _ c0] (by kernel_rfl)).cast (by rfl) (by rfl)
theorem FE (p:ae) (l outs:List D) (n k:Nat) (hn:l.length=n) (n1:n≤100) (ho:outs.length≤20000) (hk:k<n) (kind op w dst src base ai au cc aF aw num to:Int) (hx:l[k]? =some (e6 kind op w dst src base ai au cc aF aw num to)) (ys:List XS) (hy:ys.length≤100) (SA:(fX ys).length≤100) (hT:aJ Tryz.prog 18 [.int .i64 num,.agg (aP p)] (.aQ [.aq .no 8 (fX ys),.int .i64 0])) (q1:(kind==1)=false) (q2:(kind==2)=false) (qy:(kind==3)=true):ak Tryz.prog (aC Tryz.f10 0) ⟨[0,3,9],[0],[(8,13)]⟩ 3 ((.aq .no 13 l)::(uu)::(uu)::(.ptr false 0 0)::(un 4++(.aq (.tok 3 0) 13 outs)::(.int .i64 (↑k:Int))::(un 86))) [.box (aP p),.dead,.dead,.bg 0 13] .norm ((.aq .no 13 l)::(uu)::(uu)::(.ptr false 0 0)::(un 4++(.aq (.tok 3 0) 13 (outs++eZ ys))::(.int .i64 (W3.i64.wrap ((↑k:Int)+1)))::(un 86))) ([.box [.int .i8 (ae.k p 0),.int .i8 (ae.n p 0),.int .i8 (ae.k p 1),.int .i8 (ae.n p 1),.int .i8 (ae.k p 2),.int .i8 (ae.n p 2),.int .i8 (ae.k p 3),.int .i8 (ae.n p 3),.int .i8 (ae.k p 4),.int .i8 (ae.n p 4),.int .i8 (ae.k p 5),.int .i8 (ae.n p 5),.int .i8 (ae.k p 6),.int .i8 (ae.n p 6),.int .i8 (ae.k p 7),.int .i8 (ae.n p 7),.int .i8 (ae.k p 8),.int .i8 (ae.n p 8),.int .i8 (ae.k p 9),.int .i8 (ae.n p 9),.int .i8 (ae.k p 10),.int .i8 (ae.n p 10)],.dead,.dead,.bg 0 13]):=by
 have c0:= @KA p l k ys hy outs ho
 exact (ak.ao (sp:=⟨[0,3,9],[0],[(8,13)]⟩) (n0:=3) (ex:=Ex.norm) (t':=((.aq .no 13 l)::(uu)::(uu)::(.ptr false 0 0)::(un 4++(.aq (.tok 3 0) 13 (outs++eZ ys))::(.int .i64 (W3.i64.wrap ((↑k:Int)+1)))::(un 86)))) (s':= [.box [.int .i8 (ae.k p 0),.int .i8 (ae.n p 0),.int .i8 (ae.k p 1),.int .i8 (ae.n p 1),.int .i8 (ae.k p 2),.int .i8 (ae.n p 2),.int .i8 (ae.k p 3),.int .i8 (ae.n p 3),.int .i8 (ae.k p 4),.int .i8 (ae.n p 4),.int .i8 (ae.k p 5),.int .i8 (ae.n p 5),.int .i8 (ae.k p 6),.int .i8 (ae.n p 6),.int .i8 (ae.k p 7),.int .i8 (ae.n p 7),.int .i8 (ae.k p 8),.int .i8 (ae.n p 8),.int .i8 (ae.k p 9),.int .i8 (ae.n p 9),.int .i8 (ae.k p 10),.int .i8 (ae.n p 10)],.dead,.dead,.bg 0 13]) mixed [tC (by ((try simp only [Vu,Vx,Vy,dD,aY,decide_eq_true_eq,decide_eq_false_iff_not,beq_iff_eq,bne_iff_ne,beq_eq_false_iff_ne] at*);omega):(decide ((↑k:Int)<(↑(VD l):Int)))=true),tT,.get _ _ _ hx,tC q1,tC q2,tC (bS 3 true (eq_of_beq qy)),.ret _ _ _ hT,.head ⟨[0,3,9,11,12],[0],[(8,13)]⟩ _ _ _ _ _ _ _ c0] (by kernel_rfl)).cast (by rfl) (by rfl)
theorem FG (p:ae) (l outs:List D) (n k:Nat) (hn:l.length=n) (n1:n≤100) (ho:outs.length≤20000) (hk:k<n) (kind op w dst src base ai au cc aF aw num to:Int) (hx:l[k]? =some (e6 kind op w dst src base ai au cc aF aw num to)) (ys:List XS) (hy:ys.length≤100) (SA:(fX ys).length≤100) (hT:aJ Tryz.prog 20 [.agg (aP p)] (.aQ [.aq .no 8 (fX ys),.int .i64 0])) (q1:(kind==1)=false) (q2:(kind==2)=false) (q3:(kind==3)=false) (qy:(kind==6)=true):ak Tryz.prog (aC Tryz.f10 0) ⟨[0,3,9],[0],[(8,13)]⟩ 3 ((.aq .no 13 l)::(uu)::(uu)::(.ptr false 0 0)::(un 4++(.aq (.tok 3 0) 13 outs)::(.int .i64 (↑k:Int))::(un 86))) [.box (aP p),.dead,.dead,.bg 0 13] .norm ((.aq .no 13 l)::(uu)::(uu)::(.ptr false 0 0)::(un 4++(.aq (.tok 3 0) 13 (outs++eZ ys))::(.int .i64 (W3.i64.wrap ((↑k:Int)+1)))::(un 86))) ([.box [.int .i8 (ae.k p 0),.int .i8 (ae.n p 0),.int .i8 (ae.k p 1),.int .i8 (ae.n p 1),.int .i8 (ae.k p 2),.int .i8 (ae.n p 2),.int .i8 (ae.k p 3),.int .i8 (ae.n p 3),.int .i8 (ae.k p 4),.int .i8 (ae.n p 4),.int .i8 (ae.k p 5),.int .i8 (ae.n p 5),.int .i8 (ae.k p 6),.int .i8 (ae.n p 6),.int .i8 (ae.k p 7),.int .i8 (ae.n p 7),.int .i8 (ae.k p 8),.int .i8 (ae.n p 8),.int .i8 (ae.k p 9),.int .i8 (ae.n p 9),.int .i8 (ae.k p 10),.int .i8 (ae.n p 10)],.dead,.dead,.bg 0 13]):=by
 have c0:= @KA p l k ys hy outs ho
 exact (ak.ao (sp:=⟨[0,3,9],[0],[(8,13)]⟩) (n0:=3) (ex:=Ex.norm) (t':=((.aq .no 13 l)::(uu)::(uu)::(.ptr false 0 0)::(un 4++(.aq (.tok 3 0) 13 (outs++eZ ys))::(.int .i64 (W3.i64.wrap ((↑k:Int)+1)))::(un 86)))) (s':= [.box [.int .i8 (ae.k p 0),.int .i8 (ae.n p 0),.int .i8 (ae.k p 1),.int .i8 (ae.n p 1),.int .i8 (ae.k p 2),.int .i8 (ae.n p 2),.int .i8 (ae.k p 3),.int .i8 (ae.n p 3),.int .i8 (ae.k p 4),.int .i8 (ae.n p 4),.int .i8 (ae.k p 5),.int .i8 (ae.n p 5),.int .i8 (ae.k p 6),.int .i8 (ae.n p 6),.int .i8 (ae.k p 7),.int .i8 (ae.n p 7),.int .i8 (ae.k p 8),.int .i8 (ae.n p 8),.int .i8 (ae.k p 9),.int .i8 (ae.n p 9),.int .i8 (ae.k p 10),.int .i8 (ae.n p 10)],.dead,.dead,.bg 0 13]) mixed [tC (by ((try simp only [Vu,Vx,Vy,dD,aY,decide_eq_true_eq,decide_eq_false_iff_not,beq_iff_eq,bne_iff_ne,beq_eq_false_iff_ne] at*);omega):(decide ((↑k:Int)<(↑(VD l):Int)))=true),tT,.get _ _ _ hx,tC q1,tC q2,tC q3,tC (bS 6 true (eq_of_beq qy)),.ret _ _ _ hT,.head ⟨[0,3,9,11,12],[0],[(8,13)]⟩ _ _ _ _ _ _ _ c0] (by kernel_rfl)).cast (by rfl) (by rfl)
theorem Lr (p:ae) (l outs:List D) (n k:Nat) (hn:l.length=n) (n1:n≤100) (ho:outs.length≤20000) (hk:k<n) (kind op w dst src base ai au cc aF aw num to:Int) (hx:l[k]? =some (e6 kind op w dst src base ai au cc aF aw num to)) (q1:(kind==1)=false) (q2:(kind==2)=false) (q3:(kind==3)=false) (q6:(kind==6)=false):ak Tryz.prog (aC Tryz.f10 0) ⟨[0,3,9],[0],[(8,13)]⟩ 3 ((.aq .no 13 l)::(uu)::(uu)::(.ptr false 0 0)::(un 4++(.aq (.tok 3 0) 13 outs)::(.int .i64 (↑k:Int))::(un 86))) [.box (aP p),.dead,.dead,.bg 0 13] .norm ((.aq .no 13 l)::(uu)::(uu)::(.ptr false 0 0)::(un 4++(.aq (.tok 3 0) 13 (outs++ [(e6 kind op w dst src base ai au cc aF aw num to)]))::(.int .i64 (W3.i64.wrap ((↑k:Int)+1)))::(un 86))) ([.box [.int .i8 (ae.k p 0),.int .i8 (ae.n p 0),.int .i8 (ae.k p 1),.int .i8 (ae.n p 1),.int .i8 (ae.k p 2),.int .i8 (ae.n p 2),.int .i8 (ae.k p 3),.int .i8 (ae.n p 3),.int .i8 (ae.k p 4),.int .i8 (ae.n p 4),.int .i8 (ae.k p 5),.int .i8 (ae.n p 5),.int .i8 (ae.k p 6),.int .i8 (ae.n p 6),.int .i8 (ae.k p 7),.int .i8 (ae.n p 7),.int .i8 (ae.k p 8),.int .i8 (ae.n p 8),.int .i8 (ae.k p 9),.int .i8 (ae.n p 9),.int .i8 (ae.k p 10),.int .i8 (ae.n p 10)],.dead,.dead,.bg 0 13]):=by
 exact (ak.ao (sp:=⟨[0,3,9],[0],[(8,13)]⟩) (n0:=3) (ex:=Ex.norm) (t':=((.aq .no 13 l)::(uu)::(uu)::(.ptr false 0 0)::(un 4++(.aq (.tok 3 0) 13 (outs++ [(e6 kind op w dst src base ai au cc aF aw num to)]))::(.int .i64 (W3.i64.wrap ((↑k:Int)+1)))::(un 86)))) (s':= [.box [.int .i8 (ae.k p 0),.int .i8 (ae.n p 0),.int .i8 (ae.k p 1),.int .i8 (ae.n p 1),.int .i8 (ae.k p 2),.int .i8 (ae.n p 2),.int .i8 (ae.k p 3),.int .i8 (ae.n p 3),.int .i8 (ae.k p 4),.int .i8 (ae.n p 4),.int .i8 (ae.k p 5),.int .i8 (ae.n p 5),.int .i8 (ae.k p 6),.int .i8 (ae.n p 6),.int .i8 (ae.k p 7),.int .i8 (ae.n p 7),.int .i8 (ae.k p 8),.int .i8 (ae.n p 8),.int .i8 (ae.k p 9),.int .i8 (ae.n p 9),.int .i8 (ae.k p 10),.int .i8 (ae.n p 10)],.dead,.dead,.bg 0 13]) mixed [tC (by ((try simp only [Vu,Vx,Vy,dD,aY,decide_eq_true_eq,decide_eq_false_iff_not,beq_iff_eq,bne_iff_ne,beq_eq_false_iff_ne] at*);omega):(decide ((↑k:Int)<(↑(VD l):Int)))=true),tT,.get _ _ _ hx,tC q1,tC q2,tC q3,tC q6,.len (VD outs+(1:Nat)) ((2147483648:Nat)) (by first|decide|omega|(simp;omega)),.go 64,tF] (by kernel_rfl)).cast (by rfl) (by rfl)
theorem sg {p:ae} {x:dp} :(nE p x).length≤100:=by
 unfold nE
 split
 ·simp
 ·split
  ·have:=lD (aw:=x.aw) (k:=p.k x.aF) (n:=p.n x.aF);omega
  ·split
   ·exact iz
   ·have:=iA (p:=p);omega
theorem za {p:ae} {x:dp} :(lN p x).length≤100:=by
 unfold lN
 split
 ·rw [VC];exact sg
 ·simp
abbrev dR (l:List dp):List D:=l.map dp.d
theorem sT {l:List dp} {k:Nat} (h:k<l.length):(dR l)[k]? =some (e6 l[k].kind l[k].op l[k].w l[k].dst l[k].src l[k].base l[k].ai l[k].au l[k].cc l[k].aF l[k].aw l[k].num l[k].to):=by
 simp [dR,h,dp.d]
theorem CI {r:Int} (h0:0≤r) (h1:r≤10):W3.i64.wrap r=r:=by rw [aY];omega
abbrev LY (l outs:List D) (n k:Nat):List D:=((.undef)::(.undef)::(.undef)::(.ptr false 0 0)::(un 4++(.aq (.tok 3 0) 13 outs)::(un 18++(.aq .no 13 l)::(.int .i64 (n:Int))::(.int .i64 (k:Int))::(un 72))))
abbrev ND (outs:List D):List D:=(un 8++(.aq (.tok 3 0) 13 outs)::(un 93))
abbrev KS (p:ae):List Ob:= [.box (aP p),.dead,.dead,.bg 0 13]
abbrev KR:List Ob:= [.dead,.dead,.dead,.bg 0 13]
theorem NC (p:ae) (hm:p.may=true) (l:List dp) (hl:l.length≤100) (ha:∀x∈l,x.may=true∧x.ok):∀(r k:Nat) (outs:List D),k+r=l.length→outs.length≤100*k→
  aA Tryz.prog (aC Tryz.f9 0) 3 (LY (dR l) outs l.length k) (KS p) (.exit 0) (ND (outs++dR (im p (l.drop k)))) KR
 |0,k,outs,hk,ho=>by
  obtain rfl:k=l.length:=by omega
  have:=IM p (dR l) outs l.length l.length hl (by omega) (Nat.le_refl _)
  rw [Wl,show dR (im p [])= [] from rfl,Wd]
  exact aA.last this (fun h=>by cases h)
 |r+1,k,outs,hk,ho=>by
  have Pd:k<l.length:=by omega
  have hx:=sT Pd
  obtain ⟨hy,Qb⟩:=ha _ (Wr Pd)
  have hd:im p (l.drop k)=lN p l[k]++im p (l.drop (k+1)):=by rw [VT Pd];rfl
  have hw:W3.i64.wrap ((k:Int)+1)=((k+1:Nat):Int):=lO (by omega)
  have hf:=za (p:=p) (x:=l[k])
  have UB:=sg (p:=p) (x:=l[k])
  have ih:=NC p hm l hl ha r (k+1) (outs++dR (lN p l[k])) (by omega) (by rw [Vu,VC];omega)
  rw [V7,← List.map_append,← hd] at ih
  have QZ:l[k].aw≤127:=Qb.2.2.2.2.1
  have b:∀c:Int,l[k].kind≠c→(l[k].kind==c)=false:=fun c h=>by simpa using h
  by_cases q1:l[k].kind=1
  ·obtain ⟨g0,g1,hs⟩:=sP hy (.inl q1)
   have hT:=(nr p hm g0 g1 QZ hs).1
   rw [← CI g0 g1] at hT
   have:=GL p (dR l) outs l.length k hl (by omega) Pd _ _ _ _ _ _ _ _ _ _ _ _ _ hx [ez l[k].aw (p.k l[k].aF) (p.n l[k].aF)] (by simp) (by simp [fX]) (by rw [CI g0 g1] at hT ⊢;exact hT) (by simp [q1])
   rw [hw,show eZ [ez l[k].aw (p.k l[k].aF) (p.n l[k].aF)]=dR (lN p l[k]) by rw [lN,if_pos (.inl q1),nE,if_pos q1]] at this
   exact aA.bZ this ih
  by_cases q2:l[k].kind=2
  ·obtain ⟨g0,g1,hs⟩:=sP hy (.inr q2)
   have hT:=(ov p hm g0 g1 QZ hs).1
   have TI:=lD (aw:=l[k].aw) (k:=p.k l[k].aF) (n:=p.n l[k].aF)
   have:=GN p (dR l) outs l.length k hl (by omega) Pd _ _ _ _ _ _ _ _ _ _ _ _ _ hx (jf l[k].aw (p.k l[k].aF) (p.n l[k].aF)) (by omega) (by rw [ev];omega) (by rw [CI g0 g1];exact hT) (b 1 q1) (by simp [q2])
   rw [hw,show eZ (jf l[k].aw (p.k l[k].aF) (p.n l[k].aF))=dR (lN p l[k]) by rw [lN,if_pos (.inr (.inl q2)),nE,if_neg q1,if_pos q2]] at this
   exact aA.bZ this ih
  by_cases q3:l[k].kind=3
  ·obtain ⟨g0,g1⟩:=He hy q3
   have hT:=(om p hm g0 g1).1
   have:=GM p (dR l) outs l.length k hl (by omega) Pd _ _ _ _ _ _ _ _ _ _ _ _ _ hx (Eo p l[k].num) iz (by rw [ev];exact iz) hT (b 1 q1) (b 2 q2) (by simp [q3])
   rw [hw,show eZ (Eo p l[k].num)=dR (lN p l[k]) by rw [lN,if_pos (.inr (.inr (.inl q3))),nE,if_neg q1,if_neg q2,if_pos q3]] at this
   exact aA.bZ this ih
  by_cases q6:l[k].kind=6
  ·have hT:=(oJ p hm).1
   have:=GO p (dR l) outs l.length k hl (by omega) Pd _ _ _ _ _ _ _ _ _ _ _ _ _ hx (du p) (by have:=iA (p:=p);omega) (by rw [ev];have:=iA (p:=p);omega) hT (b 1 q1) (b 2 q2) (b 3 q3) (by simp [q6])
   rw [hw,show eZ (du p)=dR (lN p l[k]) by rw [lN,if_pos (.inr (.inr (.inr q6))),nE,if_neg q1,if_neg q2,if_neg q3]] at this
   exact aA.bZ this ih
  have e1:dR (lN p l[k])= [e6 l[k].kind l[k].op l[k].w l[k].dst l[k].src l[k].base l[k].ai l[k].au l[k].cc l[k].aF l[k].aw l[k].num l[k].to]:=by
   rw [lN,if_neg (by omega)]
   rfl
  rw [e1] at ih
  by_cases q0:l[k].kind=0
  ·have:=L0 p (dR l) outs l.length k hl (by omega) Pd _ _ _ _ _ _ _ _ _ _ _ _ _ hx (b 1 q1) (b 2 q2) (b 3 q3) (b 6 q6) (by simp [q0])
   rw [hw] at this
   exact aA.bZ this ih
  ·have:=L1 p (dR l) outs l.length k hl (by omega) Pd _ _ _ _ _ _ _ _ _ _ _ _ _ hx (b 1 q1) (b 2 q2) (b 3 q3) (b 6 q6) (b 0 q0)
   rw [hw] at this
   exact aA.bZ this ih
abbrev IJ (l:List D):List D:=((.undef)::(.undef)::(.undef)::(.ptr false 0 0)::(un 4++(.aq (.tok 3 0) 13 [])::(un 18++(.aq .no 13 l)::(.int .i64 (l.length:Int))::(.int .i64 0)::(un 72))))
theorem OD (p:ae) (hm:p.may=true) (l:List dp) (hl:l.length≤100) (ha:∀x∈l,x.may=true∧x.ok):aI Tryz.prog 3 (.loop (aC Tryz.f9 0)) (IJ (dR l)) (KS p) (.exit 0) (ND (dR (im p l))) KR:=by
 have:=NC p hm l hl ha l.length 0 [] (by omega) (Nat.le_refl _)
 rw [WW,WH] at this
 have e:IJ (dR l)=LY (dR l) [] l.length 0:=by simp only [IJ,LY,dR,VC];rfl
 rw [e]
 exact aI.bf (by simp) this
abbrev N6 (l outs:List D) (k:Nat):List D:= [.aq .no 13 l,.undef,.undef,.ptr false 0 0,.undef,.undef,.undef,.undef,.aq (.tok 3 0) 13 outs,.int .i64 (k:Int),.undef,.undef,.undef,.undef,.undef,.undef,.undef,.undef,.undef,.undef,.undef,.undef,.undef,.undef,.undef,.undef,.undef,.undef,.undef,.undef,.undef,.undef,.undef,.undef,.undef,.undef,.undef,.undef,.undef,.undef,.undef,.undef,.undef,.undef,.undef,.undef,.undef,.undef,.undef,.undef,.undef,.undef,.undef,.undef,.undef,.undef,.undef,.undef,.undef,.undef,.undef,.undef,.undef,.undef,.undef,.undef,.undef,.undef,.undef,.undef,.undef,.undef,.undef,.undef,.undef,.undef,.undef,.undef,.undef,.undef,.undef,.undef,.undef,.undef,.undef,.undef,.undef,.undef,.undef,.undef,.undef,.undef,.undef,.undef,.undef,.undef]
abbrev MT (outs:List D):List D:= [.undef,.undef,.undef,.undef,.undef,.undef,.undef,.undef,.aq (.tok 3 0) 13 outs,.undef,.undef,.undef,.undef,.undef,.undef,.undef,.undef,.undef,.undef,.undef,.undef,.undef,.undef,.undef,.undef,.undef,.undef,.undef,.undef,.undef,.undef,.undef,.undef,.undef,.undef,.undef,.undef,.undef,.undef,.undef,.undef,.undef,.undef,.undef,.undef,.undef,.undef,.undef,.undef,.undef,.undef,.undef,.undef,.undef,.undef,.undef,.undef,.undef,.undef,.undef,.undef,.undef,.undef,.undef,.undef,.undef,.undef,.undef,.undef,.undef,.undef,.undef,.undef,.undef,.undef,.undef,.undef,.undef,.undef,.undef,.undef,.undef,.undef,.undef,.undef,.undef,.undef,.undef,.undef,.undef,.undef,.undef,.undef,.undef,.undef,.undef]
theorem MS (p:ae) (hm:p.may=true) (l:List dp) (hl:l.length≤100) (ha:∀x∈l,x.may=true∧x.ok):∀(r k:Nat) (outs:List D),k+r=l.length→outs.length≤100*k→
  aA Tryz.prog (aC Tryz.f10 0) 3 (N6 (dR l) outs k) (KS p) (.exit 0) (MT (outs++dR (im p (l.drop k)))) KR
 |0,k,outs,hk,ho=>by
  obtain rfl:k=l.length:=by omega
  have:=HZ p (dR l) outs l.length l.length (VC _) hl (by omega) (Nat.le_refl _)
  rw [Wl,show dR (im p [])= [] from rfl,Wd]
  exact aA.last this (fun h=>by cases h)
 |r+1,k,outs,hk,ho=>by
  have Pd:k<l.length:=by omega
  have hx:=sT Pd
  obtain ⟨hy,Qb⟩:=ha _ (Wr Pd)
  have hd:im p (l.drop k)=lN p l[k]++im p (l.drop (k+1)):=by rw [VT Pd];rfl
  have hw:W3.i64.wrap ((k:Int)+1)=((k+1:Nat):Int):=lO (by omega)
  have hf:=za (p:=p) (x:=l[k])
  have UB:=sg (p:=p) (x:=l[k])
  have hn:(dR l).length=l.length:=VC _
  have ih:=MS p hm l hl ha r (k+1) (outs++dR (lN p l[k])) (by omega) (by rw [Vu,VC];omega)
  rw [V7,← List.map_append,← hd] at ih
  have QZ:l[k].aw≤127:=Qb.2.2.2.2.1
  have b:∀c:Int,l[k].kind≠c→(l[k].kind==c)=false:=fun c h=>by simpa using h
  by_cases q1:l[k].kind=1
  ·obtain ⟨g0,g1,hs⟩:=sP hy (.inl q1)
   have hT:=(nr p hm g0 g1 QZ hs).2
   have:=FD p (dR l) outs l.length k hn hl (by omega) Pd _ _ _ _ _ _ _ _ _ _ _ _ _ hx [ez l[k].aw (p.k l[k].aF) (p.n l[k].aF)] (by simp) (by simp [fX]) (by rw [CI g0 g1];exact hT) (by simp [q1])
   rw [hw,show eZ [ez l[k].aw (p.k l[k].aF) (p.n l[k].aF)]=dR (lN p l[k]) by rw [lN,if_pos (.inl q1),nE,if_pos q1]] at this
   exact aA.bZ this ih
  by_cases q2:l[k].kind=2
  ·obtain ⟨g0,g1,hs⟩:=sP hy (.inr q2)
   have hT:=(ov p hm g0 g1 QZ hs).2
   have TI:=lD (aw:=l[k].aw) (k:=p.k l[k].aF) (n:=p.n l[k].aF)
   have:=FF p (dR l) outs l.length k hn hl (by omega) Pd _ _ _ _ _ _ _ _ _ _ _ _ _ hx (jf l[k].aw (p.k l[k].aF) (p.n l[k].aF)) (by omega) (by rw [ev];omega) (by rw [CI g0 g1];exact hT) (b 1 q1) (by simp [q2])
   rw [hw,show eZ (jf l[k].aw (p.k l[k].aF) (p.n l[k].aF))=dR (lN p l[k]) by rw [lN,if_pos (.inr (.inl q2)),nE,if_neg q1,if_pos q2]] at this
   exact aA.bZ this ih
  by_cases q3:l[k].kind=3
  ·obtain ⟨g0,g1⟩:=He hy q3
   have hT:=(om p hm g0 g1).2
   have:=FE p (dR l) outs l.length k hn hl (by omega) Pd _ _ _ _ _ _ _ _ _ _ _ _ _ hx (Eo p l[k].num) iz (by rw [ev];exact iz) hT (b 1 q1) (b 2 q2) (by simp [q3])
   rw [hw,show eZ (Eo p l[k].num)=dR (lN p l[k]) by rw [lN,if_pos (.inr (.inr (.inl q3))),nE,if_neg q1,if_neg q2,if_pos q3]] at this
   exact aA.bZ this ih
  by_cases q6:l[k].kind=6
  ·have hT:=(oJ p hm).2
   have:=FG p (dR l) outs l.length k hn hl (by omega) Pd _ _ _ _ _ _ _ _ _ _ _ _ _ hx (du p) (by have:=iA (p:=p);omega) (by rw [ev];have:=iA (p:=p);omega) hT (b 1 q1) (b 2 q2) (b 3 q3) (by simp [q6])
   rw [hw,show eZ (du p)=dR (lN p l[k]) by rw [lN,if_pos (.inr (.inr (.inr q6))),nE,if_neg q1,if_neg q2,if_neg q3]] at this
   exact aA.bZ this ih
  have e1:dR (lN p l[k])= [e6 l[k].kind l[k].op l[k].w l[k].dst l[k].src l[k].base l[k].ai l[k].au l[k].cc l[k].aF l[k].aw l[k].num l[k].to]:=by
   rw [lN,if_neg (by omega)]
   rfl
  rw [e1] at ih
  have:=Lr p (dR l) outs l.length k hn hl (by omega) Pd _ _ _ _ _ _ _ _ _ _ _ _ _ hx (b 1 q1) (b 2 q2) (b 3 q3) (b 6 q6)
  rw [hw] at this
  exact aA.bZ this ih
abbrev Lo (l:List D):List D:= [.aq .no 13 l,.undef,.undef,.ptr false 0 0,.undef,.undef,.undef,.undef,.aq (.tok 3 0) 13 [],.int .i64 0,.undef,.undef,.undef,.undef,.undef,.undef,.undef,.undef,.undef,.undef,.undef,.undef,.undef,.undef,.undef,.undef,.undef,.undef,.undef,.undef,.undef,.undef,.undef,.undef,.undef,.undef,.undef,.undef,.undef,.undef,.undef,.undef,.undef,.undef,.undef,.undef,.undef,.undef,.undef,.undef,.undef,.undef,.undef,.undef,.undef,.undef,.undef,.undef,.undef,.undef,.undef,.undef,.undef,.undef,.undef,.undef,.undef,.undef,.undef,.undef,.undef,.undef,.undef,.undef,.undef,.undef,.undef,.undef,.undef,.undef,.undef,.undef,.undef,.undef,.undef,.undef,.undef,.undef,.undef,.undef,.undef,.undef,.undef,.undef,.undef,.undef]
theorem N7 (p:ae) (hm:p.may=true) (l:List dp) (hl:l.length≤100) (ha:∀x∈l,x.may=true∧x.ok):aI Tryz.prog 3 (.loop (aC Tryz.f10 0)) (Lo (dR l)) (KS p) (.exit 0) (MT (dR (im p l))) KR:=by
 have:=MS p hm l hl ha l.length 0 [] (by omega) (Nat.le_refl _)
 rw [WW,WH] at this
 exact aI.bf (by simp) this
theorem zU (p:ae):∀l:List dp,(im p l).length≤100*l.length
 | []=>Nat.le_refl _
 |x::t=>by
  have a:=zU p t
  have b:=za (p:=p) (x:=x)
  rw [show im p (x::t)=lN p x++im p t from rfl,Vu,Vx]
  omega
theorem Mm {k:Nat} (h:k≤10000):W3.i64.wrap ((k:Int)+1)=((k+1:Nat):Int):=by rw [aY];omega
abbrev NZ (l:List D) (k:Nat):List D:= [.aq .no 8 l,.aq .no 8 l,.undef,.undef,.undef,.int .i64 (k:Int),.undef,.undef,.undef,.undef,.undef,.undef,.undef,.undef,.undef,.undef,.undef,.undef,.undef,.undef,.undef,.undef,.undef,.undef,.undef,.undef]
abbrev Ld (l:List D):List D:= [.aq .no 8 l,.aq .no 8 l,.undef,.undef,.undef,.int .i64 0,.undef,.undef,.undef,.undef,.undef,.undef,.undef,.undef,.undef,.undef,.undef,.undef,.undef,.undef,.undef,.undef,.undef,.undef,.undef,.undef]
abbrev MH:List D:= [.undef,.undef,.undef,.undef,.undef,.undef,.undef,.undef,.undef,.undef,.undef,.undef,.undef,.undef,.undef,.undef,.undef,.undef,.undef,.undef,.undef,.undef,.undef,.undef,.undef,.undef]
theorem MG (l:List XS) (hl:l.length≤10000):∀(r k:Nat),k+r=l.length→aA Tryz.prog (aC Tryz.f14 0) 0 (NZ (fX l) k) [] (.exit 0) MH []
 |0,k,hk=>aA.last (HK (fX l) k (by rw [ev];omega) (by rw [ev];omega)) (fun h=>by cases h)
 |r+1,k,hk=>by
  have Pd:k<l.length:=by omega
  have:=Jh (fX l) k (by rw [ev];omega) (by rw [ev];omega) _ _ _ _ _ _ _ _ (qC Pd)
  rw [Mm (by omega)] at this
  exact aA.bZ this (MG l hl r (k+1) (by omega))
theorem N0 (l:List XS) (hl:l.length≤10000):aI Tryz.prog 0 (.loop (aC Tryz.f14 0)) (Ld (fX l)) [] (.exit 0) MH []:=aI.bf (by simp) (MG l hl l.length 0 (by omega))
abbrev N3 (l:List D) (k:Nat):List D:= [.aq .no 13 l,.aq .no 13 l,.undef,.undef,.undef,.int .i64 (k:Int),.undef,.undef,.undef,.undef,.undef,.undef,.undef,.undef,.undef,.undef,.undef,.undef,.undef,.undef,.undef,.undef,.undef,.undef,.undef,.undef]
abbrev Lh (l:List D):List D:= [.aq .no 13 l,.aq .no 13 l,.undef,.undef,.undef,.int .i64 0,.undef,.undef,.undef,.undef,.undef,.undef,.undef,.undef,.undef,.undef,.undef,.undef,.undef,.undef,.undef,.undef,.undef,.undef,.undef,.undef]
abbrev MP:List D:= [.undef,.undef,.undef,.undef,.undef,.undef,.undef,.undef,.undef,.undef,.undef,.undef,.undef,.undef,.undef,.undef,.undef,.undef,.undef,.undef,.undef,.undef,.undef,.undef,.undef,.undef]
theorem MO (l:List dp) (hl:l.length≤10000):∀(r k:Nat),k+r=l.length→aA Tryz.prog (aC Tryz.f11 0) 0 (N3 (dR l) k) [] (.exit 0) MP []
 |0,k,hk=>aA.last (HQ (dR l) k (by rw [VC];omega) (by rw [VC];omega)) (fun h=>by cases h)
 |r+1,k,hk=>by
  have Pd:k<l.length:=by omega
  have:=Jm (dR l) k (by rw [VC];omega) (by rw [VC];omega) _ _ _ _ _ _ _ _ _ _ _ _ _ (sT Pd)
  rw [Mm (by omega)] at this
  exact aA.bZ this (MO l hl r (k+1) (by omega))
theorem N4 (l:List dp) (hl:l.length≤10000):aI Tryz.prog 0 (.loop (aC Tryz.f11 0)) (Lh (dR l)) [] (.exit 0) MP []:=aI.bf (by simp) (MO l hl l.length 0 (by omega))
theorem HJ (l:List XS) (hl:l.length≤10000) (h:(fX l).length≤10000):aJ Tryz.prog 14 ([.aq .no 8 (fX l),.aq .no 8 (fX l)]) (.bool true):=by
 have c0:= @N0 l hl
 exact (Oq (d:= .bool true) [tC (nt (beq_self_eq_true ((↑(VD (fX l)):Int)))),.head ⟨[0,1,5],[],[]⟩ _ _ _ _ _ _ _ c0] (by kernel_rfl)).to (by simp [wk,ay,aB])
theorem HP (l:List dp) (hl:l.length≤10000) (h:(dR l).length≤10000):aJ Tryz.prog 11 ([.aq .no 13 (dR l),.aq .no 13 (dR l)]) (.bool true):=by
 have c0:= @N4 l hl
 exact (Ot (d:= .bool true) [tC (nt (beq_self_eq_true ((↑(VD (dR l)):Int)))),.head ⟨[0,1,5],[],[]⟩ _ _ _ _ _ _ _ c0] (by kernel_rfl)).to (by simp [wk,ay,aB])
theorem B7 (p:ae) (l:List dp) (hl:l.length≤100) (RF:(dR l).length≤100) (j:Int) (hC:aJ Tryz.prog 35 [.aq .no 13 (dR l)] (.aQ [.int .i64 j,.int .i64 2])):aJ Tryz.prog 9 ([.aq .no 13 (dR l),.agg (aP p)]) (.aQ [.aq .tight 0 [],.int .i64 2]):=by
 exact (o9 (d:= .aQ [.aq .tight 0 [],.int .i64 2]) [.ret _ _ _ hC,tF,tF,tF,tT,tT] (by kernel_rfl)).to (by simp [wk,ay,aB])
theorem B6 (p:ae) (l:List dp) (hl:l.length≤100) (RF:(dR l).length≤100) (j:Int) (hC:aJ Tryz.prog 35 [.aq .no 13 (dR l)] (.aQ [.int .i64 j,.int .i64 0])) (hM:aJ Tryz.prog 28 [.agg (aP p)] (.bool false)):aJ Tryz.prog 9 ([.aq .no 13 (dR l),.agg (aP p)]) (.aQ [.aq .tight 0 [],.int .i64 2]):=by
 exact (o9 (d:= .aQ [.aq .tight 0 [],.int .i64 2]) [.ret _ _ _ hC,tT,tT,.ret _ _ _ hM,tT,tF,tT] (by kernel_rfl)).to (by simp [wk,ay,aB])
theorem B5 (p:ae) (l:List dp) (hl:l.length≤100) (RF:(dR l).length≤100) (hm:p.may=true) (ha:∀x∈l,x.may=true∧x.ok) (j:Int) (hC:aJ Tryz.prog 35 [.aq .no 13 (dR l)] (.aQ [.int .i64 j,.int .i64 0])) (hM:aJ Tryz.prog 28 [.agg (aP p)] (.bool true)):aJ Tryz.prog 9 ([.aq .no 13 (dR l),.agg (aP p)]) (.aQ [.aq (.fresh 13) 13 (dR (im p l)),.int .i64 0]):=by
 have c0:= @OD p hm l hl ha
 exact (o9 (d:= .aQ [.aq (.fresh 13) 13 (dR (im p l)),.int .i64 0]) [.ret _ _ _ hC,tT,tT,.ret _ _ _ hM,tT,tF,tF,.head ⟨[3,27,28,29],[0],[(8,13)]⟩ _ _ _ _ _ _ _ c0] (by kernel_rfl)).to (by simp [wk,ay,aB])
theorem xP (p:ae) (l:List dp) (hl:l.length≤100) (RF:(dR l).length≤100) (j:Int) (hC:aJ Tryz.prog 37 [.aq .no 13 (dR l)] (.aQ [.int .i64 j,.int .i64 2])):aJ Tryz.prog 10 ([.aq .no 13 (dR l),.agg (aP p)]) (.aQ [.aq .tight 0 [],.int .i64 2]):=by
 exact (Gv (d:= .aQ [.aq .tight 0 [],.int .i64 2]) [.ret _ _ _ hC,tF,tF,tF,tT,tT] (by kernel_rfl)).to (by simp [wk,ay,aB])
theorem xO (p:ae) (l:List dp) (hl:l.length≤100) (RF:(dR l).length≤100) (j:Int) (hC:aJ Tryz.prog 37 [.aq .no 13 (dR l)] (.aQ [.int .i64 j,.int .i64 0])) (hM:aJ Tryz.prog 23 [.agg (aP p)] (.bool false)):aJ Tryz.prog 10 ([.aq .no 13 (dR l),.agg (aP p)]) (.aQ [.aq .tight 0 [],.int .i64 2]):=by
 exact (Gv (d:= .aQ [.aq .tight 0 [],.int .i64 2]) [.ret _ _ _ hC,tT,tT,.ret _ _ _ hM,tT,tF,tT] (by kernel_rfl)).to (by simp [wk,ay,aB])
theorem xN (p:ae) (l:List dp) (hl:l.length≤100) (RF:(dR l).length≤100) (hm:p.may=true) (ha:∀x∈l,x.may=true∧x.ok) (j:Int) (hC:aJ Tryz.prog 37 [.aq .no 13 (dR l)] (.aQ [.int .i64 j,.int .i64 0])) (hM:aJ Tryz.prog 23 [.agg (aP p)] (.bool true)):aJ Tryz.prog 10 ([.aq .no 13 (dR l),.agg (aP p)]) (.aQ [.aq (.fresh 13) 13 (dR (im p l)),.int .i64 0]):=by
 have c0:= @N7 p hm l hl ha
 exact (Gv (d:= .aQ [.aq (.fresh 13) 13 (dR (im p l)),.int .i64 0]) [.ret _ _ _ hC,tT,tT,.ret _ _ _ hM,tT,tF,tF,.head ⟨[0,3,9],[0],[(8,13)]⟩ _ _ _ _ _ _ _ c0] (by kernel_rfl)).to (by simp [wk,ay,aB])
abbrev KM (f:Nat) (args:List D) (xs:List dp) (e:Int):Prop:=aJ Tryz.prog f args (.aQ [.aq .no 13 (dR xs),.int .i64 e])
theorem Gz {e:Int} :wk (.aQ [.aq .tight 0 [],.int .i64 e]) (.aQ [.aq .no 13 (dR []),.int .i64 e]):=by exact ⟨⟨rfl,.inr rfl,trivial,.inl rfl⟩,rfl,trivial⟩
theorem Ft (p:ae) (hm:p.may=true) (l:List dp) (hl:l.length≤100) (ho:hE l) (hb:iV l=none):KM 9 [.aq .no 13 (dR l),.agg (aP p)] (im p l) 0∧KM 10 [.aq .no 13 (dR l),.agg (aP p)] (im p l) 0:=by
 have h2:(dR l).length≤100:=by rw [VC];exact hl
 have ha:∀x∈l,x.may=true∧x.ok:=fun x hx=>⟨EP hb x hx,ho x hx⟩
 refine ⟨(B5 p l hl h2 hm ha 0 (wL l (by rw [VC];omega) ho hb) (Am hm)).to ?_,(xN p l hl h2 hm ha 0 (p6 l (by rw [VC];omega) ho hb) (qf hm)).to ?_⟩<;>exact ⟨⟨rfl,.inl rfl,trivial,.inr rfl⟩,rfl,trivial⟩
theorem C3 (p:ae) (l:List dp) (hl:l.length≤100) (ho:hE l):∃(xs:List dp) (e:Int),xs.length≤10000∧KM 9 [.aq .no 13 (dR l),.agg (aP p)] xs e∧KM 10 [.aq .no 13 (dR l),.agg (aP p)] xs e:=by
 have h2:(dR l).length≤100:=by rw [VC];exact hl
 cases hb:iV l with
 |some j=>exact ⟨[],2,by simp,(B7 p l hl h2 j (EH l (by rw [VC];omega) ho j hb)).to Gz,(xP p l hl h2 j (Bf l (by rw [VC];omega) ho j hb)).to Gz⟩
 |none=>
  cases hm:p.may with
  |true=>exact ⟨im p l,0,by have:=zU p l;omega,Ft p hm l hl ho hb⟩
  |false=>exact ⟨[],2,by simp,(B6 p l hl h2 0 (wL l (by rw [VC];omega) ho hb) (sO hm)).to Gz,(xO p l hl h2 0 (p6 l (by rw [VC];omega) ho hb) (l0 hm)).to Gz⟩
theorem nk:aJ Tryz.prog 8 ([]) (.bool true):=by
 exact (aJ.ao (d:= .bool true) mixed Tryz.func8 (by kernel_rfl) ([.inl,.inl,tT,tT,tT,tT,tT,tT,tT,tT,tT,.inl,.inl,.inl,tT,tT]++ [tT,tT,tT,tT,tT,tT,tT,.get ([D.fn (Fn.func 120) [] [],D.fn (Fn.func 117) [] [],D.fn (Fn.func 117) [] [],D.fn (Fn.func 123) [] [],D.fn (Fn.func 124) [] [.ptr false 4 0],D.fn (Fn.func 119) [] [],D.fn (Fn.func 126) [] []]) 1 (D.fn (Fn.func 117) [] []) rfl,tT,.inl,.inl,tT,tT,tT,tT,tT]++ [tT,tT,tT,tT,.inl,tT,.inl,.inl,.go 64,tT,tT,.get ([.int .i8 0,.int .i8 1,.int .i8 2,.int .i8 11]) 0 (.int .i8 0) rfl,tT,tT,tT,.get ([.int .i8 0,.int .i8 1,.int .i8 2,.int .i8 11]) 1 (.int .i8 1) rfl]++ [tT,tT,tT,.get ([.int .i8 0,.int .i8 1,.int .i8 2,.int .i8 11]) 2 (.int .i8 2) rfl,tT,tT,tT,.get ([.int .i8 0,.int .i8 1,.int .i8 2,.int .i8 11]) 3 (.int .i8 11) rfl,tT,tF,tT,tT,tT,tT,tT,tT]++ [tT,tT,tT,tT,tT,tT,tT,.flat _ _ cf,tT,tT,tT,tT,tT,tT,.inl,.go 64]++ [tT,tT,.bc ([.int .i8 0,.int .i8 0,.int .i8 0,.int .i8 0,.int .i8 2,.int .i8 0,.int .i8 2,.int .i8 1,.int .i8 0,.int .i8 0,.int .i8 0,.int .i8 0,.int .i8 0,.int .i8 0,.int .i8 0,.int .i8 0,.int .i8 0,.int .i8 0,.int .i8 0,.int .i8 0,.int .i8 0,.int .i8 0]) 0 2 ([.int .i8 0,.int .i8 0]) ⟨rfl,by first|decide|simp⟩,.flat _ _ bQ,tF,tF,tF,tF,tF,tF,tF,tF,tF,tF,tF,tF]++ [tF,tF,tT,tT,.bc ([.int .i8 0,.int .i8 0,.int .i8 0,.int .i8 0,.int .i8 2,.int .i8 0,.int .i8 2,.int .i8 1,.int .i8 0,.int .i8 0,.int .i8 0,.int .i8 0,.int .i8 0,.int .i8 0,.int .i8 0,.int .i8 0,.int .i8 0,.int .i8 0,.int .i8 0,.int .i8 0,.int .i8 0,.int .i8 0]) 2 2 ([.int .i8 0,.int .i8 0]) ⟨rfl,by first|decide|simp⟩,.flat _ _ bQ,tF,tF,tF,tF,tF,tF,tF,tF,tF,tF]++ [tF,tF,tF,tF,tT,tT,.bc ([.int .i8 0,.int .i8 0,.int .i8 0,.int .i8 0,.int .i8 2,.int .i8 0,.int .i8 2,.int .i8 1,.int .i8 0,.int .i8 0,.int .i8 0,.int .i8 0,.int .i8 0,.int .i8 0,.int .i8 0,.int .i8 0,.int .i8 0,.int .i8 0,.int .i8 0,.int .i8 0,.int .i8 0,.int .i8 0]) 4 2 ([.int .i8 2,.int .i8 0]) ⟨rfl,by first|decide|simp⟩,.flat _ _ bQ,tT,tT,.inl,tF,tF,tF,tF,tF]++ [tF,tT,tT,tT,tT,tT,tT,tT,tT,tT,tT,tT,tT,tT,tT,tT]++ [tT,tT,tT,tT,tF,tT,tT,.bc ([.int .i8 0,.int .i8 0,.int .i8 0,.int .i8 0,.int .i8 2,.int .i8 0,.int .i8 2,.int .i8 1,.int .i8 0,.int .i8 0,.int .i8 0,.int .i8 0,.int .i8 0,.int .i8 0,.int .i8 0,.int .i8 0,.int .i8 0,.int .i8 0,.int .i8 0,.int .i8 0,.int .i8 0,.int .i8 0]) 6 2 ([.int .i8 2,.int .i8 1]) ⟨rfl,by first|decide|simp⟩,.flat _ _ bQ,tT,tT,.inl,tF,tF,tF,tF]++ [tF,tF,tT,tT,tT,tT,tT,tT,tT,tT,tT,tT,tT,tT,tT,tT]++ [tT,tT,tT,tT,tT,tF,tT,tT,.bc ([.int .i8 0,.int .i8 0,.int .i8 0,.int .i8 0,.int .i8 2,.int .i8 0,.int .i8 2,.int .i8 1,.int .i8 0,.int .i8 0,.int .i8 0,.int .i8 0,.int .i8 0,.int .i8 0,.int .i8 0,.int .i8 0,.int .i8 0,.int .i8 0,.int .i8 0,.int .i8 0,.int .i8 0,.int .i8 0]) 8 2 ([.int .i8 0,.int .i8 0]) ⟨rfl,by first|decide|simp⟩,.flat _ _ bQ,tF,tF,tF,tF,tF,tF]++ [tF,tF,tF,tF,tF,tF,tF,tF,tT,tT,.bc ([.int .i8 0,.int .i8 0,.int .i8 0,.int .i8 0,.int .i8 2,.int .i8 0,.int .i8 2,.int .i8 1,.int .i8 0,.int .i8 0,.int .i8 0,.int .i8 0,.int .i8 0,.int .i8 0,.int .i8 0,.int .i8 0,.int .i8 0,.int .i8 0,.int .i8 0,.int .i8 0,.int .i8 0,.int .i8 0]) 10 2 ([.int .i8 0,.int .i8 0]) ⟨rfl,by first|decide|simp⟩,.flat _ _ bQ,tF,tF,tF,tF]++ [tF,tF,tF,tF,tF,tF,tF,tF,tF,tF,tT,tT,.bc ([.int .i8 0,.int .i8 0,.int .i8 0,.int .i8 0,.int .i8 2,.int .i8 0,.int .i8 2,.int .i8 1,.int .i8 0,.int .i8 0,.int .i8 0,.int .i8 0,.int .i8 0,.int .i8 0,.int .i8 0,.int .i8 0,.int .i8 0,.int .i8 0,.int .i8 0,.int .i8 0,.int .i8 0,.int .i8 0]) 12 2 ([.int .i8 0,.int .i8 0]) ⟨rfl,by first|decide|simp⟩,.flat _ _ bQ,tF,tF]++ [tF,tF,tF,tF,tF,tF,tF,tF,tF,tF,tF,tF,tT,tT,.bc ([.int .i8 0,.int .i8 0,.int .i8 0,.int .i8 0,.int .i8 2,.int .i8 0,.int .i8 2,.int .i8 1,.int .i8 0,.int .i8 0,.int .i8 0,.int .i8 0,.int .i8 0,.int .i8 0,.int .i8 0,.int .i8 0,.int .i8 0,.int .i8 0,.int .i8 0,.int .i8 0,.int .i8 0,.int .i8 0]) 14 2 ([.int .i8 0,.int .i8 0]) ⟨rfl,by first|decide|simp⟩,.flat _ _ bQ]++ [tF,tF,tF,tF,tF,tF,tF,tF,tF,tF,tF,tF,tF,tF,tT,tT]++ [.bc ([.int .i8 0,.int .i8 0,.int .i8 0,.int .i8 0,.int .i8 2,.int .i8 0,.int .i8 2,.int .i8 1,.int .i8 0,.int .i8 0,.int .i8 0,.int .i8 0,.int .i8 0,.int .i8 0,.int .i8 0,.int .i8 0,.int .i8 0,.int .i8 0,.int .i8 0,.int .i8 0,.int .i8 0,.int .i8 0]) 16 2 ([.int .i8 0,.int .i8 0]) ⟨rfl,by first|decide|simp⟩,.flat _ _ bQ,tF,tF,tF,tF,tF,tF,tF,tF,tF,tF,tF,tF,tF,tF]++ [tT,tT,.bc ([.int .i8 0,.int .i8 0,.int .i8 0,.int .i8 0,.int .i8 2,.int .i8 0,.int .i8 2,.int .i8 1,.int .i8 0,.int .i8 0,.int .i8 0,.int .i8 0,.int .i8 0,.int .i8 0,.int .i8 0,.int .i8 0,.int .i8 0,.int .i8 0,.int .i8 0,.int .i8 0,.int .i8 0,.int .i8 0]) 18 2 ([.int .i8 0,.int .i8 0]) ⟨rfl,by first|decide|simp⟩,.flat _ _ bQ,tF,tF,tF,tF,tF,tF,tF,tF,tF,tF,tF,tF]++ [tF,tF,tT,tT,.bc ([.int .i8 0,.int .i8 0,.int .i8 0,.int .i8 0,.int .i8 2,.int .i8 0,.int .i8 2,.int .i8 1,.int .i8 0,.int .i8 0,.int .i8 0,.int .i8 0,.int .i8 0,.int .i8 0,.int .i8 0,.int .i8 0,.int .i8 0,.int .i8 0,.int .i8 0,.int .i8 0,.int .i8 0,.int .i8 0]) 20 2 ([.int .i8 0,.int .i8 0]) ⟨rfl,by first|decide|simp⟩,.flat _ _ bQ,tF,tF,tF,tF,tF,tF,tF,tF,tF,tF]++ [tF,tF,tF,tF,tF,tT,tF,tT,.bc ([.int .i8 0,.int .i8 0,.int .i8 0,.int .i8 0,.int .i8 2,.int .i8 0,.int .i8 2,.int .i8 1,.int .i8 0,.int .i8 0,.int .i8 0,.int .i8 0,.int .i8 0,.int .i8 0,.int .i8 0,.int .i8 0,.int .i8 0,.int .i8 0,.int .i8 0,.int .i8 0,.int .i8 0,.int .i8 0]) 6 2 ([.int .i8 2,.int .i8 1]) ⟨rfl,by first|decide|simp⟩,.inl,tF,tT,tT,tT,tT,tT]++ [tT,tT,.get ([(xD 26 64 0 0 4 8 0 0)]) 0 ((xD 26 64 0 0 4 8 0 0)) rfl,tT,tT,tT,.flat _ _ cD,tT]) (by kernel_rfl)).to (by simp [wk])
theorem y8 (p:ae) (l:List D) (aF num aw:Int) (d0:List D) (e0:Int) (d1:List D) (e1:Int) (d2:List D) (e2:Int) (d3:List D) (e3:Int) (d4:List D) (e4:Int) (d5:List D) (e5:Int) (h:100<l.length):aJ Tryz.prog 3 ([.aq .no 13 l,.agg (aP p),.int .i64 aF,.int .i64 num,.int .i8 aw]) (.bool true):=by
 have c0:= @nk
 exact (o3 (d:= .bool true) [tC (fh 100 (by ((try simp only [Vu,Vx,Vy,dD,aY,decide_eq_true_eq,decide_eq_false_iff_not,beq_iff_eq,bne_iff_ne,beq_eq_false_iff_ne] at*);omega):(decide ((↑(VD l):Int)<101))=false)),.ret _ _ _ c0] (by kernel_rfl)).to (by simp [wk])
theorem GK (p:ae) (l:List D) (aF num aw:Int) (d0:List D) (e0:Int) (d1:List D) (e1:Int) (d2:List D) (e2:Int) (d3:List D) (e3:Int) (d4:List D) (e4:Int) (d5:List D) (e5:Int) (h:l.length≤100) (ha0:aJ Tryz.prog 9 [.aq .no 13 l,.agg (aP p)] (.aQ [.aq .no 13 d0,.int .i64 e0])) (TM:aJ Tryz.prog 10 [.aq .no 13 l,.agg (aP p)] (.aQ [.aq .no 13 d0,.int .i64 e0])) (Tv:aJ Tryz.prog 11 [.aq .no 13 d0,.aq .no 13 d0] (.bool true)) (UP:aJ Tryz.prog 12 [.int .i64 aF,.int .i8 aw,.agg (aP p)] (.aQ [.aq .no 8 d1,.int .i64 e1])) (RJ:aJ Tryz.prog 13 [.int .i64 aF,.int .i8 aw,.agg (aP p)] (.aQ [.aq .no 8 d1,.int .i64 e1])) (R7:aJ Tryz.prog 14 [.aq .no 8 d1,.aq .no 8 d1] (.bool true)) (ha2:aJ Tryz.prog 15 [.int .i64 aF,.int .i8 aw,.agg (aP p)] (.aQ [.aq .no 8 d2,.int .i64 e2])) (SZ:aJ Tryz.prog 16 [.int .i64 aF,.int .i8 aw,.agg (aP p)] (.aQ [.aq .no 8 d2,.int .i64 e2])) (Q2:aJ Tryz.prog 14 [.aq .no 8 d2,.aq .no 8 d2] (.bool true)) (ha3:aJ Tryz.prog 17 [.int .i64 num,.agg (aP p)] (.aQ [.aq .no 8 d3,.int .i64 e3])) (Vo:aJ Tryz.prog 18 [.int .i64 num,.agg (aP p)] (.aQ [.aq .no 8 d3,.int .i64 e3])) (hs3:aJ Tryz.prog 14 [.aq .no 8 d3,.aq .no 8 d3] (.bool true)) (ha4:aJ Tryz.prog 19 [.agg (aP p)] (.aQ [.aq .no 8 d4,.int .i64 e4])) (hb4:aJ Tryz.prog 20 [.agg (aP p)] (.aQ [.aq .no 8 d4,.int .i64 e4])) (T5:aJ Tryz.prog 14 [.aq .no 8 d4,.aq .no 8 d4] (.bool true)) (ha5:aJ Tryz.prog 21 [.agg (aP p)] (.aQ [.aq .no 8 d5,.int .i64 e5])) (hb5:aJ Tryz.prog 22 [.agg (aP p)] (.aQ [.aq .no 8 d5,.int .i64 e5])) (hs5:aJ Tryz.prog 14 [.aq .no 8 d5,.aq .no 8 d5] (.bool true)):aJ Tryz.prog 3 ([.aq .no 13 l,.agg (aP p),.int .i64 aF,.int .i64 num,.int .i8 aw]) (.bool true):=by
 have c0:= @nk
 exact (o3 (d:= .bool true) ([tC (fh 100 (by ((try simp only [Vu,Vx,Vy,dD,aY,decide_eq_true_eq,decide_eq_false_iff_not,beq_iff_eq,bne_iff_ne,beq_eq_false_iff_ne] at*);omega):(decide ((↑(VD l):Int)<101))=true)),.ret _ _ _ ha0,.ret _ _ _ TM]++Vt 3 (tC (eF (nt (beq_self_eq_true e0))))++ [.ret _ _ _ Tv,tC (eF (nt (beq_self_eq_true e0))),tC (nt (beq_self_eq_true e0)),tF,.ret _ _ _ UP,.ret _ _ _ RJ]++Vt 3 (tC (eF (nt (beq_self_eq_true e1))))++ [.ret _ _ _ R7,tC (eF (nt (beq_self_eq_true e1))),tC (nt (beq_self_eq_true e1)),tF,.ret _ _ _ ha2,.ret _ _ _ SZ]++Vt 3 (tC (eF (nt (beq_self_eq_true e2))))++ [.ret _ _ _ Q2,tC (eF (nt (beq_self_eq_true e2))),tC (nt (beq_self_eq_true e2)),tF,.ret _ _ _ ha3,.ret _ _ _ Vo]++Vt 3 (tC (eF (nt (beq_self_eq_true e3))))++ [.ret _ _ _ hs3,tC (eF (nt (beq_self_eq_true e3))),tC (nt (beq_self_eq_true e3)),tF,.ret _ _ _ ha4,.ret _ _ _ hb4]++Vt 3 (tC (eF (nt (beq_self_eq_true e4))))++ [.ret _ _ _ T5,tC (eF (nt (beq_self_eq_true e4))),tC (nt (beq_self_eq_true e4)),tF,.ret _ _ _ ha5,.ret _ _ _ hb5]++Vt 3 (tC (eT (beq_self_eq_true e5)))++ [.ret _ _ _ hs5,tC (beq_self_eq_true e5),tT,.ret _ _ _ c0,tT]) (by kernel_rfl)).to (by simp [wk])
theorem AW (p:ae) (l:List dp) (ho:hE l) (hlen:(dR l).length≤9223372036854775807) (aF num aw:Int) (QZ:aw≤127):aJ Tryz.prog 3 [.aq .no 13 (dR l),.agg (aP p),.int .i64 aF,.int .i64 num,.int .i8 aw] (.bool true):=by
 by_cases hl:(dR l).length≤100
 ·have P8:l.length≤100:=by rw [VC] at hl;exact hl
  obtain ⟨x0,e0,n0,a0,b0⟩:=C3 p l P8 ho
  obtain ⟨x1,e1,n1,a1,b1⟩:=AX p aF aw QZ
  obtain ⟨x2,e2,n2,a2,b2⟩:=B1 p aF aw QZ
  obtain ⟨x3,e3,n3,a3,b3⟩:=BV p num
  obtain ⟨x4,e4,n4,a4,b4⟩:=Cn p
  obtain ⟨x5,e5,n5,a5,b5⟩:=Dw p
  have s:∀x:List XS,x.length≤100→aJ Tryz.prog 14 [.aq .no 8 (fX x),.aq .no 8 (fX x)] (.bool true):=fun x h=>HJ x (by omega) (by rw [ev];omega)
  exact GK p (dR l) aF num aw _ e0 _ e1 _ e2 _ e3 _ e4 _ e5 hl a0 b0 (HP x0 n0 (by rw [VC];exact n0)) a1 b1 (s x1 n1) a2 b2 (s x2 n2) a3 b3 (s x3 n3) a4 b4 (s x4 n4) a5 b5 (s x5 n5)
 ·exact y8 p (dR l) aF num aw [] 0 [] 0 [] 0 [] 0 [] 0 [] 0 (by omega)
end Go.Proofs.YtkpneibifdoecaaGreat
