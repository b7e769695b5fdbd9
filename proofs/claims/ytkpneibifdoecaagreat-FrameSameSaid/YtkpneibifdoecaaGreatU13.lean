import Derived.WalkKit
import Derived.IntWalk
import Derived.KernelRfl
import Derived.LoopN
import Derived.Test.YtkpneibifdoecaaGreatU05
import Derived.Test.YtkpneibifdoecaaGreatU06
import Derived.Test.YtkpneibifdoecaaGreatU11
import Derived.Test.YtkpneibifdoecaaGreatU12
open List renaming replicate→Vc,length→Vt,getElem?_map→VC
open Go.Fn renaming func→Ve
open BitVec renaming ofInt→Vh,toNat→Vy
open Bool renaming eq_iff_iff→Vn,and_true→VH,false_and→VL,and_false→VN,true_and→VO,and_eq_false_iff→WE
open Go renaming IntKind→WO
/- Contracts and plain laws that a statement's proof leans on (texts merged:I0,I1H,I1,I2,XB0,NumA,XB1,XB2a,XB2b). -/
set_option linter.unusedVariables false
set_option linter.unusedSimpArgs false
set_option maxRecDepth 100000
set_option maxHeartbeats 8000000
namespace Go.Proofs.YtkpneibifdoecaaGreat
open Go Go.Ev
def LF:List D:= [.fn (.func 129) [] [],.fn (.func 126) [] [],.fn (.func 126) [] [],.fn (.func 132) [] [],.fn (.func 133) [] [.ptr false 2 0],.fn (.func 128) [] [],.fn (.func 134) [] []]
theorem oO:aZ Tryz.prog 122 ([]) (.int .i64 2055):=by
 exact (KQ (d:= .int .i64 2055) [.inl,.go 64,tT,tT,.get ([.int .i8 0,.int .i8 1,.int .i8 2,.int .i8 11]) 0 (.int .i8 0) rfl,tT,tT,tT,.get ([.int .i8 0,.int .i8 1,.int .i8 2,.int .i8 11]) 1 (.int .i8 1) rfl,tT,tT,tT,.get ([.int .i8 0,.int .i8 1,.int .i8 2,.int .i8 11]) 2 (.int .i8 2) rfl,tT,tT,tT,.get ([.int .i8 0,.int .i8 1,.int .i8 2,.int .i8 11]) 3 (.int .i8 11) rfl,tT,tF] (by kernel_rfl)).to (by rfl)
theorem kQ (n:Int) (hn:n≤127):aZ Tryz.prog 118 ([.int .i8 n]) (.bool (eY n)):=by
 rcases de (decide (n<0)) with h0|h0
 ·exact (Jf (d:= .bool false) (Vc 5 (tC (eT (bk 0 h0)))++ [tC (bk 0 h0)]) (by kernel_rfl)).to (by exact dq (Fa h0))
 have c1:= @oO
 exact (Jf (d:= .bool (WO.i64.wrap (↑(Vy (Vh (64:Nat) (Int.fdiv 2055 (2^min (Int.toNat n) (64:Nat)))&&&Vh (64:Nat) 1)):Int)==1)) [tC (eT (bk 0 h0)),.ret _ _ _ c1,tC (eT (bk 0 h0)),tC (eT (bk 0 h0)),tC (v:=true) (bk 0 h0),tC (eT (bk 0 h0)),tC (eT (bk 0 h0)),tC (bk 0 h0)] (by kernel_rfl)).to (by exact dq (wW h0 hn))
def qq (Pf:Int):Prop:= ∀(op w dst src base aa ai cc aP aC num to:Int) (ho:op≤127) (hc:cc≤127) (hp:aC≤127) (g0: -128≤aP) (g1:aP≤127),aZ Tryz.prog 61 ([dJ Pf op w dst src base aa ai cc aP aC num to]) (.bool (jK Pf op w dst src base aa ai cc aP aC num to))
theorem Bo:qq 0:=by
 intro op w dst src base aa ai cc aP aC num to ho hc hp g0 g1
 let E1:EL:=([.inl,.inl]++Vc 9 tT++ [.get ([D.fn (Ve 120) [] [],D.fn (Ve 117) [] [],D.fn (Ve 117) [] [],D.fn (Ve 123) [] [],D.fn (Ve 124) [] [.ptr false 2 0],D.fn (Ve 119) [] [],D.fn (Ve 126) [] []]) 0 (D.fn (Ve 120) [] []) rfl,tT,.inl])
 rcases de (aA op w dst src base aa ai cc) with k0|k0
 ·rcases de (decide (op<28)) with k1|k1
  ·rcases de (sL op w dst src base aa ai cc) with k2|k2
   ·have c3:= @eh op w dst src base aa ai cc ho
    have c4:= @aY op w dst src base aa ai cc ho
    have c5:= @aE op w dst src base aa ai cc ho
    have c6:= @oO
    exact (j8 (d:= .bool (ae [.int .i8 0,.int .i8 0,.int .i8 0,.int .i8 0,.int .i8 0,.int .i8 0,.int .i64 0,.int .i64 0,.int .i8 0,.int .i8 aP,.int .i8 aC,.int .i64 num,.int .i64 to] [.int .i8 0,.int .i8 0,.int .i8 0,.int .i8 0,.int .i8 0,.int .i8 0,.int .i64 0,.int .i64 0,.int .i8 0,.int .i8 0,.int .i8 0,.int .i64 0,.int .i64 0])) (E1++ [.ret _ _ _ c3,.ret _ _ _ c4,.ret _ _ _ c5]++Vc 6 (tC (eT k0))++ [tC k0,tC (eT k1),tC (eT k1),.ret _ _ _ c6,tC (eT k1),tC (eT k1),tC k1,tT]++Vc 5 (tC (eT (cu 0 true (eq_of_beq (@GJ op w dst src base aa ai cc k2)))))++ [.flat _ _ hU,tC (cu 0 true (eq_of_beq (@GJ op w dst src base aa ai cc k2)))]) (by kernel_rfl)).to (by clear E1;simp only [wk,D.bool.injEq,bH,iX,cP,k0,k1,k2,VO,VL,VH,VN];rw [Vn];simp only [qu,bH] at*;done)
   have c7:= @eh op w dst src base aa ai cc ho
   have c8:= @aY op w dst src base aa ai cc ho
   have c9:= @aE op w dst src base aa ai cc ho
   have Pg:= @oO
   exact (j8 (d:= .bool false) (E1++ [.ret _ _ _ c7,.ret _ _ _ c8,.ret _ _ _ c9]++Vc 6 (tC (eT k0))++ [tC k0,tC (eT k1),tC (eT k1),.ret _ _ _ Pg,tC (eT k1),tC (eT k1),tC k1,tT]++Vc 5 (tC (eT (@GK op w dst src base aa ai cc k2)))++ [tC (@GK op w dst src base aa ai cc k2)]) (by kernel_rfl)).to (by simp only [wk,D.bool.injEq,bH,iX,cP,k0,k1,k2,VO,VL,VH,VN];done)
  rcases de (sL op w dst src base aa ai cc) with S6|S6
  ·have T3:= @eh op w dst src base aa ai cc ho
   have Pr:= @aY op w dst src base aa ai cc ho
   have Rk:= @aE op w dst src base aa ai cc ho
   exact (j8 (d:= .bool false) (E1++ [.ret _ _ _ T3,.ret _ _ _ Pr,.ret _ _ _ Rk]++Vc 6 (tC (eT k0))++ [tC k0]++Vc 4 (tC (eT k1))++ [tC k1,tT,tF,tF,tF,tF,tF,tF]) (by kernel_rfl)).to (by simp only [wk,D.bool.injEq,bH,iX,cP,k0,k1,S6,VO,VL,VH,VN];done)
  have T8:= @eh op w dst src base aa ai cc ho
  have PQ:= @aY op w dst src base aa ai cc ho
  have TA:= @aE op w dst src base aa ai cc ho
  exact (j8 (d:= .bool false) (E1++ [.ret _ _ _ T8,.ret _ _ _ PQ,.ret _ _ _ TA]++Vc 6 (tC (eT k0))++ [tC k0]++Vc 4 (tC (eT k1))++ [tC k1,tT,tF,tF,tF,tF,tF,tF]) (by kernel_rfl)).to (by simp only [wk,D.bool.injEq,bH,iX,cP,k0,k1,S6,VO,VL,VH,VN];done)
 rcases de (decide (op<28)) with k18|k18
 ·rcases de (sL op w dst src base aa ai cc) with k19|k19
  ·have Sq:= @eh op w dst src base aa ai cc ho
   have Te:= @aY op w dst src base aa ai cc ho
   have R4:= @aE op w dst src base aa ai cc ho
   exact (j8 (d:= .bool false) (E1++ [.ret _ _ _ Sq,.ret _ _ _ Te,.ret _ _ _ R4]++Vc 6 (tC (eT k0))++ [tC k0,tF,tF,tF,tF,tF,tT,tF,tF,tF,tF,tF,tF]) (by kernel_rfl)).to (by simp only [wk,D.bool.injEq,bH,iX,cP,k0,k18,k19,VO,VL,VH,VN];done)
  have QS:= @eh op w dst src base aa ai cc ho
  have QV:= @aY op w dst src base aa ai cc ho
  have RW:= @aE op w dst src base aa ai cc ho
  exact (j8 (d:= .bool false) (E1++ [.ret _ _ _ QS,.ret _ _ _ QV,.ret _ _ _ RW]++Vc 6 (tC (eT k0))++ [tC k0,tF,tF,tF,tF,tF,tT,tF,tF,tF,tF,tF,tF]) (by kernel_rfl)).to (by simp only [wk,D.bool.injEq,bH,iX,cP,k0,k18,k19,VO,VL,VH,VN];done)
 rcases de (sL op w dst src base aa ai cc) with k26|k26
 ·have Qz:= @eh op w dst src base aa ai cc ho
  have TQ:= @aY op w dst src base aa ai cc ho
  have SP:= @aE op w dst src base aa ai cc ho
  exact (j8 (d:= .bool false) (E1++ [.ret _ _ _ Qz,.ret _ _ _ TQ,.ret _ _ _ SP]++Vc 6 (tC (eT k0))++ [tC k0,tF,tF,tF,tF,tF,tT,tF,tF,tF,tF,tF,tF]) (by kernel_rfl)).to (by simp only [wk,D.bool.injEq,bH,iX,cP,k0,k18,k26,VO,VL,VH,VN];done)
 have R8:= @eh op w dst src base aa ai cc ho
 have R9:= @aY op w dst src base aa ai cc ho
 have Uv:= @aE op w dst src base aa ai cc ho
 exact (j8 (d:= .bool false) (E1++ [.ret _ _ _ R8,.ret _ _ _ R9,.ret _ _ _ Uv]++Vc 6 (tC (eT k0))++ [tC k0,tF,tF,tF,tF,tF,tT,tF,tF,tF,tF,tF,tF]) (by kernel_rfl)).to (by simp only [wk,D.bool.injEq,bH,iX,cP,k0,k18,k26,VO,VL,VH,VN];done)
theorem Bn:qq 1:=by
 intro op w dst src base aa ai cc aP aC num to ho hc hp g0 g1
 let E1:EL:=([.inl,.inl]++Vc 9 tT++ [.get ([D.fn (Ve 120) [] [],D.fn (Ve 117) [] [],D.fn (Ve 117) [] [],D.fn (Ve 123) [] [],D.fn (Ve 124) [] [.ptr false 2 0],D.fn (Ve 119) [] [],D.fn (Ve 126) [] []]) 1 (D.fn (Ve 117) [] []) rfl,tT,.inl,.inl])
 rcases de (eY aC) with k0|k0
 ·rcases de (decide (WO.wrap WO.i64 aP<0)) with h1|h1
  ·exact (j8 (d:= .bool false) (E1++Vc 3 (tC (eT (bk 0 h1)))++ [tC (bk 0 h1),tF,tF,tF,tF,tF,tF,tT,tF,tF,tF,tF,tF,tF]) (by kernel_rfl)).to (by clear E1;simp only [wk,D.bool.injEq,bH,lP,cP,k0,h1,VO,VL,VH,VN];rw [Vn];simp only [qu,bH] at*;omega)
  rcases de (decide (WO.wrap WO.i64 aP<11)) with h2|h2
  ·have c3:= @kQ aC hp
   exact (j8 (d:= .bool (ae [.int .i8 1,.int .i8 op,.int .i8 w,.int .i8 dst,.int .i8 src,.int .i8 base,.int .i64 aa,.int .i64 ai,.int .i8 cc,.int .i8 0,.int .i8 0,.int .i64 num,.int .i64 to] [.int .i8 1,.int .i8 0,.int .i8 0,.int .i8 0,.int .i8 0,.int .i8 0,.int .i64 0,.int .i64 0,.int .i8 0,.int .i8 0,.int .i8 0,.int .i64 0,.int .i64 0])) (E1++Vc 3 (tC (eT (bk 0 h1)))++ [tC (bk 0 h1)]++Vc 5 (tC (eT (cY 10 h2)))++ [.ret _ _ _ c3,tC (cY 10 h2),tT]++Vc 5 (tC (eT k0))++ [.flat _ _ hU,tC k0]) (by kernel_rfl)).to (by clear E1;simp only [wk,D.bool.injEq,bH,lP,cP,k0,h1,h2,VO,VL,VH,VN];rw [Vn];simp only [qu,bH] at*;omega)
  exact (j8 (d:= .bool false) (E1++Vc 3 (tC (eT (bk 0 h1)))++ [tC (bk 0 h1)]++Vc 5 (tC (eT (cY 10 h2)))++ [tC (cY 10 h2),tT,tF,tF,tF,tF,tF,tF]) (by kernel_rfl)).to (by clear E1;simp only [wk,D.bool.injEq,bH,lP,cP,k0,h1,h2,VO,VL,VH,VN];rw [Vn];simp only [qu,bH] at*;omega)
 rcases de (decide (WO.wrap WO.i64 aP<0)) with h4|h4
 ·exact (j8 (d:= .bool false) (E1++Vc 3 (tC (eT (bk 0 h4)))++ [tC (bk 0 h4),tF,tF,tF,tF,tF,tF,tT,tF,tF,tF,tF,tF,tF]) (by kernel_rfl)).to (by simp only [wk,D.bool.injEq,bH,lP,cP,k0,h4,VO,VL,VH,VN];done)
 rcases de (decide (WO.wrap WO.i64 aP<11)) with h5|h5
 ·have c6:= @kQ aC hp
  exact (j8 (d:= .bool false) (E1++Vc 3 (tC (eT (bk 0 h4)))++ [tC (bk 0 h4)]++Vc 5 (tC (eT (cY 10 h5)))++ [.ret _ _ _ c6,tC (cY 10 h5),tT]++Vc 5 (tC (eT k0))++ [tC k0]) (by kernel_rfl)).to (by simp only [wk,D.bool.injEq,bH,lP,cP,k0,h4,h5,VO,VL,VH,VN];done)
 exact (j8 (d:= .bool false) (E1++Vc 3 (tC (eT (bk 0 h4)))++ [tC (bk 0 h4)]++Vc 5 (tC (eT (cY 10 h5)))++ [tC (cY 10 h5),tT,tF,tF,tF,tF,tF,tF]) (by kernel_rfl)).to (by simp only [wk,D.bool.injEq,bH,lP,cP,k0,h4,h5,VO,VL,VH,VN];done)
theorem Bm:qq 2:=by
 intro op w dst src base aa ai cc aP aC num to ho hc hp g0 g1
 let E1:EL:=([.inl,.inl]++Vc 9 tT++ [.get ([D.fn (Ve 120) [] [],D.fn (Ve 117) [] [],D.fn (Ve 117) [] [],D.fn (Ve 123) [] [],D.fn (Ve 124) [] [.ptr false 2 0],D.fn (Ve 119) [] [],D.fn (Ve 126) [] []]) 2 (D.fn (Ve 117) [] []) rfl,tT,.inl,.inl])
 rcases de (eY aC) with k0|k0
 ·rcases de (decide (WO.wrap WO.i64 aP<0)) with h1|h1
  ·exact (j8 (d:= .bool false) (E1++Vc 3 (tC (eT (bk 0 h1)))++ [tC (bk 0 h1),tF,tF,tF,tF,tF,tF,tT,tF,tF,tF,tF,tF,tF]) (by kernel_rfl)).to (by clear E1;simp only [wk,D.bool.injEq,bH,lO,cP,k0,h1,VO,VL,VH,VN];rw [Vn];simp only [qu,bH] at*;omega)
  rcases de (decide (WO.wrap WO.i64 aP<11)) with h2|h2
  ·have c3:= @kQ aC hp
   exact (j8 (d:= .bool (ae [.int .i8 2,.int .i8 op,.int .i8 w,.int .i8 dst,.int .i8 src,.int .i8 base,.int .i64 aa,.int .i64 ai,.int .i8 cc,.int .i8 0,.int .i8 0,.int .i64 num,.int .i64 to] [.int .i8 2,.int .i8 0,.int .i8 0,.int .i8 0,.int .i8 0,.int .i8 0,.int .i64 0,.int .i64 0,.int .i8 0,.int .i8 0,.int .i8 0,.int .i64 0,.int .i64 0])) (E1++Vc 3 (tC (eT (bk 0 h1)))++ [tC (bk 0 h1)]++Vc 5 (tC (eT (cY 10 h2)))++ [.ret _ _ _ c3,tC (cY 10 h2),tT]++Vc 5 (tC (eT k0))++ [.flat _ _ hU,tC k0]) (by kernel_rfl)).to (by clear E1;simp only [wk,D.bool.injEq,bH,lO,cP,k0,h1,h2,VO,VL,VH,VN];rw [Vn];simp only [qu,bH] at*;omega)
  exact (j8 (d:= .bool false) (E1++Vc 3 (tC (eT (bk 0 h1)))++ [tC (bk 0 h1)]++Vc 5 (tC (eT (cY 10 h2)))++ [tC (cY 10 h2),tT,tF,tF,tF,tF,tF,tF]) (by kernel_rfl)).to (by clear E1;simp only [wk,D.bool.injEq,bH,lO,cP,k0,h1,h2,VO,VL,VH,VN];rw [Vn];simp only [qu,bH] at*;omega)
 rcases de (decide (WO.wrap WO.i64 aP<0)) with h4|h4
 ·exact (j8 (d:= .bool false) (E1++Vc 3 (tC (eT (bk 0 h4)))++ [tC (bk 0 h4),tF,tF,tF,tF,tF,tF,tT,tF,tF,tF,tF,tF,tF]) (by kernel_rfl)).to (by simp only [wk,D.bool.injEq,bH,lO,cP,k0,h4,VO,VL,VH,VN];done)
 rcases de (decide (WO.wrap WO.i64 aP<11)) with h5|h5
 ·have c6:= @kQ aC hp
  exact (j8 (d:= .bool false) (E1++Vc 3 (tC (eT (bk 0 h4)))++ [tC (bk 0 h4)]++Vc 5 (tC (eT (cY 10 h5)))++ [.ret _ _ _ c6,tC (cY 10 h5),tT]++Vc 5 (tC (eT k0))++ [tC k0]) (by kernel_rfl)).to (by simp only [wk,D.bool.injEq,bH,lO,cP,k0,h4,h5,VO,VL,VH,VN];done)
 exact (j8 (d:= .bool false) (E1++Vc 3 (tC (eT (bk 0 h4)))++ [tC (bk 0 h4)]++Vc 5 (tC (eT (cY 10 h5)))++ [tC (cY 10 h5),tT,tF,tF,tF,tF,tF,tF]) (by kernel_rfl)).to (by simp only [wk,D.bool.injEq,bH,lO,cP,k0,h4,h5,VO,VL,VH,VN];done)
theorem Bl:qq 3:=by
 intro op w dst src base aa ai cc aP aC num to ho hc hp g0 g1
 let E1:EL:=([.inl,.inl]++Vc 9 tT++ [.get ([D.fn (Ve 120) [] [],D.fn (Ve 117) [] [],D.fn (Ve 117) [] [],D.fn (Ve 123) [] [],D.fn (Ve 124) [] [.ptr false 2 0],D.fn (Ve 119) [] [],D.fn (Ve 126) [] []]) 3 (D.fn (Ve 123) [] []) rfl,tT,.inl,.inl])
 rcases de (decide (num<0)) with h0|h0
 ·exact (j8 (d:= .bool false) (E1++Vc 3 (tC (eT (bk 0 h0)))++ [tC (bk 0 h0),tT,tF,tF,tF,tF,tF,tF]) (by kernel_rfl)).to (by clear E1;simp only [wk,D.bool.injEq,bH,sW,cP,h0,VO,VL,VH,VN];rw [Vn];simp only [qu,bH] at*;omega)
 rcases de (decide (num<16)) with h1|h1
 ·exact (j8 (d:= .bool (ae [.int .i8 3,.int .i8 op,.int .i8 w,.int .i8 dst,.int .i8 src,.int .i8 base,.int .i64 aa,.int .i64 ai,.int .i8 cc,.int .i8 aP,.int .i8 aC,.int .i64 0,.int .i64 to] [.int .i8 3,.int .i8 0,.int .i8 0,.int .i8 0,.int .i8 0,.int .i8 0,.int .i64 0,.int .i64 0,.int .i8 0,.int .i8 0,.int .i8 0,.int .i64 0,.int .i64 0])) (E1++Vc 3 (tC (eT (bk 0 h0)))++ [tC (bk 0 h0),tT]++Vc 5 (tC (eT (cY 15 h1)))++ [.flat _ _ hU,tC (cY 15 h1)]) (by kernel_rfl)).to (by clear E1;simp only [wk,D.bool.injEq,bH,sW,cP,h0,h1,VO,VL,VH,VN];rw [Vn];simp only [qu,bH] at*;omega)
 exact (j8 (d:= .bool false) (E1++Vc 3 (tC (eT (bk 0 h0)))++ [tC (bk 0 h0),tT]++Vc 5 (tC (eT (cY 15 h1)))++ [tC (cY 15 h1)]) (by kernel_rfl)).to (by clear E1;simp only [wk,D.bool.injEq,bH,sW,cP,h0,h1,VO,VL,VH,VN];rw [Vn];simp only [qu,bH] at*;omega)
theorem Bk:qq 4:=by
 intro op w dst src base aa ai cc aP aC num to ho hc hp g0 g1
 let E1:EL:=([.inl,.inl]++Vc 9 tT++ [.get ([D.fn (Ve 120) [] [],D.fn (Ve 117) [] [],D.fn (Ve 117) [] [],D.fn (Ve 123) [] [],D.fn (Ve 124) [] [.ptr false 2 0],D.fn (Ve 119) [] [],D.fn (Ve 126) [] []]) 4 (D.fn (Ve 124) [] [.ptr false 2 0]) rfl,tT,.inl,.flat _ _ dP])
 rcases de (ae [.int .i8 op,.int .i8 w,.int .i8 dst,.int .i8 src,.int .i8 base,.int .i64 aa,.int .i64 ai,.int .i8 cc] [.int .i8 29,.int .i8 0,.int .i8 0,.int .i8 0,.int .i8 0,.int .i64 0,.int .i64 0,.int .i8 cc]) with h0|h0
 ·have c1:= @vV cc
  let E2:EL:=E1++Vc 6 (tC (eT h0))++ [.ret _ _ _ c1,tC h0,.inl,.inl]
  rcases de (decide (to<0)) with h2|h2
  ·exact (j8 (d:= .bool false) (E2++Vc 3 (tC (eT (bk 0 h2)))++ [tC (bk 0 h2),tF,tF,tT,tF,tF,tF,tF,tF,tF]) (by kernel_rfl)).to (by clear E1 E2;simp only [wk,D.bool.injEq,bH,lN,cP,h0,h2,VO,VL,VH,VN];first|done|rfl|(rw [Vn];simp only [qu,bH,ae,ak,beq_self_eq_true,WE,VH] at*;first|done|omega|(intro hh;omega)|(simp;done)|(intro hh;simp at hh;omega)|(constructor<;>intro hh<;>omega)))
  let E3:EL:=E2++Vc 3 (tC (eT (bk 0 h2)))++ [tC (bk 0 h2)]
  rcases de (decide (to<65)) with h3|h3
  ·rcases de (bb cc) with h4|h4
   ·exact (j8 (d:= .bool (ae [.int .i8 4,.int .i8 0,.int .i8 0,.int .i8 0,.int .i8 0,.int .i8 0,.int .i64 0,.int .i64 0,.int .i8 0,.int .i8 aP,.int .i8 aC,.int .i64 num,.int .i64 0] [.int .i8 4,.int .i8 0,.int .i8 0,.int .i8 0,.int .i8 0,.int .i8 0,.int .i64 0,.int .i64 0,.int .i8 0,.int .i8 0,.int .i8 0,.int .i64 0,.int .i64 0])) (E3++ [tC (eT (cY 64 h3)),tC (cY 64 h3),tT]++Vc 5 (tC (eT h4))++ [.flat _ _ hU,tC h4]) (by kernel_rfl)).to (by clear E1 E2 E3;simp only [wk,D.bool.injEq,bH,lN,cP,h0,h2,h3,h4,VO,VL,VH,VN];first|done|rfl|(rw [Vn];simp only [qu,bH,ae,ak,beq_self_eq_true,WE,VH] at*;first|done|omega|(intro hh;omega)|(simp;done)|(intro hh;simp at hh;omega)|(constructor<;>intro hh<;>omega)))
   exact (j8 (d:= .bool false) (E3++ [tC (eT (cY 64 h3)),tC (cY 64 h3),tT]++Vc 5 (tC (eT h4))++ [tC h4]) (by kernel_rfl)).to (by clear E1 E2 E3;simp only [wk,D.bool.injEq,bH,lN,cP,h0,h2,h3,h4,VO,VL,VH,VN];first|done|rfl|(rw [Vn];simp only [qu,bH,ae,ak,beq_self_eq_true,WE,VH] at*;first|done|omega|(intro hh;omega)|(simp;done)|(intro hh;simp at hh;omega)|(constructor<;>intro hh<;>omega)))
  exact (j8 (d:= .bool false) (E3++ [tC (eT (cY 64 h3)),tC (cY 64 h3),tT,tF,tF,tF,tF,tF,tF]) (by kernel_rfl)).to (by clear E1 E2 E3;simp only [wk,D.bool.injEq,bH,lN,cP,h0,h2,h3,VO,VL,VH,VN];first|done|rfl|(rw [Vn];simp only [qu,bH,ae,ak,beq_self_eq_true,WE,VH] at*;first|done|omega|(intro hh;omega)|(simp;done)|(intro hh;simp at hh;omega)|(constructor<;>intro hh<;>omega)))
 let E4:EL:=E1++Vc 6 (tC (eT h0))++ [tC h0,.inl,.inl]
 rcases de (decide (to<0)) with h5|h5
 ·exact (j8 (d:= .bool false) (E4++Vc 3 (tC (eT (bk 0 h5)))++ [tC (bk 0 h5),tF,tF,tT,tF,tF,tF,tF,tF,tF]) (by kernel_rfl)).to (by clear E1 E4;simp only [wk,D.bool.injEq,bH,lN,cP,h0,h5,VO,VL,VH,VN];first|done|rfl|(rw [Vn];simp only [qu,bH,ae,ak,beq_self_eq_true,WE,VH] at*;first|done|omega|(intro hh;omega)|(simp;done)|(intro hh;simp at hh;omega)|(constructor<;>intro hh<;>omega)))
 rcases de (decide (to<65)) with h6|h6
 ·exact (j8 (d:= .bool false) (E4++Vc 3 (tC (eT (bk 0 h5)))++ [tC (bk 0 h5),tC (eT (cY 64 h6)),tC (cY 64 h6),tT,tF,tF,tF,tF,tF,tF]) (by kernel_rfl)).to (by clear E1 E4;simp only [wk,D.bool.injEq,bH,lN,cP,h0,h5,h6,VO,VL,VH,VN];first|done|rfl|(rw [Vn];simp only [qu,bH,ae,ak,beq_self_eq_true,WE,VH] at*;first|done|omega|(intro hh;omega)|(simp;done)|(intro hh;simp at hh;omega)|(constructor<;>intro hh<;>omega)))
 exact (j8 (d:= .bool false) (E4++Vc 3 (tC (eT (bk 0 h5)))++ [tC (bk 0 h5),tC (eT (cY 64 h6)),tC (cY 64 h6),tT,tF,tF,tF,tF,tF,tF]) (by kernel_rfl)).to (by clear E1 E4;simp only [wk,D.bool.injEq,bH,lN,cP,h0,h5,h6,VO,VL,VH,VN];first|done|rfl|(rw [Vn];simp only [qu,bH,ae,ak,beq_self_eq_true,WE,VH] at*;first|done|omega|(intro hh;omega)|(simp;done)|(intro hh;simp at hh;omega)|(constructor<;>intro hh<;>omega)))
theorem Bj:qq 5:=by
 intro op w dst src base aa ai cc aP aC num to ho hc hp g0 g1
 let E1:EL:=([.inl,.inl]++Vc 9 tT++ [.get ([D.fn (Ve 120) [] [],D.fn (Ve 117) [] [],D.fn (Ve 117) [] [],D.fn (Ve 123) [] [],D.fn (Ve 124) [] [.ptr false 2 0],D.fn (Ve 119) [] [],D.fn (Ve 126) [] []]) 5 (D.fn (Ve 119) [] []) rfl,tT,.inl,.inl])
 rcases de (decide (to<0)) with h0|h0
 ·exact (j8 (d:= .bool false) (E1++Vc 3 (tC (eT (bk 0 h0)))++ [tC (bk 0 h0),tT,tF,tF,tF,tF,tF,tF]) (by kernel_rfl)).to (by clear E1;simp only [wk,D.bool.injEq,bH,xO,cP,h0,VO,VL,VH,VN];rw [Vn];simp only [qu,bH] at*;omega)
 rcases de (decide (to<65)) with h1|h1
 ·exact (j8 (d:= .bool (ae [.int .i8 5,.int .i8 op,.int .i8 w,.int .i8 dst,.int .i8 src,.int .i8 base,.int .i64 aa,.int .i64 ai,.int .i8 cc,.int .i8 aP,.int .i8 aC,.int .i64 num,.int .i64 0] [.int .i8 5,.int .i8 0,.int .i8 0,.int .i8 0,.int .i8 0,.int .i8 0,.int .i64 0,.int .i64 0,.int .i8 0,.int .i8 0,.int .i8 0,.int .i64 0,.int .i64 0])) (E1++Vc 3 (tC (eT (bk 0 h0)))++ [tC (bk 0 h0),tT]++Vc 5 (tC (eT (cY 64 h1)))++ [.flat _ _ hU,tC (cY 64 h1)]) (by kernel_rfl)).to (by clear E1;simp only [wk,D.bool.injEq,bH,xO,cP,h0,h1,VO,VL,VH,VN];rw [Vn];simp only [qu,bH] at*;omega)
 exact (j8 (d:= .bool false) (E1++Vc 3 (tC (eT (bk 0 h0)))++ [tC (bk 0 h0),tT]++Vc 5 (tC (eT (cY 64 h1)))++ [tC (cY 64 h1)]) (by kernel_rfl)).to (by clear E1;simp only [wk,D.bool.injEq,bH,xO,cP,h0,h1,VO,VL,VH,VN];rw [Vn];simp only [qu,bH] at*;omega)
theorem Bi:qq 6:=by
 intro op w dst src base aa ai cc aP aC num to ho hc hp g0 g1
 exact (j8 (d:= .bool (ae [.int .i8 6,.int .i8 op,.int .i8 w,.int .i8 dst,.int .i8 src,.int .i8 base,.int .i64 aa,.int .i64 ai,.int .i8 cc,.int .i8 aP,.int .i8 aC,.int .i64 num,.int .i64 to] [.int .i8 6,.int .i8 0,.int .i8 0,.int .i8 0,.int .i8 0,.int .i8 0,.int .i64 0,.int .i64 0,.int .i8 0,.int .i8 0,.int .i8 0,.int .i64 0,.int .i64 0])) ([.inl,.inl]++Vc 9 tT++ [.get ([D.fn (Ve 120) [] [],D.fn (Ve 117) [] [],D.fn (Ve 117) [] [],D.fn (Ve 123) [] [],D.fn (Ve 124) [] [.ptr false 2 0],D.fn (Ve 119) [] [],D.fn (Ve 126) [] []]) 6 (D.fn (Ve 126) [] []) rfl,tT,.inl,tT,tT,tT,tT,tT,tT,.flat _ _ hU,tT]) (by kernel_rfl)).to (by simp only [wk,D.bool.injEq,bH,HG,cP,VO,VL,VH,VN];rw [Vn];simp only [qu,bH] at*;omega)
theorem xZ (kind op w dst src base aa ai cc aP aC num to:Int) (h:kind<0) (h2: -128≤kind):aZ Tryz.prog 61 ([dJ kind op w dst src base aa ai cc aP aC num to]) (.bool false):=by
 exact (j8 (d:= .bool false) ([.inl,.inl]++Vc 3 (tC (eT (bk 0 (by (simp only [cf] at*;omega):(decide (WO.wrap WO.i64 kind<0))=true))))++ [tC (bk 0 (by (simp only [cf] at*;omega):(decide (WO.wrap WO.i64 kind<0))=true))]++Vc 12 tF) (by kernel_rfl)).to (by simp [wk])
theorem x0 (kind op w dst src base aa ai cc aP aC num to:Int) (h:7≤kind) (h2:kind≤127):aZ Tryz.prog 61 ([dJ kind op w dst src base aa ai cc aP aC num to]) (.bool false):=by
 exact (j8 (d:= .bool false) ([.inl,.inl]++Vc 3 (tC (eT (bk 0 (by (simp only [cf] at*;omega):(decide (WO.wrap WO.i64 kind<0))=false))))++ [tC (bk 0 (by (simp only [cf] at*;omega):(decide (WO.wrap WO.i64 kind<0))=false))]++Vc 5 (tC (eT (cY 6 (by (simp only [cf] at*;omega):(decide (WO.wrap WO.i64 kind<7))=false))))++ [tC (cY 6 (by (simp only [cf] at*;omega):(decide (WO.wrap WO.i64 kind<7))=false)),tF,tF,tF,tF,tF,tF]) (by kernel_rfl)).to (by simp [wk])
theorem jr (kind op w dst src base aa ai cc aP aC num to:Int) (k0: -128≤kind) (k1:kind≤127):aZ Tryz.prog 58 ([dJ kind op w dst src base aa ai cc aP aC num to]) (.bool (eH kind op)):=by
 rcases de (decide (WO.wrap WO.i64 kind<3)) with h0|h0
 ·let E1:EL:=([.inl]++Vc 3 (tC (eT (bk 3 h0)))++ [tC (bk 3 h0),tT,tT,tT,tT])
  by_cases h1:kind=0
  ·subst h1
   by_cases h2:op=26
   ·subst h2
    exact (I7 (d:= .bool true) (E1++ [tT,tT,tT,tT,tT,tF,tF,tF,tF,tT,tT,tT,tT,tF]) (by kernel_rfl)).to (by clear E1;first|exact ke (by assumption)|(apply dq;unfold eH;first|rfl|(simp;done)|skip;simp only [aH,beq_iff_eq,beq_eq_false_iff_ne,ne_eq,decide_eq_true_eq,decide_eq_false_iff_not] at*;first|(symm;rw [decide_eq_true_eq];omega)|(symm;rw [decide_eq_false_iff_not];omega)|(rw [Vn];simp only [beq_iff_eq,decide_eq_true_eq];omega)))
   exact (I7 (d:= .bool (op==27)) (E1++ [tT,tT,tT,tT,tT]++Vc 4 (tC (eF (aL h2)))++ [tT,tC (aL h2),tT,tT,tF]) (by kernel_rfl)).to (by clear E1;first|exact ke (by assumption)|(apply dq;unfold eH;first|rfl|(simp;done)|skip;simp only [aH,beq_iff_eq,beq_eq_false_iff_ne,ne_eq,decide_eq_true_eq,decide_eq_false_iff_not] at*;first|(symm;rw [decide_eq_true_eq];omega)|(symm;rw [decide_eq_false_iff_not];omega)|(rw [Vn];simp only [beq_iff_eq,decide_eq_true_eq];omega)))
  exact (I7 (d:= .bool false) (E1++Vc 6 (tC (eT (aL h1)))++ [tT,tC (aL h1),tF]) (by kernel_rfl)).to (by clear E1;first|exact ke (by assumption)|(apply dq;unfold eH;first|rfl|(simp;done)|skip;simp only [aH,beq_iff_eq,beq_eq_false_iff_ne,ne_eq,decide_eq_true_eq,decide_eq_false_iff_not] at*;first|(symm;rw [decide_eq_true_eq];omega)|(symm;rw [decide_eq_false_iff_not];omega)|(rw [Vn];simp only [beq_iff_eq,decide_eq_true_eq];omega)))
 rcases de (decide (WO.wrap WO.i64 kind<7)) with h3|h3
 ·exact (I7 (d:= .bool true) ([.inl]++Vc 3 (tC (eT (bk 3 h0)))++ [tC (bk 3 h0)]++Vc 5 (tC (eF (cY 6 h3)))++ [tC (cY 6 h3)]) (by kernel_rfl)).to (by first|exact ke (by assumption)|(apply dq;unfold eH;first|rfl|(simp;done)|skip;simp only [aH,beq_iff_eq,beq_eq_false_iff_ne,ne_eq,decide_eq_true_eq,decide_eq_false_iff_not] at*;first|(symm;rw [decide_eq_true_eq];omega)|(symm;rw [decide_eq_false_iff_not];omega)|(rw [Vn];simp only [beq_iff_eq,decide_eq_true_eq];omega)))
 exact (I7 (d:= .bool false) ([.inl]++Vc 3 (tC (eT (bk 3 h0)))++ [tC (bk 3 h0)]++Vc 4 (tC (eF (cY 6 h3)))++Vc 6 (tC (eT (by (simp only [cf] at*;omega):(kind==0)=false)))++ [tC (eF (cY 6 h3)),tC (by (simp only [cf] at*;omega):(kind==0)=false),tC (cY 6 h3)]) (by kernel_rfl)).to (by first|exact ke (by assumption)|(apply dq;unfold eH;first|rfl|(simp;done)|skip;simp only [aH,beq_iff_eq,beq_eq_false_iff_ne,ne_eq,decide_eq_true_eq,decide_eq_false_iff_not] at*;first|(symm;rw [decide_eq_true_eq];omega)|(symm;rw [decide_eq_false_iff_not];omega)|(rw [Vn];simp only [beq_iff_eq,decide_eq_true_eq];omega)))
theorem rp (kind op w dst src base aa ai cc aP aC num to:Int) (a0: -128≤kind) (a1:kind≤127) (ho:op≤127) (hc:cc≤127) (hp:aC≤127) (g0: -128≤aP) (g1:aP≤127):
  aZ Tryz.prog 61 [dJ kind op w dst src base aa ai cc aP aC num to] (.bool (jK kind op w dst src base aa ai cc aP aC num to)):=by
 by_cases h:0≤kind∧kind≤6
 ·have hk:kind=0∨kind=1∨kind=2∨kind=3∨kind=4∨kind=5∨kind=6:=by omega
  rcases hk with rfl|rfl|rfl|rfl|rfl|rfl|rfl
  ·exact Bo _ _ _ _ _ _ _ _ _ _ _ _ ho hc hp g0 g1
  ·exact Bn _ _ _ _ _ _ _ _ _ _ _ _ ho hc hp g0 g1
  ·exact Bm _ _ _ _ _ _ _ _ _ _ _ _ ho hc hp g0 g1
  ·exact Bl _ _ _ _ _ _ _ _ _ _ _ _ ho hc hp g0 g1
  ·exact Bk _ _ _ _ _ _ _ _ _ _ _ _ ho hc hp g0 g1
  ·exact Bj _ _ _ _ _ _ _ _ _ _ _ _ ho hc hp g0 g1
  ·exact Bi _ _ _ _ _ _ _ _ _ _ _ _ ho hc hp g0 g1
 ·have e:jK kind op w dst src base aa ai cc aP aC num to=false:=by
   unfold jK
   rw [if_neg (by omega),if_neg (by omega),if_neg (by omega),if_neg (by omega),if_neg (by omega),if_neg (by omega)]
  rw [e]
  by_cases h2:kind<0
  ·exact xZ _ _ _ _ _ _ _ _ _ _ _ _ _ h2 a0
  ·exact x0 _ _ _ _ _ _ _ _ _ _ _ _ _ (by omega) a1
theorem DU (l:List D) (k:Nat) (hb:l.length≤9223372036854775807) (hk:l.length≤k):ao Tryz.prog (aI Tryz.f59 0) ⟨[],[],[]⟩ 0 [.aj .no 13 l,D.fn (Ve (60:FuncId)) [] [],uu,uu,uu,uu,uu,.int .i64 (↑(Vt l):Int),.int .i64 (↑k:Int),uu,uu,uu,uu,uu,uu,uu,uu,uu,uu] [] (.exit 0) [uu,uu,uu,uu,uu,uu,uu,uu,uu,uu,uu,uu,uu,uu,uu,uu,uu,uu,uu] ([]):=by
 exact (ao.aw (sp:=⟨[],[],[]⟩) (n0:=0) (ex:=Ex.exit (0:Nat)) (t':= [uu,uu,uu,uu,uu,uu,uu,uu,uu,uu,uu,uu,uu,uu,uu,uu,uu,uu,uu]) (s':= []) mixed [tC (by (simp only [cf] at*;omega):(decide ((↑k:Int)<(↑(Vt l):Int)))=false)] (by kernel_rfl)).cast (by rfl) (by rfl)
theorem DT (l:List D) (k:Nat) (hb:l.length≤9223372036854775807) (hk:k<l.length) (kind op w dst src base aa ai cc aP aC num to:Int) (a0: -128≤kind) (a1:kind≤127) (ho:op≤127) (hc:cc≤127) (hp:aC≤127) (g0: -128≤aP) (g1:aP≤127) (hx:l[k]? =some (dJ kind op w dst src base aa ai cc aP aC num to)) (he:jK kind op w dst src base aa ai cc aP aC num to=true):ao Tryz.prog (aI Tryz.f59 0) ⟨[0,1,7,8],[],[]⟩ 0 [.aj .no 13 l,D.fn (Ve (60:FuncId)) [] [],uu,uu,uu,uu,uu,.int .i64 (↑(Vt l):Int),.int .i64 (↑k:Int),uu,uu,uu,uu,uu,uu,uu,uu,uu,uu] [] .norm [.aj .no 13 l,D.fn (Ve (60:FuncId)) [] [],uu,uu,uu,uu,uu,.int .i64 (↑(Vt l):Int),.int .i64 (↑(k+(1:Nat)):Int),uu,uu,uu,uu,uu,uu,uu,uu,uu,uu] ([]):=by
 have c0:= @rp kind op w dst src base aa ai cc aP aC num to a0 a1 ho hc hp g0 g1
 exact (ao.aw (sp:=⟨[0,1,7,8],[],[]⟩) (n0:=0) (ex:=Ex.norm) (t':= [.aj .no 13 l,D.fn (Ve (60:FuncId)) [] [],uu,uu,uu,uu,uu,.int .i64 (↑(Vt l):Int),.int .i64 (WO.i64.wrap ((↑k:Int)+1)),uu,uu,uu,uu,uu,uu,uu,uu,uu,uu]) (s':= []) mixed [tC (by (simp only [cf] at*;omega):(decide ((↑k:Int)<(↑(Vt l):Int)))=true),tT,.get _ _ _ hx,.inl,.ret _ _ _ c0,tC (nt he)] (by kernel_rfl)).cast (by first|rfl|(congr;rw [aH];omega)) (by first|rfl|(congr;rw [aH];omega))
theorem F9 (l:List D) (k:Nat) (hb:l.length≤9223372036854775807) (hk:k<l.length) (kind op w dst src base aa ai cc aP aC num to:Int) (a0: -128≤kind) (a1:kind≤127) (ho:op≤127) (hc:cc≤127) (hp:aC≤127) (g0: -128≤aP) (g1:aP≤127) (hx:l[k]? =some (dJ kind op w dst src base aa ai cc aP aC num to)) (he:jK kind op w dst src base aa ai cc aP aC num to=false):ao Tryz.prog (aI Tryz.f59 0) ⟨[4],[],[]⟩ 0 [.aj .no 13 l,D.fn (Ve (60:FuncId)) [] [],uu,uu,uu,uu,uu,.int .i64 (↑(Vt l):Int),.int .i64 (↑k:Int),uu,uu,uu,uu,uu,uu,uu,uu,uu,uu] [] (Ex.ret) [uu,uu,uu,uu,.int .i64 (↑k:Int),uu,uu,uu,uu,uu,uu,uu,uu,uu,uu,uu,uu,uu,uu] ([]):=by
 have c0:= @rp kind op w dst src base aa ai cc aP aC num to a0 a1 ho hc hp g0 g1
 exact (ao.aw (sp:=⟨[4],[],[]⟩) (n0:=0) (ex:=Ex.ret) (t':= [uu,uu,uu,uu,.int .i64 (↑k:Int),uu,uu,uu,uu,uu,uu,uu,uu,uu,uu,uu,uu,uu,uu]) (s':= []) mixed [tC (by (simp only [cf] at*;omega):(decide ((↑k:Int)<(↑(Vt l):Int)))=true),tT,.get _ _ _ hx,.inl,.ret _ _ _ c0,tC (nt he)] (by kernel_rfl)).cast (by rfl) (by rfl)
theorem Bs (l:List cd) (hb:(l.map cd.d).length≤9223372036854775807) (ho:fQ l) (hm:iI l=none):
  aU Tryz.prog 0 (.loop (aI Tryz.f59 0)) [.aj .no 13 (l.map cd.d),.fn (Ve 60) [] [],.undef,.undef,.undef,.undef,.undef,.int .i64 ((l.map cd.d).length:Int),.int .i64 0,.undef,.undef,.undef,.undef,.undef,.undef,.undef,.undef,.undef,.undef] [] (.exit 0) [.undef,.undef,.undef,.undef,.undef,.undef,.undef,.undef,.undef,.undef,.undef,.undef,.undef,.undef,.undef,.undef,.undef,.undef,.undef] []:=by
 have PM:∀s∈l,s.may=true:=by
  unfold iI at hm
  rw [List.findIdx?_eq_none_iff] at hm
  intro s hs
  simpa using hm s hs
 have key:∀(n k:Nat),n+k=l.length→aF Tryz.prog (aI Tryz.f59 0) 0 [.aj .no 13 (l.map cd.d),.fn (Ve 60) [] [],.undef,.undef,.undef,.undef,.undef,.int .i64 ((l.map cd.d).length:Int),.int .i64 (k:Int),.undef,.undef,.undef,.undef,.undef,.undef,.undef,.undef,.undef,.undef] [] (.exit 0) [.undef,.undef,.undef,.undef,.undef,.undef,.undef,.undef,.undef,.undef,.undef,.undef,.undef,.undef,.undef,.undef,.undef,.undef,.undef] []:=by
  intro n
  induction n with
  |zero=>
   intro k hk
   exact aF.last (DU (l.map cd.d) k hb (by simp;omega)) (by simp)
  |succ n ih=>
   intro k hk
   have hx:l[k]? =some l[k]:=by simp
   obtain ⟨a0,a1,PX,hc,hp,g0,g1⟩:=ho _ (List.getElem_mem (show k<l.length by omega))
   exact aF.cG (DT (l.map cd.d) k hb (by simp;omega) _ _ _ _ _ _ _ _ _ _ _ _ _ a0 a1 PX hc hp g0 g1 (get_map hx) (PM _ (List.getElem_mem (show k<l.length by omega)))) (ih (k+1) (by omega))
 exact aU.bA (by decide) (key l.length 0 (by omega))
theorem Br (l:List cd) (j:Nat) (hb:(l.map cd.d).length≤9223372036854775807) (ho:fQ l) (hm:iI l=some j):
  aU Tryz.prog 0 (.loop (aI Tryz.f59 0)) [.aj .no 13 (l.map cd.d),.fn (Ve 60) [] [],.undef,.undef,.undef,.undef,.undef,.int .i64 ((l.map cd.d).length:Int),.int .i64 0,.undef,.undef,.undef,.undef,.undef,.undef,.undef,.undef,.undef,.undef] [] .ret [.undef,.undef,.undef,.undef,.int .i64 (j:Int),.undef,.undef,.undef,.undef,.undef,.undef,.undef,.undef,.undef,.undef,.undef,.undef,.undef,.undef] []:=by
 unfold iI at hm
 rw [List.findIdx?_eq_some_iff_getElem] at hm
 obtain ⟨hj,hbad,hbefore⟩:=hm
 have key:∀(n k:Nat),n+k=j→aF Tryz.prog (aI Tryz.f59 0) 0 [.aj .no 13 (l.map cd.d),.fn (Ve 60) [] [],.undef,.undef,.undef,.undef,.undef,.int .i64 ((l.map cd.d).length:Int),.int .i64 (k:Int),.undef,.undef,.undef,.undef,.undef,.undef,.undef,.undef,.undef,.undef] [] .ret [.undef,.undef,.undef,.undef,.int .i64 (j:Int),.undef,.undef,.undef,.undef,.undef,.undef,.undef,.undef,.undef,.undef,.undef,.undef,.undef,.undef] []:=by
  intro n
  induction n with
  |zero=>
   intro k hk
   obtain rfl:k=j:=by omega
   have hx:l[k]? =some l[k]:=by simp
   obtain ⟨a0,a1,PX,hc,hp,g0,g1⟩:=ho _ (List.getElem_mem hj)
   exact aF.last (F9 (l.map cd.d) k hb (by simpa using hj) _ _ _ _ _ _ _ _ _ _ _ _ _ a0 a1 PX hc hp g0 g1 (get_map hx) (show l[k].may=false by simpa using hbad)) (by simp)
  |succ n ih=>
   intro k hk
   have OK:k<l.length:=by omega
   have hx:l[k]? =some l[k]:=by simp
   obtain ⟨a0,a1,PX,hc,hp,g0,g1⟩:=ho _ (List.getElem_mem OK)
   exact aF.cG (DT (l.map cd.d) k hb (by simpa using OK) _ _ _ _ _ _ _ _ _ _ _ _ _ a0 a1 PX hc hp g0 g1 (get_map hx) (show l[k].may=true by simpa using hbefore k (by omega))) (ih (k+1) (by omega))
 exact aU.bA (by decide) (key j 0 (by omega))
theorem cD (r:Int):aZ Tryz.prog 174 ([.int .i8 r]) (.bool (ay r)):=by
 rcases de (decide (r<0)) with h0|h0
 ·exact (Ja (d:= .bool false) [tC (eT (bk 0 h0)),tC (eT (bk 0 h0)),tC (bk 0 h0)] (by kernel_rfl)).to (by (try simp only [cJ,wk,aB,aK,ae,ak,ay] at*);first|(simp [wk,aB,aK,ae,ak,ay, *];done)|(simp [wk,aB,aK,ae,ak,ay, *];omega)|(rw [Vn];simp [wk,aB,aK,ae,ak,ay, *];done)|(rw [Vn];simp [wk,aB,aK,ae,ak,ay, *];omega)|(rw [Vn];simp [wk,aB,aK,ae,ak,ay, *];grind)|(subst_vars;rw [Vn];simp;grind))
 exact (Ja (d:= .bool (decide (r<16))) [tC (eT (bk 0 h0)),tC (eT (bk 0 h0)),tC (bk 0 h0)] (by kernel_rfl)).to (by (try simp only [cJ,wk,aB,aK,ae,ak,ay] at*);first|(simp [wk,aB,aK,ae,ak,ay, *];done)|(simp [wk,aB,aK,ae,ak,ay, *];omega)|(rw [Vn];simp [wk,aB,aK,ae,ak,ay, *];done)|(rw [Vn];simp [wk,aB,aK,ae,ak,ay, *];omega)|(rw [Vn];simp [wk,aB,aK,ae,ak,ay, *];grind)|(subst_vars;rw [Vn];simp;grind))
theorem qZ (r:Int) (r0:0≤r) (r1:r≤15):aZ Tryz.prog 175 ([.int .i8 r,.int .u64 0]) (.int .u8 (r / 8)):=by
 exact (I9 (d:= .int .u8 (WO.wrap WO.u8 (WO.wrap WO.u8 (↑(Vy (Vh (8:Nat) (Int.fdiv (WO.wrap WO.u8 r) 8)&&&Vh (8:Nat) 1)):Int)*1))) [tT] (by kernel_rfl)).to (by simp only [wk,D.int.injEq,true_and];obtain ⟨n,rfl⟩:=fA r0 r1;clear r0 r1;revert n;decide+kernel)
theorem qY (r:Int) (r0:0≤r) (r1:r≤15):aZ Tryz.prog 175 ([.int .i8 r,.int .u64 2]) (.int .u8 (4*(r / 8))):=by
 exact (I9 (d:= .int .u8 (WO.wrap WO.u8 (WO.wrap WO.u8 (↑(Vy (Vh (8:Nat) (Int.fdiv (WO.wrap WO.u8 r) 8)&&&Vh (8:Nat) 1)):Int)*4))) [tT] (by kernel_rfl)).to (by simp only [wk,D.int.injEq,true_and];obtain ⟨n,rfl⟩:=fA r0 r1;clear r0 r1;revert n;decide+kernel)
theorem xJ (r m:Int) (r0:0≤r) (r1:r≤15) (m0:0≤m) (m1:m≤15):aZ Tryz.prog 176 ([.int .u8 192,.int .i8 r,.int .i8 m]) (.int .u8 (e6 r m)):=by
 exact (I8 (d:= .int .u8 (WO.wrap WO.u8 (↑(Vy (Vh (8:Nat) (WO.wrap WO.u8 (↑(Vy (Vh (8:Nat) 192|||Vh (8:Nat) (WO.wrap WO.u8 (WO.wrap WO.u8 (↑(Vy (Vh (8:Nat) (WO.wrap WO.u8 r)&&&Vh (8:Nat) 7)):Int)*8)))):Int))|||Vh (8:Nat) (WO.wrap WO.u8 (↑(Vy (Vh (8:Nat) (WO.wrap WO.u8 m)&&&Vh (8:Nat) 7)):Int)))):Int))) [] (by kernel_rfl)).to (by simp only [wk,D.int.injEq,true_and];obtain ⟨n,rfl⟩:=fA r0 r1;obtain ⟨k,rfl⟩:=fA m0 m1;clear r0 r1 m0 m1;revert n k;decide+kernel)
theorem pz (r m:Int) (r0:0≤r) (r1:r≤15) (m0:0≤m) (m1:m≤15):aZ Tryz.prog 176 ([.int .u8 128,.int .i8 r,.int .i8 m]) (.int .u8 (128+8*(r%8)+m%8)):=by
 exact (I8 (d:= .int .u8 (WO.wrap WO.u8 (↑(Vy (Vh (8:Nat) (WO.wrap WO.u8 (↑(Vy (Vh (8:Nat) 128|||Vh (8:Nat) (WO.wrap WO.u8 (WO.wrap WO.u8 (↑(Vy (Vh (8:Nat) (WO.wrap WO.u8 r)&&&Vh (8:Nat) 7)):Int)*8)))):Int))|||Vh (8:Nat) (WO.wrap WO.u8 (↑(Vy (Vh (8:Nat) (WO.wrap WO.u8 m)&&&Vh (8:Nat) 7)):Int)))):Int))) [] (by kernel_rfl)).to (by simp only [wk,D.int.injEq,true_and];obtain ⟨n,rfl⟩:=fA r0 r1;obtain ⟨k,rfl⟩:=fA m0 m1;clear r0 r1 m0 m1;revert n k;decide+kernel)
theorem vD (r m:Int) (r0:0≤r) (r1:r≤15) (m0:0≤m) (m1:m≤15) (hn:decide (8≤r∨8≤m)=true):aZ Tryz.prog 148 ([.int .i8 r,.int .i8 m]) (.bool true):=by
 have c0:= @cD r
 rw [show (ay r)=true from (@e7 r r0 r1)] at c0
 have c1:= @cD m
 rw [show (ay m)=true from (@e7 m m0 m1)] at c1
 exact (Jd (d:= .bool (WO.wrap WO.i8 (↑(Vy (Vh (8:Nat) (WO.wrap WO.i8 (↑(Vy (Vh (8:Nat) r|||Vh (8:Nat) m)):Int))&&&Vh (8:Nat) 8)):Int) !=0)) [.ret _ _ _ c0,tT,tT,.ret _ _ _ c1,tT,tT,tT,tT,tT,tT,tT] (by kernel_rfl)).to (by simp only [wk,D.bool.injEq];rw [zL r0 r1 m0 m1];exact hn)
theorem vE (r m:Int) (r0:0≤r) (r1:r≤15) (m0:0≤m) (m1:m≤15) (hn:decide (8≤r∨8≤m)=false):aZ Tryz.prog 148 ([.int .i8 r,.int .i8 m]) (.bool false):=by
 have c0:= @cD r
 rw [show (ay r)=true from (@e7 r r0 r1)] at c0
 have c1:= @cD m
 rw [show (ay m)=true from (@e7 m m0 m1)] at c1
 exact (Jd (d:= .bool (WO.wrap WO.i8 (↑(Vy (Vh (8:Nat) (WO.wrap WO.i8 (↑(Vy (Vh (8:Nat) r|||Vh (8:Nat) m)):Int))&&&Vh (8:Nat) 8)):Int) !=0)) [.ret _ _ _ c0,tT,tT,.ret _ _ _ c1,tT,tT,tT,tT,tT,tT,tT] (by kernel_rfl)).to (by simp only [wk,D.bool.injEq];rw [zL r0 r1 m0 m1];exact hn)
open Go Go.RowKit Go.Ev
set_option maxHeartbeats 4000000 in
theorem AY (v:Int) (h0: -2147483648≤v) (h1:v≤2147483647) (w:World):
  Calls Tryz.prog 177 #[.int .i64 v,.int .i64 4] w fun e w'=>e= .returned (.tuple #[.slice (some ⟨w.heap.size,0,none⟩) 4 4,.int .i64 0])∧
   w'=w.alloc (.cells #[.int .u8 (v%256),.int .u8 (v / 256%256),.int .u8 (v / 65536%256),.int .u8 (v / 16777216%256)] 5):=by
 have QC:∀w,(Instr.makeSlice 127 (.int .i64 4) (.int .i64 4)).run Tryz.prog w= .ok (.slice (some ⟨w.heap.size,0,none⟩) 4 4) (w.alloc (.cells #[.int .u8 0,.int .u8 0,.int .u8 0,.int .u8 0] 5)):=fun _=>by kernel_rfl
 go_enter Tryz.func177,Tryz.ntmps177
 go_wp2
 refine wp_loop_rounds 5 ?_
 rw [rounds_succ];go_wp2
 rw [rounds_succ];go_wp2
 rw [rounds_succ];go_wp2
 rw [rounds_succ];go_wp2
 rw [rounds_succ];go_wp2
 go_ret2
 exact ⟨rfl,rfl⟩
theorem BS {C:Nat→Nat→Option Value} {w:World} (hC:∀b o v,C b o=some v→w.cell? ⟨b,o,none⟩=some v) (cells:Array Value) (ty:TypeId):
  Ext (ep C) w (ep fun b o=>if b=w.heap.size then cells[o]? else C b o) (w.alloc (.cells cells ty)):=by
 have OK:∀b o v,C b o=some v→b<w.heap.size:=fun b o v h=>World.block_lt_of_cell? w _ (hC b o v h)
 refine ⟨(Below.refl _ _).alloc (Nat.le_refl _) _,?_,?_,?_⟩
 ·intro b o v h
  have:=OK b o v h
  show (if b=w.heap.size then cells[o]? else C b o)=some v
  rw [if_neg (by omega)]
  exact h
 ·intro b o v h hb
  have h':(if b=w.heap.size then cells[o]? else C b o)=some v:=h
  rw [if_neg (by omega)] at h'
  exact h'
 ·intro b o v h
  have h':(if b=w.heap.size then cells[o]? else C b o)=some v:=h
  split at h'
  ·rename_i e
   subst e
   have hh:(w.alloc (.cells cells ty)).heap[w.heap.size]? =some (.cells cells ty):=by
    show (w.heap.push _)[w.heap.size]? =_
    simp
   simp only [World.cell?,hh]
   exact h'
  ·have hb:=OK b o v h'
   rw [World.cell?_alloc_lt _ _ _ hb]
   exact hC b o v h'
theorem Fh {C:Nat→Nat→Option Value} {b:Nat} {k:WO} (xs:List Int) (cells:Array Value) (hc:cells=(xs.map fun n=>Value.int k n).toArray):
  bo (ep fun b' o=>if b'=b then cells[o]? else C b' o) (.aj .tight 1 (xs.map fun n=> .int k n)) (.slice (some ⟨b,0,none⟩) xs.length xs.length):=by
 subst hc
 have key:∀(i:Nat) (x:D) (cs:List D) (j:Nat) (c:D),(xs.map fun n=>D.int k n)[i]? =some x→x.cells=some cs→cs[j]? =some c→∃n,xs[i]? =some n∧c= .int k n∧j=0:=by
  intro i x cs j c h1 h2 h3
  rw [VC,Option.map_eq_some_iff] at h1
  obtain ⟨n,hn,rfl⟩:=h1
  simp only [D.cells,Option.some.injEq] at h2
  subst h2
  cases j with
  |zero=>simp at h3;exact ⟨n,hn,h3.symm,rfl⟩
  |succ j=>simp at h3
 refine .aj b 0 (fun i _=> .int k (xs.getD i 0)) (by simp) (Nat.le_refl _) (fun _=>rfl) ?_ ?_ ?_ ?_ rfl
 ·intro i x hx
  rw [VC,Option.map_eq_some_iff] at hx
  obtain ⟨n,hn,rfl⟩:=hx
  exact ⟨[.int k n],rfl,rfl⟩
 ·intro i x cs j c h1 h2 h3
  obtain ⟨n,hn,rfl,rfl⟩:=key i x cs j c h1 h2 h3
  simp [ep,hn]
 ·intro i x cs j c h1 h2 h3
  obtain ⟨n,hn,rfl,rfl⟩:=key i x cs j c h1 h2 h3
  simp only [List.getD_eq_getElem?_getD,hn,Option.getD_some]
  exact .int k n
 ·intro i x cs c h1 h2 h3
  rw [VC,Option.map_eq_some_iff] at h1
  obtain ⟨n,hn,rfl⟩:=h1
  simp only [D.cells,Option.some.injEq] at h2
  subst h2
  simp at h3
  subst h3
  rfl
theorem zI (v:Int) (h0: -2147483648≤v) (h1:v≤2147483647):aZ Tryz.prog 177 [.int .i64 v,.int .i64 4] (.aM [.aj .tight 1 [.int .u8 (v%256),.int .u8 (v / 256%256),.int .u8 (v / 65536%256),.int .u8 (v / 16777216%256)],.int .i64 0]):=by
 refine ⟨⟨_,_,Tryz.func177,rfl,by kernel_rfl⟩,fun w C vs hC ha=> ?_⟩
 obtain ⟨hl,hr⟩:=ha
 obtain ⟨a,b,rfl⟩:∃a b,vs= #[a,b]:=by
  rcases vs with ⟨l⟩
  match l,hl with
  | [a,b],_=>exact ⟨a,b,rfl⟩
 have ra:=hr 0 _ a rfl rfl
 have rb:=hr 1 _ b rfl rfl
 cases ra
 cases rb
 refine Calls.mono (AY v h0 h1 w) ?_
 rintro e w' ⟨rfl,rfl⟩
 have rl:=Fh (C:=C) (b:=w.heap.size) (k:= .u8) [v%256,v / 256%256,v / 65536%256,v / 16777216%256] _ rfl
 refine ⟨_,_,rfl,BS hC _ _,.aM rfl ?_,?_⟩
 ·intro i d u p q
  match i,p,q with
  |0,p,q=>simp at p q;subst p q;exact rl
  |1,p,q=>simp at p q;subst p q;exact .int _ _
 ·refine ⟨fun sz O1 xs h=>(by cases h),?_⟩
  intro ds vs hd hv i sz O1 xs hi
  simp only [D.aM.injEq] at hd
  subst hd
  match i,hi with
  |0,hi=>simp at hi
  |1,hi=>simp at hi
theorem m9 (r m:Int) (r0:0≤r) (r1:r≤15) (m0:0≤m) (m1:m≤15):aZ Tryz.prog 149 ([.bool false,.int .i8 r,.int .i8 m]) (.aM [.int .u8 (gV false r m),.int .i64 0]):=by
 have c0:= @cD r
 rw [show (ay r)=true from (@e7 r r0 r1)] at c0
 have c1:= @cD m
 rw [show (ay m)=true from (@e7 m m0 m1)] at c1
 have c2:= @qY r r0 r1
 have c3:= @qZ m m0 m1
 exact (Jc (d:= .aM [.int .u8 (WO.wrap WO.u8 (↑(Vy (Vh (8:Nat) (WO.wrap WO.u8 (↑(Vy (Vh (8:Nat) 64|||Vh (8:Nat) (4*(r / 8)))):Int))|||Vh (8:Nat) (m / 8))):Int)),.int .i64 0]) [.ret _ _ _ c0,tT,tT,.ret _ _ _ c1,tT,tF,tF,.ret _ _ _ c2,.ret _ _ _ c3,tF] (by kernel_rfl)).to (by simp only [wk,aB,D.int.injEq,true_and,and_true];exact CQ r0 r1 m0 m1)
theorem rj (r m:Int) (r0:0≤r) (r1:r≤15) (m0:0≤m) (m1:m≤15):aZ Tryz.prog 149 ([.bool true,.int .i8 r,.int .i8 m]) (.aM [.int .u8 (gV true r m),.int .i64 0]):=by
 have c0:= @cD r
 rw [show (ay r)=true from (@e7 r r0 r1)] at c0
 have c1:= @cD m
 rw [show (ay m)=true from (@e7 m m0 m1)] at c1
 have c2:= @qY r r0 r1
 have c3:= @qZ m m0 m1
 exact (Jc (d:= .aM [.int .u8 (WO.wrap WO.u8 (↑(Vy (Vh (8:Nat) (WO.wrap WO.u8 (↑(Vy (Vh (8:Nat) (WO.wrap WO.u8 (↑(Vy (Vh (8:Nat) 64|||Vh (8:Nat) (4*(r / 8)))):Int))|||Vh (8:Nat) (m / 8))):Int))|||Vh (8:Nat) 8)):Int)),.int .i64 0]) [.ret _ _ _ c0,tT,tT,.ret _ _ _ c1,tT,tF,tF,.ret _ _ _ c2,.ret _ _ _ c3,tT] (by kernel_rfl)).to (by simp only [wk,aB,D.int.injEq,true_and,and_true];exact CP r0 r1 m0 m1)
theorem DJ (r m:Int) (r0:0≤r) (r1:r≤15) (m0:0≤m) (m1:m≤15):aZ Tryz.prog 150 ([.int .i8 r,.int .i8 m]) (.aM [.aj .tight 1 [.int .u8 (e6 r m)],.int .i64 0]):=by
 have c0:= @cD r
 rw [show (ay r)=true from (@e7 r r0 r1)] at c0
 have c1:= @cD m
 rw [show (ay m)=true from (@e7 m m0 m1)] at c1
 have c2:= @xJ r m r0 r1 m0 m1
 generalize g4:e6 r m=r3 at c2
 exact (KL (d:= .aM [.aj .tight 1 [.int .u8 r3],.int .i64 0]) [.ret _ _ _ c0,tT,tT,.ret _ _ _ c1,tT,tF,tF,.ret _ _ _ c2] (by kernel_rfl)).to (by subst_vars;simp [wk,aB,aK])
theorem eC (r b aa:Int) (r0:0≤r) (r1:r≤15) (m0:0≤b) (m1:b≤15) (h0: -2147483648≤aa) (h1:aa≤2147483647) (hb:decide (b%8=4)=true):aZ Tryz.prog 152 ([.int .i8 r,.int .i8 b,.int .i64 aa]) (.aM [.aj .no 1 [.int .u8 (128+8*(r%8)+b%8),.int .u8 36,.int .u8 (aa%256),.int .u8 (aa / 256%256),.int .u8 (aa / 65536%256),.int .u8 (aa / 16777216%256)],.int .i64 0]):=by
 have c0:= @zI aa h0 h1
 have c1:= @cD r
 rw [show (ay r)=true from (@e7 r r0 r1)] at c1
 have c2:= @cD b
 rw [show (ay b)=true from (@e7 b m0 m1)] at c2
 have c3:= @pz r b r0 r1 m0 m1
 exact (Jb (d:= .aM [.aj (.fresh 1) 1 [.int .u8 (128+8*(r%8)+b%8),.int .u8 36,.int .u8 (aa%256),.int .u8 (aa / 256%256),.int .u8 (aa / 65536%256),.int .u8 (aa / 16777216%256)],.int .i64 0]) [.ret _ _ _ c0,tT,tT,.ret _ _ _ c1,tT,tF,tT,tT,.ret _ _ _ c2,tT,tF,tF,tC (cu 4 true (eq_of_beq (@Iz b hb))),.ret _ _ _ c3,.inl,.go 64,tT,tT,.get ([.aj .tight 1 [.int .u8 (128+8*(r%8)+b%8)],.aj .tight 1 [.int .u8 36],.aj .tight 1 [.int .u8 (aa%256),.int .u8 (aa / 256%256),.int .u8 (aa / 65536%256),.int .u8 (aa / 16777216%256)]]) 0 (.aj .tight 1 [.int .u8 (128+8*(r%8)+b%8)]) rfl,.len 1 2147483648 (by decide),tT,tT,.get ([.aj .tight 1 [.int .u8 (128+8*(r%8)+b%8)],.aj .tight 1 [.int .u8 36],.aj .tight 1 [.int .u8 (aa%256),.int .u8 (aa / 256%256),.int .u8 (aa / 65536%256),.int .u8 (aa / 16777216%256)]]) 1 (.aj .tight 1 [.int .u8 36]) rfl,.len 2 2147483648 (by decide),tT,tT,.get ([.aj .tight 1 [.int .u8 (128+8*(r%8)+b%8)],.aj .tight 1 [.int .u8 36],.aj .tight 1 [.int .u8 (aa%256),.int .u8 (aa / 256%256),.int .u8 (aa / 65536%256),.int .u8 (aa / 16777216%256)]]) 2 (.aj .tight 1 [.int .u8 (aa%256),.int .u8 (aa / 256%256),.int .u8 (aa / 65536%256),.int .u8 (aa / 16777216%256)]) rfl,.len 6 2147483648 (by decide),tF] (by kernel_rfl)).to (by subst_vars;simp [wk,aB,aK])
theorem eB (r b aa:Int) (r0:0≤r) (r1:r≤15) (m0:0≤b) (m1:b≤15) (h0: -2147483648≤aa) (h1:aa≤2147483647) (hb:decide (b%8=4)=false):aZ Tryz.prog 152 ([.int .i8 r,.int .i8 b,.int .i64 aa]) (.aM [.aj .no 1 [.int .u8 (128+8*(r%8)+b%8),.int .u8 (aa%256),.int .u8 (aa / 256%256),.int .u8 (aa / 65536%256),.int .u8 (aa / 16777216%256)],.int .i64 0]):=by
 have c0:= @zI aa h0 h1
 have c1:= @cD r
 rw [show (ay r)=true from (@e7 r r0 r1)] at c1
 have c2:= @cD b
 rw [show (ay b)=true from (@e7 b m0 m1)] at c2
 have c3:= @pz r b r0 r1 m0 m1
 exact (Jb (d:= .aM [.aj (.fresh 1) 1 [.int .u8 (128+8*(r%8)+b%8),.int .u8 (aa%256),.int .u8 (aa / 256%256),.int .u8 (aa / 65536%256),.int .u8 (aa / 16777216%256)],.int .i64 0]) [.ret _ _ _ c0,tT,tT,.ret _ _ _ c1,tT,tF,tT,tT,.ret _ _ _ c2,tT,tF,tF,tC (@IA b hb),.ret _ _ _ c3,.inl,.go 64,tT,tT,.get ([.aj .tight 1 [.int .u8 (128+8*(r%8)+b%8)],.aj .tight 0 [],.aj .tight 1 [.int .u8 (aa%256),.int .u8 (aa / 256%256),.int .u8 (aa / 65536%256),.int .u8 (aa / 16777216%256)]]) 0 (.aj .tight 1 [.int .u8 (128+8*(r%8)+b%8)]) rfl,.len 1 2147483648 (by decide),tT,tT,.get ([.aj .tight 1 [.int .u8 (128+8*(r%8)+b%8)],.aj .tight 0 [],.aj .tight 1 [.int .u8 (aa%256),.int .u8 (aa / 256%256),.int .u8 (aa / 65536%256),.int .u8 (aa / 16777216%256)]]) 1 (.aj .tight 0 []) rfl,.len 1 2147483648 (by decide),tT,tT,.get ([.aj .tight 1 [.int .u8 (128+8*(r%8)+b%8)],.aj .tight 0 [],.aj .tight 1 [.int .u8 (aa%256),.int .u8 (aa / 256%256),.int .u8 (aa / 65536%256),.int .u8 (aa / 16777216%256)]]) 2 (.aj .tight 1 [.int .u8 (aa%256),.int .u8 (aa / 256%256),.int .u8 (aa / 65536%256),.int .u8 (aa / 16777216%256)]) rfl,.len 5 2147483648 (by decide),tF] (by kernel_rfl)).to (by subst_vars;simp [wk,aB,aK])
theorem ea (r m:Int) (r0:0≤r) (r1:r≤15) (m0:0≤m) (m1:m≤15) (wide al:Bool) (hn:dL wide r m al=false):aZ Tryz.prog 137 ([.bool wide,.int .i8 r,.int .i8 m,.bool al]) (.aj .tight 1 []):=by
 cases wide
 ·cases al
  ·have c0:= @vE r m r0 r1 m0 m1 hn
   exact (AW (d:= .aj .tight 0 []) [tT,tT,tT,tT,tT,tT,.ret _ _ _ c0,tT,tT,tT] (by kernel_rfl)).to (by first|(simp [wk,aB,aK];done)|(exfalso;simp [dL] at hn))
  have c1:= @m9 r m r0 r1 m0 m1
  generalize g3:gV false r m=r2 at c1
  exact (AW (d:= .aj .tight 1 [.int .u8 r2]) [tT,tT,tT,tF,tF,tF,tF,tF,tF,.ret _ _ _ c1] (by kernel_rfl)).to (by first|(simp [wk,aB,aK];done)|(exfalso;simp [dL] at hn))
 have c4:= @rj r m r0 r1 m0 m1
 generalize g6:gV true r m=r5 at c4
 exact (AW (d:= .aj .tight 1 [.int .u8 r5]) (Vc 9 tF++ [.ret _ _ _ c4]) (by kernel_rfl)).to (by first|(simp [wk,aB,aK];done)|(exfalso;simp [dL] at hn))
theorem dr (r m:Int) (r0:0≤r) (r1:r≤15) (m0:0≤m) (m1:m≤15) (wide al:Bool) (hn:dL wide r m al=true):aZ Tryz.prog 137 ([.bool wide,.int .i8 r,.int .i8 m,.bool al]) (.aj .tight 1 [.int .u8 (gV wide r m)]):=by
 cases wide
 ·cases al
  ·have c0:= @vD r m r0 r1 m0 m1 hn
   have c1:= @m9 r m r0 r1 m0 m1
   generalize g3:gV false r m=r2 at c1
   exact (AW (d:= .aj .tight 1 [.int .u8 r2]) [tT,tT,tT,tT,tT,tT,.ret _ _ _ c0,tT,tT,tF,.ret _ _ _ c1] (by kernel_rfl)).to (by subst_vars;first|(simp [wk,aB,aK];done)|(exfalso;simp [dL] at hn;omega))
  have c4:= @m9 r m r0 r1 m0 m1
  generalize g6:gV false r m=r5 at c4
  exact (AW (d:= .aj .tight 1 [.int .u8 r5]) [tT,tT,tT,tF,tF,tF,tF,tF,tF,.ret _ _ _ c4] (by kernel_rfl)).to (by subst_vars;first|(simp [wk,aB,aK];done)|(exfalso;simp [dL] at hn;omega))
 have c7:= @rj r m r0 r1 m0 m1
 generalize g9:gV true r m=r8 at c7
 exact (AW (d:= .aj .tight 1 [.int .u8 r8]) (Vc 9 tF++ [.ret _ _ _ c7]) (by kernel_rfl)).to (by subst_vars;first|(simp [wk,aB,aK];done)|(exfalso;simp [dL] at hn;omega))
theorem gB (r m:Int) (r0:0≤r) (r1:r≤15) (m0:0≤m) (m1:m≤15):aZ Tryz.prog 138 ([.int .i8 r,.int .i8 m]) (.aj .tight 1 [.int .u8 (e6 r m)]):=by
 have c0:= @DJ r m r0 r1 m0 m1
 generalize g2:e6 r m=r1 at c0
 exact (KP (d:= .aj .tight 1 [.int .u8 r1]) [.ret _ _ _ c0] (by kernel_rfl)).to (by subst_vars;simp [wk,aB,aK])
theorem jN (n:Int):aZ Tryz.prog 139 ([.int .i64 n]) (.aj .no 1 [.int .u8 (n%256),.int .u8 (n / 256%256),.int .u8 (n / 65536%256),.int .u8 (n / 16777216%256)]):=by
 exact (KO (d:= .aj (.fresh 1) 1 [.int .u8 (WO.wrap WO.u8 (WO.wrap WO.u64 n)),.int .u8 (WO.wrap WO.u8 (Int.fdiv (WO.wrap WO.u64 n) 256)),.int .u8 (WO.wrap WO.u8 (Int.fdiv (Int.fdiv (WO.wrap WO.u64 n) 256) 256)),.int .u8 (WO.wrap WO.u8 (Int.fdiv (Int.fdiv (Int.fdiv (WO.wrap WO.u64 n) 256) 256) 256))]) [.inl,.go 64,tT,.len 1 2147483648 (by decide),tT,.len 2 2147483648 (by decide),tT,.len 3 2147483648 (by decide),tT,.len 4 2147483648 (by decide),tF] (by kernel_rfl)).to (by simp only [wk,aB,aK,D.int.injEq,D.aj.injEq,List.cons.injEq,true_and,and_true,dK,il,true_or,Nz,JT,Gm,x9];first|done|omega|(simp;omega))
theorem yL (op w dst src base aa ai cc:Int) (ho:op≤127) (d0:0≤dst) (d1:dst≤15) (s0:0≤src) (s1:src≤15) (b0:0≤base) (b1:base≤15) (p0: -2147483648≤aa) (p1:aa≤2147483647) (i0: -2147483648≤ai) (i1:ai≤2147483647) (c0:0≤cc) (c1:cc≤15) (n0:0≤dV op) (n1:dV op≤7) (h:(aR op==1)=true) (O3:decide (0≤op∧op≤31)=true) (hm:aA op w dst src base aa ai cc=true):aZ Tryz.prog 105 ([xD op w dst src base aa ai cc]) (.aM [.aj .no 1 (bD (bI op w dst src base aa ai cc)),.int .i64 0]):=by
 have c0:= @aE op w dst src base aa ai cc ho
 rw [hm] at c0
 have c1:= @aN op ho
 rw [eq_of_beq h] at c1
 generalize g3:cr op=r2 at c1
 generalize g5:dV op=r4 at c1
 rcases de (dL (w==64) src dst false) with h6|h6
 ·have c7:= @dr src dst s0 s1 d0 d1 (w==64) false h6
  generalize g9:gV (w==64) src dst=r8 at c7
  have Pg:= @gB src dst s0 s1 d0 d1
  generalize g12:e6 src dst=O9 at Pg
  exact (ei (d:= .aM [.aj (.fresh 1) 1 [.int .u8 r8,.int .u8 r2,.int .u8 O9],.int .i64 0]) [.ret _ _ _ c0,tF,.ret _ _ _ c1,tT,.ret _ _ _ c7,.ret _ _ _ Pg,.inl,.go 64,tT,tT,.get ([.aj .tight 1 [.int .u8 r8],.aj .tight 1 [.int .u8 r2],.aj .tight 1 [.int .u8 O9]]) 0 (.aj .tight 1 [.int .u8 r8]) rfl,.len 1 2147483648 (by decide),tT,tT,.get ([.aj .tight 1 [.int .u8 r8],.aj .tight 1 [.int .u8 r2],.aj .tight 1 [.int .u8 O9]]) 1 (.aj .tight 1 [.int .u8 r2]) rfl,.len 2 2147483648 (by decide),tT,tT,.get ([.aj .tight 1 [.int .u8 r8],.aj .tight 1 [.int .u8 r2],.aj .tight 1 [.int .u8 O9]]) 2 (.aj .tight 1 [.int .u8 O9]) rfl,.len 3 2147483648 (by decide),tF] (by kernel_rfl)).to (by subst_vars;(try simp only [bJ] at*);(try simp only [beq_iff_eq] at h);(try simp only [decide_eq_true_eq,decide_eq_false_iff_not] at*);simp_all [wk,aB,aK,bI,bD,dF,dX,cE,dK])
 have Pr:= @ea src dst s0 s1 d0 d1 (w==64) false h6
 have Rk:= @gB src dst s0 s1 d0 d1
 generalize g16:e6 src dst=Qd at Rk
 exact (ei (d:= .aM [.aj (.fresh 1) 1 [.int .u8 r2,.int .u8 Qd],.int .i64 0]) [.ret _ _ _ c0,tF,.ret _ _ _ c1,tT,.ret _ _ _ Pr,.ret _ _ _ Rk,.inl,.go 64,tT,tT,.get ([.aj .tight 1 [],.aj .tight 1 [.int .u8 r2],.aj .tight 1 [.int .u8 Qd]]) 0 (.aj .tight 1 []) rfl,.len 0 2147483648 (by decide),tT,tT,.get ([.aj .tight 1 [],.aj .tight 1 [.int .u8 r2],.aj .tight 1 [.int .u8 Qd]]) 1 (.aj .tight 1 [.int .u8 r2]) rfl,.len 1 2147483648 (by decide),tT,tT,.get ([.aj .tight 1 [],.aj .tight 1 [.int .u8 r2],.aj .tight 1 [.int .u8 Qd]]) 2 (.aj .tight 1 [.int .u8 Qd]) rfl,.len 2 2147483648 (by decide),tF] (by kernel_rfl)).to (by subst_vars;(try simp only [bJ] at*);(try simp only [beq_iff_eq] at h);(try simp only [decide_eq_true_eq,decide_eq_false_iff_not] at*);simp_all [wk,aB,aK,bI,bD,dF,dX,cE,dK])
theorem tS (w dst src base aa ai cc:Int) (d0:0≤dst) (d1:dst≤15) (s0:0≤src) (s1:src≤15) (b0:0≤base) (b1:base≤15) (p0: -2147483648≤aa) (p1:aa≤2147483647) (i0: -2147483648≤ai) (i1:ai≤2147483647) (c0:0≤cc) (c1:cc≤15) (hm:aA 16 w dst src base aa ai cc=true):aZ Tryz.prog 105 ([xD 16 w dst src base aa ai cc]) (.aM [.aj .no 1 (bD (bI 16 w dst src base aa ai cc)),.int .i64 0]):=by
 have c0:= @aE 16 w dst src base aa ai cc (by decide)
 rw [hm] at c0
 have c1:= @aN 16 (by decide)
 rcases de (dL (w==64) dst src false) with h2|h2
 ·have c3:= @dr dst src d0 d1 s0 s1 (w==64) false h2
  generalize g5:gV (w==64) dst src=r4 at c3
  have c6:= @gB dst src d0 d1 s0 s1
  generalize g8:e6 dst src=r7 at c6
  exact (ei (d:= .aM [.aj (.fresh 1) 1 [.int .u8 r4,.int .u8 15,.int .u8 175,.int .u8 r7],.int .i64 0]) [.ret _ _ _ c0,tF,.ret _ _ _ c1,tF,tT,.ret _ _ _ c3,.ret _ _ _ c6,.inl,.go 64,tT,tT,.get ([.aj .tight 1 [.int .u8 r4],.aj .tight 1 [.int .u8 15],.aj .tight 1 [.int .u8 175],.aj .tight 1 [.int .u8 r7]]) 0 (.aj .tight 1 [.int .u8 r4]) rfl,.len 1 2147483648 (by decide),tT,tT,.get ([.aj .tight 1 [.int .u8 r4],.aj .tight 1 [.int .u8 15],.aj .tight 1 [.int .u8 175],.aj .tight 1 [.int .u8 r7]]) 1 (.aj .tight 1 [.int .u8 15]) rfl,.len 2 2147483648 (by decide),tT,tT,.get ([.aj .tight 1 [.int .u8 r4],.aj .tight 1 [.int .u8 15],.aj .tight 1 [.int .u8 175],.aj .tight 1 [.int .u8 r7]]) 2 (.aj .tight 1 [.int .u8 175]) rfl,.len 3 2147483648 (by decide),tT,tT,.get ([.aj .tight 1 [.int .u8 r4],.aj .tight 1 [.int .u8 15],.aj .tight 1 [.int .u8 175],.aj .tight 1 [.int .u8 r7]]) 3 (.aj .tight 1 [.int .u8 r7]) rfl,.len 4 2147483648 (by decide),tF] (by kernel_rfl)).to (by subst_vars;(try simp only [bJ] at*);(try simp only [beq_iff_eq] at h);(try simp only [decide_eq_true_eq,decide_eq_false_iff_not] at*);simp_all [wk,aB,aK,bI,show aR 16=2 from rfl,cr,bD,dF,dX,cE,dK])
 have c9:= @ea dst src d0 d1 s0 s1 (w==64) false h2
 have Pg:= @gB dst src d0 d1 s0 s1
 generalize g12:e6 dst src=O9 at Pg
 exact (ei (d:= .aM [.aj (.fresh 1) 1 [.int .u8 15,.int .u8 175,.int .u8 O9],.int .i64 0]) [.ret _ _ _ c0,tF,.ret _ _ _ c1,tF,tT,.ret _ _ _ c9,.ret _ _ _ Pg,.inl,.go 64,tT,tT,.get ([.aj .tight 1 [],.aj .tight 1 [.int .u8 15],.aj .tight 1 [.int .u8 175],.aj .tight 1 [.int .u8 O9]]) 0 (.aj .tight 1 []) rfl,.len 0 2147483648 (by decide),tT,tT,.get ([.aj .tight 1 [],.aj .tight 1 [.int .u8 15],.aj .tight 1 [.int .u8 175],.aj .tight 1 [.int .u8 O9]]) 1 (.aj .tight 1 [.int .u8 15]) rfl,.len 1 2147483648 (by decide),tT,tT,.get ([.aj .tight 1 [],.aj .tight 1 [.int .u8 15],.aj .tight 1 [.int .u8 175],.aj .tight 1 [.int .u8 O9]]) 2 (.aj .tight 1 [.int .u8 175]) rfl,.len 2 2147483648 (by decide),tT,tT,.get ([.aj .tight 1 [],.aj .tight 1 [.int .u8 15],.aj .tight 1 [.int .u8 175],.aj .tight 1 [.int .u8 O9]]) 3 (.aj .tight 1 [.int .u8 O9]) rfl,.len 3 2147483648 (by decide),tF] (by kernel_rfl)).to (by subst_vars;(try simp only [bJ] at*);(try simp only [beq_iff_eq] at h);(try simp only [decide_eq_true_eq,decide_eq_false_iff_not] at*);simp_all [wk,aB,aK,bI,show aR 16=2 from rfl,cr,bD,dF,dX,cE,dK])
theorem yI (op w dst src base aa ai cc:Int) (ho:op≤127) (d0:0≤dst) (d1:dst≤15) (s0:0≤src) (s1:src≤15) (b0:0≤base) (b1:base≤15) (p0: -2147483648≤aa) (p1:aa≤2147483647) (i0: -2147483648≤ai) (i1:ai≤2147483647) (c0:0≤cc) (c1:cc≤15) (n0:0≤dV op) (n1:dV op≤7) (h:(aR op==5)=true) (O3:decide (0≤op∧op≤31)=true) (hm:aA op w dst src base aa ai cc=true):aZ Tryz.prog 105 ([xD op w dst src base aa ai cc]) (.aM [.aj .no 1 (bD (bI op w dst src base aa ai cc)),.int .i64 0]):=by
 have c0:= @aE op w dst src base aa ai cc ho
 rw [hm] at c0
 have c1:= @aN op ho
 rw [eq_of_beq h] at c1
 generalize g3:cr op=r2 at c1
 generalize g5:dV op=r4 at c1
 rcases de (dL (w==64) 0 dst false) with h6|h6
 ·have c7:= @dr 0 dst (by decide) (by decide) d0 d1 (w==64) false h6
  generalize g9:gV (w==64) 0 dst=r8 at c7
  have Pg:= @gB r4 dst (by (simp only [cf] at*;omega)) (by (simp only [cf] at*;omega)) d0 d1
  generalize g12:e6 r4 dst=O9 at Pg
  exact (ei (d:= .aM [.aj (.fresh 1) 1 [.int .u8 r8,.int .u8 r2,.int .u8 O9],.int .i64 0]) [.ret _ _ _ c0,tF,.ret _ _ _ c1,tF,tF,tF,tF,tF,tT,.ret _ _ _ c7,.ret _ _ _ Pg,.inl,.go 64,tT,tT,.get ([.aj .tight 1 [.int .u8 r8],.aj .tight 1 [.int .u8 r2],.aj .tight 1 [.int .u8 O9]]) 0 (.aj .tight 1 [.int .u8 r8]) rfl,.len 1 2147483648 (by decide),tT,tT,.get ([.aj .tight 1 [.int .u8 r8],.aj .tight 1 [.int .u8 r2],.aj .tight 1 [.int .u8 O9]]) 1 (.aj .tight 1 [.int .u8 r2]) rfl,.len 2 2147483648 (by decide),tT,tT,.get ([.aj .tight 1 [.int .u8 r8],.aj .tight 1 [.int .u8 r2],.aj .tight 1 [.int .u8 O9]]) 2 (.aj .tight 1 [.int .u8 O9]) rfl,.len 3 2147483648 (by decide),tF] (by kernel_rfl)).to (by subst_vars;(try simp only [bJ] at*);(try simp only [beq_iff_eq] at h);(try simp only [decide_eq_true_eq,decide_eq_false_iff_not] at*);simp_all [wk,aB,aK,bI,bD,dF,dX,cE,dK])
 have Pr:= @ea 0 dst (by decide) (by decide) d0 d1 (w==64) false h6
 have Rk:= @gB r4 dst (by (simp only [cf] at*;omega)) (by (simp only [cf] at*;omega)) d0 d1
 generalize g16:e6 r4 dst=Qd at Rk
 exact (ei (d:= .aM [.aj (.fresh 1) 1 [.int .u8 r2,.int .u8 Qd],.int .i64 0]) [.ret _ _ _ c0,tF,.ret _ _ _ c1,tF,tF,tF,tF,tF,tT,.ret _ _ _ Pr,.ret _ _ _ Rk,.inl,.go 64,tT,tT,.get ([.aj .tight 1 [],.aj .tight 1 [.int .u8 r2],.aj .tight 1 [.int .u8 Qd]]) 0 (.aj .tight 1 []) rfl,.len 0 2147483648 (by decide),tT,tT,.get ([.aj .tight 1 [],.aj .tight 1 [.int .u8 r2],.aj .tight 1 [.int .u8 Qd]]) 1 (.aj .tight 1 [.int .u8 r2]) rfl,.len 1 2147483648 (by decide),tT,tT,.get ([.aj .tight 1 [],.aj .tight 1 [.int .u8 r2],.aj .tight 1 [.int .u8 Qd]]) 2 (.aj .tight 1 [.int .u8 Qd]) rfl,.len 2 2147483648 (by decide),tF] (by kernel_rfl)).to (by subst_vars;(try simp only [bJ] at*);(try simp only [beq_iff_eq] at h);(try simp only [decide_eq_true_eq,decide_eq_false_iff_not] at*);simp_all [wk,aB,aK,bI,bD,dF,dX,cE,dK])
theorem yJ (op w dst src base aa ai cc:Int) (ho:op≤127) (d0:0≤dst) (d1:dst≤15) (s0:0≤src) (s1:src≤15) (b0:0≤base) (b1:base≤15) (p0: -2147483648≤aa) (p1:aa≤2147483647) (i0: -2147483648≤ai) (i1:ai≤2147483647) (c0:0≤cc) (c1:cc≤15) (n0:0≤dV op) (n1:dV op≤7) (h:(aR op==4)=true) (O3:decide (0≤op∧op≤31)=true) (hm:aA op w dst src base aa ai cc=true):aZ Tryz.prog 105 ([xD op w dst src base aa ai cc]) (.aM [.aj .no 1 (bD (bI op w dst src base aa ai cc)),.int .i64 0]):=by
 have c0:= @aE op w dst src base aa ai cc ho
 rw [hm] at c0
 have c1:= @aN op ho
 rw [eq_of_beq h] at c1
 generalize g3:cr op=r2 at c1
 generalize g5:dV op=r4 at c1
 rcases de (dL (w==64) 0 dst false) with h6|h6
 ·have c7:= @dr 0 dst (by decide) (by decide) d0 d1 (w==64) false h6
  generalize g9:gV (w==64) 0 dst=r8 at c7
  have Pg:= @gB r4 dst (by (simp only [cf] at*;omega)) (by (simp only [cf] at*;omega)) d0 d1
  generalize g12:e6 r4 dst=O9 at Pg
  exact (ei (d:= .aM [.aj (.fresh 1) 1 [.int .u8 r8,.int .u8 r2,.int .u8 O9,.int .u8 (WO.wrap WO.u8 ai)],.int .i64 0]) [.ret _ _ _ c0,tF,.ret _ _ _ c1,tF,tF,tF,tF,tT,.ret _ _ _ c7,.ret _ _ _ Pg,.inl,.go 64,tT,tT,.get ([.aj .tight 1 [.int .u8 r8],.aj .tight 1 [.int .u8 r2],.aj .tight 1 [.int .u8 O9],.aj .tight 1 [.int .u8 (WO.wrap WO.u8 ai)]]) 0 (.aj .tight 1 [.int .u8 r8]) rfl,.len 1 2147483648 (by decide),tT,tT,.get ([.aj .tight 1 [.int .u8 r8],.aj .tight 1 [.int .u8 r2],.aj .tight 1 [.int .u8 O9],.aj .tight 1 [.int .u8 (WO.wrap WO.u8 ai)]]) 1 (.aj .tight 1 [.int .u8 r2]) rfl,.len 2 2147483648 (by decide),tT,tT,.get ([.aj .tight 1 [.int .u8 r8],.aj .tight 1 [.int .u8 r2],.aj .tight 1 [.int .u8 O9],.aj .tight 1 [.int .u8 (WO.wrap WO.u8 ai)]]) 2 (.aj .tight 1 [.int .u8 O9]) rfl,.len 3 2147483648 (by decide),tT,tT,.get ([.aj .tight 1 [.int .u8 r8],.aj .tight 1 [.int .u8 r2],.aj .tight 1 [.int .u8 O9],.aj .tight 1 [.int .u8 (WO.wrap WO.u8 ai)]]) 3 (.aj .tight 1 [.int .u8 (WO.wrap WO.u8 ai)]) rfl,.len 4 2147483648 (by decide),tF] (by kernel_rfl)).to (by (try rw [mq d0 d1]);(subst_vars;(try simp only [bJ] at*);(try simp only [beq_iff_eq] at h);(try simp only [decide_eq_true_eq,decide_eq_false_iff_not] at*);simp_all [wk,aB,aK,bI,bD,dF,dX,cE,dK];done))
 have Pr:= @ea 0 dst (by decide) (by decide) d0 d1 (w==64) false h6
 have Rk:= @gB r4 dst (by (simp only [cf] at*;omega)) (by (simp only [cf] at*;omega)) d0 d1
 generalize g16:e6 r4 dst=Qd at Rk
 exact (ei (d:= .aM [.aj (.fresh 1) 1 [.int .u8 r2,.int .u8 Qd,.int .u8 (WO.wrap WO.u8 ai)],.int .i64 0]) [.ret _ _ _ c0,tF,.ret _ _ _ c1,tF,tF,tF,tF,tT,.ret _ _ _ Pr,.ret _ _ _ Rk,.inl,.go 64,tT,tT,.get ([.aj .tight 1 [],.aj .tight 1 [.int .u8 r2],.aj .tight 1 [.int .u8 Qd],.aj .tight 1 [.int .u8 (WO.wrap WO.u8 ai)]]) 0 (.aj .tight 1 []) rfl,.len 0 2147483648 (by decide),tT,tT,.get ([.aj .tight 1 [],.aj .tight 1 [.int .u8 r2],.aj .tight 1 [.int .u8 Qd],.aj .tight 1 [.int .u8 (WO.wrap WO.u8 ai)]]) 1 (.aj .tight 1 [.int .u8 r2]) rfl,.len 1 2147483648 (by decide),tT,tT,.get ([.aj .tight 1 [],.aj .tight 1 [.int .u8 r2],.aj .tight 1 [.int .u8 Qd],.aj .tight 1 [.int .u8 (WO.wrap WO.u8 ai)]]) 2 (.aj .tight 1 [.int .u8 Qd]) rfl,.len 2 2147483648 (by decide),tT,tT,.get ([.aj .tight 1 [],.aj .tight 1 [.int .u8 r2],.aj .tight 1 [.int .u8 Qd],.aj .tight 1 [.int .u8 (WO.wrap WO.u8 ai)]]) 3 (.aj .tight 1 [.int .u8 (WO.wrap WO.u8 ai)]) rfl,.len 3 2147483648 (by decide),tF] (by kernel_rfl)).to (by (try rw [mq d0 d1]);(subst_vars;(try simp only [bJ] at*);(try simp only [beq_iff_eq] at h);(try simp only [decide_eq_true_eq,decide_eq_false_iff_not] at*);simp_all [wk,aB,aK,bI,bD,dF,dX,cE,dK];done))
theorem yK (op w dst src base aa ai cc:Int) (ho:op≤127) (d0:0≤dst) (d1:dst≤15) (s0:0≤src) (s1:src≤15) (b0:0≤base) (b1:base≤15) (p0: -2147483648≤aa) (p1:aa≤2147483647) (i0: -2147483648≤ai) (i1:ai≤2147483647) (c0:0≤cc) (c1:cc≤15) (n0:0≤dV op) (n1:dV op≤7) (h:(aR op==3)=true) (O3:decide (0≤op∧op≤31)=true) (hw:w=32∨w=64) (hm:aA op w dst src base aa ai cc=true):aZ Tryz.prog 105 ([xD op w dst src base aa ai cc]) (.aM [.aj .no 1 (bD (bI op w dst src base aa ai cc)),.int .i64 0]):=by
 have c0:= @aE op w dst src base aa ai cc ho
 rw [hm] at c0
 have c1:= @aN op ho
 rw [eq_of_beq h] at c1
 generalize g3:cr op=r2 at c1
 generalize g5:dV op=r4 at c1
 let E1:EL:= [.ret _ _ _ c0,tF,.ret _ _ _ c1,tF,tF,tF,tT]
 by_cases h6:op=1
 ·subst h6
  by_cases h7:w=64
  ·subst h7
   have c8:= @dr 0 dst n0 (by decide) d0 d1 true false (rfl:true=true)
   generalize g10:gV true 0 dst=r9 at c8
   have SN:= @gB r4 dst (by (simp only [cf] at*;omega)) (by (simp only [cf] at*;omega)) d0 d1
   generalize g13:e6 r4 dst=P8 at SN
   have Rk:= @jN ai
   exact (ei (d:= .aM [.aj (.fresh 1) 1 [.int .u8 r9,.int .u8 r2,.int .u8 P8,.int .u8 (ai%256),.int .u8 (ai / 256%256),.int .u8 (ai / 65536%256),.int .u8 (ai / 16777216%256)],.int .i64 0]) (E1++ [tT,tT,tT,tF,.ret _ _ _ c8,.ret _ _ _ SN,.ret _ _ _ Rk,.inl,.go 64,tT,tT,.get ([.aj .tight 1 [.int .u8 r9],.aj .tight 1 [.int .u8 r2],.aj .tight 1 [.int .u8 P8],.aj .no 1 [.int .u8 (ai%256),.int .u8 (ai / 256%256),.int .u8 (ai / 65536%256),.int .u8 (ai / 16777216%256)]]) 0 (.aj .tight 1 [.int .u8 r9]) rfl,.len 1 2147483648 (by decide),tT,tT,.get ([.aj .tight 1 [.int .u8 r9],.aj .tight 1 [.int .u8 r2],.aj .tight 1 [.int .u8 P8],.aj .no 1 [.int .u8 (ai%256),.int .u8 (ai / 256%256),.int .u8 (ai / 65536%256),.int .u8 (ai / 16777216%256)]]) 1 (.aj .tight 1 [.int .u8 r2]) rfl,.len 2 2147483648 (by decide),tT,tT,.get ([.aj .tight 1 [.int .u8 r9],.aj .tight 1 [.int .u8 r2],.aj .tight 1 [.int .u8 P8],.aj .no 1 [.int .u8 (ai%256),.int .u8 (ai / 256%256),.int .u8 (ai / 65536%256),.int .u8 (ai / 16777216%256)]]) 2 (.aj .tight 1 [.int .u8 P8]) rfl,.len 3 2147483648 (by decide),tT,tT,.get ([.aj .tight 1 [.int .u8 r9],.aj .tight 1 [.int .u8 r2],.aj .tight 1 [.int .u8 P8],.aj .no 1 [.int .u8 (ai%256),.int .u8 (ai / 256%256),.int .u8 (ai / 65536%256),.int .u8 (ai / 16777216%256)]]) 3 (.aj .no 1 [.int .u8 (ai%256),.int .u8 (ai / 256%256),.int .u8 (ai / 65536%256),.int .u8 (ai / 16777216%256)]) rfl,.len 7 2147483648 (by decide),tF]) (by kernel_rfl)).to (by clear E1;(try rw [mq d0 d1]);(subst_vars;(try simp only [bJ] at*);(try simp only [beq_iff_eq] at h);(try simp only [decide_eq_true_eq,decide_eq_false_iff_not] at*);simp_all [wk,aB,aK,bI,bD,dF,dX,cE,dK,dL];done))
  rcases de (dL false 0 dst false) with RP|RP
  ·have PQ:= @dr 0 dst n0 (by decide) d0 d1 false false RP
   generalize g18:gV false 0 dst=r17 at PQ
   have Qc:= @jN ai
   exact (ei (d:= .aM [.aj (.fresh 1) 1 [.int .u8 r17,.int .u8 (WO.wrap WO.u8 (↑(Vy (Vh (8:Nat) 184|||Vh (8:Nat) (WO.wrap WO.u8 (WO.wrap WO.i8 (↑(Vy (Vh (8:Nat) dst&&&Vh (8:Nat) 7)):Int))))):Int)),.int .u8 (ai%256),.int .u8 (ai / 256%256),.int .u8 (ai / 65536%256),.int .u8 (ai / 16777216%256)],.int .i64 0]) (E1++ [tT,tT,tT,tC (nt (aL h7)),.ret _ _ _ PQ,.ret _ _ _ Qc,.inl,.go 64,tT,tT,.get ([.aj .tight 1 [.int .u8 r17],.aj .tight 1 [.int .u8 (WO.wrap WO.u8 (↑(Vy (Vh (8:Nat) 184|||Vh (8:Nat) (WO.wrap WO.u8 (WO.wrap WO.i8 (↑(Vy (Vh (8:Nat) dst&&&Vh (8:Nat) 7)):Int))))):Int))],.aj .no 1 [.int .u8 (ai%256),.int .u8 (ai / 256%256),.int .u8 (ai / 65536%256),.int .u8 (ai / 16777216%256)]]) 0 (.aj .tight 1 [.int .u8 r17]) rfl,.len 1 2147483648 (by decide),tT,tT,.get ([.aj .tight 1 [.int .u8 r17],.aj .tight 1 [.int .u8 (WO.wrap WO.u8 (↑(Vy (Vh (8:Nat) 184|||Vh (8:Nat) (WO.wrap WO.u8 (WO.wrap WO.i8 (↑(Vy (Vh (8:Nat) dst&&&Vh (8:Nat) 7)):Int))))):Int))],.aj .no 1 [.int .u8 (ai%256),.int .u8 (ai / 256%256),.int .u8 (ai / 65536%256),.int .u8 (ai / 16777216%256)]]) 1 (.aj .tight 1 [.int .u8 (WO.wrap WO.u8 (↑(Vy (Vh (8:Nat) 184|||Vh (8:Nat) (WO.wrap WO.u8 (WO.wrap WO.i8 (↑(Vy (Vh (8:Nat) dst&&&Vh (8:Nat) 7)):Int))))):Int))]) rfl,.len 2 2147483648 (by decide),tT,tT,.get ([.aj .tight 1 [.int .u8 r17],.aj .tight 1 [.int .u8 (WO.wrap WO.u8 (↑(Vy (Vh (8:Nat) 184|||Vh (8:Nat) (WO.wrap WO.u8 (WO.wrap WO.i8 (↑(Vy (Vh (8:Nat) dst&&&Vh (8:Nat) 7)):Int))))):Int))],.aj .no 1 [.int .u8 (ai%256),.int .u8 (ai / 256%256),.int .u8 (ai / 65536%256),.int .u8 (ai / 16777216%256)]]) 2 (.aj .no 1 [.int .u8 (ai%256),.int .u8 (ai / 256%256),.int .u8 (ai / 65536%256),.int .u8 (ai / 16777216%256)]) rfl,.len 6 2147483648 (by decide),tF]) (by kernel_rfl)).to (by clear E1;(try rw [mq d0 d1]);(subst_vars;(try simp only [bJ] at*);(try simp only [beq_iff_eq] at h);(try simp only [decide_eq_true_eq,decide_eq_false_iff_not] at*);simp_all [wk,aB,aK,bI,bD,dF,dX,cE,dK];done))
  have Sq:= @ea 0 dst n0 (by decide) d0 d1 false false RP
  have Te:= @jN ai
  exact (ei (d:= .aM [.aj (.fresh 1) 1 [.int .u8 (WO.wrap WO.u8 (↑(Vy (Vh (8:Nat) 184|||Vh (8:Nat) (WO.wrap WO.u8 (WO.wrap WO.i8 (↑(Vy (Vh (8:Nat) dst&&&Vh (8:Nat) 7)):Int))))):Int)),.int .u8 (ai%256),.int .u8 (ai / 256%256),.int .u8 (ai / 65536%256),.int .u8 (ai / 16777216%256)],.int .i64 0]) (E1++ [tT,tT,tT,tC (nt (aL h7)),.ret _ _ _ Sq,.ret _ _ _ Te,.inl,.go 64,tT,tT,.get ([.aj .tight 1 [],.aj .tight 1 [.int .u8 (WO.wrap WO.u8 (↑(Vy (Vh (8:Nat) 184|||Vh (8:Nat) (WO.wrap WO.u8 (WO.wrap WO.i8 (↑(Vy (Vh (8:Nat) dst&&&Vh (8:Nat) 7)):Int))))):Int))],.aj .no 1 [.int .u8 (ai%256),.int .u8 (ai / 256%256),.int .u8 (ai / 65536%256),.int .u8 (ai / 16777216%256)]]) 0 (.aj .tight 1 []) rfl,.len 0 2147483648 (by decide),tT,tT,.get ([.aj .tight 1 [],.aj .tight 1 [.int .u8 (WO.wrap WO.u8 (↑(Vy (Vh (8:Nat) 184|||Vh (8:Nat) (WO.wrap WO.u8 (WO.wrap WO.i8 (↑(Vy (Vh (8:Nat) dst&&&Vh (8:Nat) 7)):Int))))):Int))],.aj .no 1 [.int .u8 (ai%256),.int .u8 (ai / 256%256),.int .u8 (ai / 65536%256),.int .u8 (ai / 16777216%256)]]) 1 (.aj .tight 1 [.int .u8 (WO.wrap WO.u8 (↑(Vy (Vh (8:Nat) 184|||Vh (8:Nat) (WO.wrap WO.u8 (WO.wrap WO.i8 (↑(Vy (Vh (8:Nat) dst&&&Vh (8:Nat) 7)):Int))))):Int))]) rfl,.len 1 2147483648 (by decide),tT,tT,.get ([.aj .tight 1 [],.aj .tight 1 [.int .u8 (WO.wrap WO.u8 (↑(Vy (Vh (8:Nat) 184|||Vh (8:Nat) (WO.wrap WO.u8 (WO.wrap WO.i8 (↑(Vy (Vh (8:Nat) dst&&&Vh (8:Nat) 7)):Int))))):Int))],.aj .no 1 [.int .u8 (ai%256),.int .u8 (ai / 256%256),.int .u8 (ai / 65536%256),.int .u8 (ai / 16777216%256)]]) 2 (.aj .no 1 [.int .u8 (ai%256),.int .u8 (ai / 256%256),.int .u8 (ai / 65536%256),.int .u8 (ai / 16777216%256)]) rfl,.len 5 2147483648 (by decide),tF]) (by kernel_rfl)).to (by clear E1;(try rw [mq d0 d1]);(subst_vars;(try simp only [bJ] at*);(try simp only [beq_iff_eq] at h);(try simp only [decide_eq_true_eq,decide_eq_false_iff_not] at*);simp_all [wk,aB,aK,bI,bD,dF,dX,cE,dK];done))
 rcases de (dL (w==64) 0 dst false) with h22|h22
 ·have QS:= @dr 0 dst (by decide) (by decide) d0 d1 (w==64) false h22
  generalize g25:gV (w==64) 0 dst=r24 at QS
  have R5:= @gB r4 dst (by (simp only [cf] at*;omega)) (by (simp only [cf] at*;omega)) d0 d1
  generalize g28:e6 r4 dst=r27 at R5
  have SP:= @jN ai
  exact (ei (d:= .aM [.aj (.fresh 1) 1 [.int .u8 r24,.int .u8 r2,.int .u8 r27,.int .u8 (ai%256),.int .u8 (ai / 256%256),.int .u8 (ai / 65536%256),.int .u8 (ai / 16777216%256)],.int .i64 0]) (E1++ [tC (eT (aL h6)),tC (eT (aL h6)),tC (aL h6),tF,.ret _ _ _ QS,.ret _ _ _ R5,.ret _ _ _ SP,.inl,.go 64,tT,tT,.get ([.aj .tight 1 [.int .u8 r24],.aj .tight 1 [.int .u8 r2],.aj .tight 1 [.int .u8 r27],.aj .no 1 [.int .u8 (ai%256),.int .u8 (ai / 256%256),.int .u8 (ai / 65536%256),.int .u8 (ai / 16777216%256)]]) 0 (.aj .tight 1 [.int .u8 r24]) rfl,.len 1 2147483648 (by decide),tT,tT,.get ([.aj .tight 1 [.int .u8 r24],.aj .tight 1 [.int .u8 r2],.aj .tight 1 [.int .u8 r27],.aj .no 1 [.int .u8 (ai%256),.int .u8 (ai / 256%256),.int .u8 (ai / 65536%256),.int .u8 (ai / 16777216%256)]]) 1 (.aj .tight 1 [.int .u8 r2]) rfl,.len 2 2147483648 (by decide),tT,tT,.get ([.aj .tight 1 [.int .u8 r24],.aj .tight 1 [.int .u8 r2],.aj .tight 1 [.int .u8 r27],.aj .no 1 [.int .u8 (ai%256),.int .u8 (ai / 256%256),.int .u8 (ai / 65536%256),.int .u8 (ai / 16777216%256)]]) 2 (.aj .tight 1 [.int .u8 r27]) rfl,.len 3 2147483648 (by decide),tT,tT,.get ([.aj .tight 1 [.int .u8 r24],.aj .tight 1 [.int .u8 r2],.aj .tight 1 [.int .u8 r27],.aj .no 1 [.int .u8 (ai%256),.int .u8 (ai / 256%256),.int .u8 (ai / 65536%256),.int .u8 (ai / 16777216%256)]]) 3 (.aj .no 1 [.int .u8 (ai%256),.int .u8 (ai / 256%256),.int .u8 (ai / 65536%256),.int .u8 (ai / 16777216%256)]) rfl,.len 7 2147483648 (by decide),tF]) (by kernel_rfl)).to (by clear E1;(try rw [mq d0 d1]);(subst_vars;(try simp only [bJ] at*);(try simp only [beq_iff_eq] at h);(try simp only [decide_eq_true_eq,decide_eq_false_iff_not] at*);simp_all [wk,aB,aK,bI,bD,dF,dX,cE,dK];done))
 have R8:= @ea 0 dst (by decide) (by decide) d0 d1 (w==64) false h22
 have R9:= @gB r4 dst (by (simp only [cf] at*;omega)) (by (simp only [cf] at*;omega)) d0 d1
 generalize g33:e6 r4 dst=r32 at R9
 have c34:= @jN ai
 exact (ei (d:= .aM [.aj (.fresh 1) 1 [.int .u8 r2,.int .u8 r32,.int .u8 (ai%256),.int .u8 (ai / 256%256),.int .u8 (ai / 65536%256),.int .u8 (ai / 16777216%256)],.int .i64 0]) (E1++ [tC (eT (aL h6)),tC (eT (aL h6)),tC (aL h6),tF,.ret _ _ _ R8,.ret _ _ _ R9,.ret _ _ _ c34,.inl,.go 64,tT,tT,.get ([.aj .tight 1 [],.aj .tight 1 [.int .u8 r2],.aj .tight 1 [.int .u8 r32],.aj .no 1 [.int .u8 (ai%256),.int .u8 (ai / 256%256),.int .u8 (ai / 65536%256),.int .u8 (ai / 16777216%256)]]) 0 (.aj .tight 1 []) rfl,.len 0 2147483648 (by decide),tT,tT,.get ([.aj .tight 1 [],.aj .tight 1 [.int .u8 r2],.aj .tight 1 [.int .u8 r32],.aj .no 1 [.int .u8 (ai%256),.int .u8 (ai / 256%256),.int .u8 (ai / 65536%256),.int .u8 (ai / 16777216%256)]]) 1 (.aj .tight 1 [.int .u8 r2]) rfl,.len 1 2147483648 (by decide),tT,tT,.get ([.aj .tight 1 [],.aj .tight 1 [.int .u8 r2],.aj .tight 1 [.int .u8 r32],.aj .no 1 [.int .u8 (ai%256),.int .u8 (ai / 256%256),.int .u8 (ai / 65536%256),.int .u8 (ai / 16777216%256)]]) 2 (.aj .tight 1 [.int .u8 r32]) rfl,.len 2 2147483648 (by decide),tT,tT,.get ([.aj .tight 1 [],.aj .tight 1 [.int .u8 r2],.aj .tight 1 [.int .u8 r32],.aj .no 1 [.int .u8 (ai%256),.int .u8 (ai / 256%256),.int .u8 (ai / 65536%256),.int .u8 (ai / 16777216%256)]]) 3 (.aj .no 1 [.int .u8 (ai%256),.int .u8 (ai / 256%256),.int .u8 (ai / 65536%256),.int .u8 (ai / 16777216%256)]) rfl,.len 6 2147483648 (by decide),tF]) (by kernel_rfl)).to (by clear E1;(try rw [mq d0 d1]);(subst_vars;(try simp only [bJ] at*);(try simp only [beq_iff_eq] at h);(try simp only [decide_eq_true_eq,decide_eq_false_iff_not] at*);simp_all [wk,aB,aK,bI,bD,dF,dX,cE,dK];done))
theorem tR (w dst src base aa ai cc:Int) (d0:0≤dst) (d1:dst≤15) (s0:0≤src) (s1:src≤15) (b0:0≤base) (b1:base≤15) (p0: -2147483648≤aa) (p1:aa≤2147483647) (i0: -2147483648≤ai) (i1:ai≤2147483647) (c0:0≤cc) (c1:cc≤15) (hm:aA 25 w dst src base aa ai cc=true):aZ Tryz.prog 105 ([xD 25 w dst src base aa ai cc]) (.aM [.aj .no 1 (bD (bI 25 w dst src base aa ai cc)),.int .i64 0]):=by
 have c0:= @aE 25 w dst src base aa ai cc (by decide)
 rw [hm] at c0
 have c1:= @aN 25 (by decide)
 rcases de (dL (w==64) dst src false) with h2|h2
 ·have c3:= @dr dst src d0 d1 s0 s1 (w==64) false h2
  generalize g5:gV (w==64) dst src=r4 at c3
  have c6:= @gB dst src d0 d1 s0 s1
  generalize g8:e6 dst src=r7 at c6
  exact (ei (d:= .aM [.aj (.fresh 1) 1 [.int .u8 r4,.int .u8 15,.int .u8 (WO.wrap WO.u8 (64+WO.wrap WO.u8 cc)),.int .u8 r7],.int .i64 0]) [.ret _ _ _ c0,tF,.ret _ _ _ c1,tF,tF,tT,.ret _ _ _ c3,.ret _ _ _ c6,.inl,.go 64,tT,tT,.get ([.aj .tight 1 [.int .u8 r4],.aj .tight 1 [.int .u8 15,.int .u8 (WO.wrap WO.u8 (64+WO.wrap WO.u8 cc))],.aj .tight 1 [.int .u8 r7]]) 0 (.aj .tight 1 [.int .u8 r4]) rfl,.len 1 2147483648 (by decide),tT,tT,.get ([.aj .tight 1 [.int .u8 r4],.aj .tight 1 [.int .u8 15,.int .u8 (WO.wrap WO.u8 (64+WO.wrap WO.u8 cc))],.aj .tight 1 [.int .u8 r7]]) 1 (.aj .tight 1 [.int .u8 15,.int .u8 (WO.wrap WO.u8 (64+WO.wrap WO.u8 cc))]) rfl,.len 3 2147483648 (by decide),tT,tT,.get ([.aj .tight 1 [.int .u8 r4],.aj .tight 1 [.int .u8 15,.int .u8 (WO.wrap WO.u8 (64+WO.wrap WO.u8 cc))],.aj .tight 1 [.int .u8 r7]]) 2 (.aj .tight 1 [.int .u8 r7]) rfl,.len 4 2147483648 (by decide),tF] (by kernel_rfl)).to (by (try rw [mq d0 d1]);(subst_vars;(try simp only [bJ] at*);(try simp only [beq_iff_eq] at h);(try simp only [decide_eq_true_eq,decide_eq_false_iff_not] at*);simp_all [wk,aB,aK,bI,bD,dF,dX,cE,dK,dL,cr,dV,aR];omega))
 have c9:= @ea dst src d0 d1 s0 s1 (w==64) false h2
 have Pg:= @gB dst src d0 d1 s0 s1
 generalize g12:e6 dst src=O9 at Pg
 exact (ei (d:= .aM [.aj (.fresh 1) 1 [.int .u8 15,.int .u8 (WO.wrap WO.u8 (64+WO.wrap WO.u8 cc)),.int .u8 O9],.int .i64 0]) [.ret _ _ _ c0,tF,.ret _ _ _ c1,tF,tF,tT,.ret _ _ _ c9,.ret _ _ _ Pg,.inl,.go 64,tT,tT,.get ([.aj .tight 1 [],.aj .tight 1 [.int .u8 15,.int .u8 (WO.wrap WO.u8 (64+WO.wrap WO.u8 cc))],.aj .tight 1 [.int .u8 O9]]) 0 (.aj .tight 1 []) rfl,.len 0 2147483648 (by decide),tT,tT,.get ([.aj .tight 1 [],.aj .tight 1 [.int .u8 15,.int .u8 (WO.wrap WO.u8 (64+WO.wrap WO.u8 cc))],.aj .tight 1 [.int .u8 O9]]) 1 (.aj .tight 1 [.int .u8 15,.int .u8 (WO.wrap WO.u8 (64+WO.wrap WO.u8 cc))]) rfl,.len 2 2147483648 (by decide),tT,tT,.get ([.aj .tight 1 [],.aj .tight 1 [.int .u8 15,.int .u8 (WO.wrap WO.u8 (64+WO.wrap WO.u8 cc))],.aj .tight 1 [.int .u8 O9]]) 2 (.aj .tight 1 [.int .u8 O9]) rfl,.len 3 2147483648 (by decide),tF] (by kernel_rfl)).to (by (try rw [mq d0 d1]);(subst_vars;(try simp only [bJ] at*);(try simp only [beq_iff_eq] at h);(try simp only [decide_eq_true_eq,decide_eq_false_iff_not] at*);simp_all [wk,aB,aK,bI,bD,dF,dX,cE,dK,cr,dV,aR];omega))
end Go.Proofs.YtkpneibifdoecaaGreat
