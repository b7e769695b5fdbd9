import Derived.Shelf.Spec.SlicesGrow
import Derived.Test.YtkpneibifdoecaaGreatT05
import Derived.Test.YtkpneibifdoecaaGreatT06
import Derived.Test.YtkpneibifdoecaaGreatT07
import Derived.Test.YtkpneibifdoecaaGreatT09
import Derived.Test.YtkpneibifdoecaaGreatT10
import Derived.Test.YtkpneibifdoecaaGreatT11
import Derived.Test.YtkpneibifdoecaaGreatT14
open List renaming replicate→Vt,length_set→Vv,length_map→VC,length→VD,append_nil→Wd,getElem_mem→Wr,map_cons→Wu
open Bool renaming eq_iff_iff→Vw,and_eq_true→VG,false_and→VK,and_false→VL,and_true→VM,true_and→VR
open Int renaming lt_add_one_of_le→Vz,not_lt→VH,toNat_natCast→Wh
open BitVec renaming ofInt→VB,toNat→Wi
open Go.Fn renaming func→VE
open Go renaming IntKind→W3
/- Contracts and plain laws that a statement's proof leans on (texts merged:ZI0,ZI1,MdG,MdR,MdQ,MdU,ZI1A,ZI0B,ZI0A,ZI2,ZI2A,FC,GRW,FR1,MdFu,FR1A,FX0,RS0,RS0A,RS1,FT0,FT2). -/
set_option linter.unusedVariables false
set_option linter.unusedSimpArgs false
set_option maxRecDepth 100000
set_option maxHeartbeats 8000000
namespace Go.Proofs.YtkpneibifdoecaaGreat
open Go Go.Ev
theorem A8 (cc:Int):aJ Tryz.prog 94 ([.int .i8 cc]) (.bool (aE cc)):=by
 by_cases h0:cc=2
 ·subst h0
  exact (D1 (d:= .bool true) [tT,tT] (by kernel_rfl)).to (by first|rfl|skip;apply cr;unfold aE;symm;first|(rw [decide_eq_true_eq];omega)|(rw [decide_eq_false_iff_not];omega)|(rw [Vw];simp only [beq_iff_eq,decide_eq_true_eq];omega))
 let E1:EL:= [tC (aH h0)]
 by_cases h1:cc=3
 ·subst h1
  exact (D1 (d:= .bool true) (E1++ [tT,tT]) (by kernel_rfl)).to (by first|rfl|skip;apply cr;unfold aE;symm;first|(rw [decide_eq_true_eq];omega)|(rw [decide_eq_false_iff_not];omega)|(rw [Vw];simp only [beq_iff_eq,decide_eq_true_eq];omega))
 let E2:EL:=E1++ [tC (aH h1)]
 by_cases h2:cc=4
 ·subst h2
  exact (D1 (d:= .bool true) (E2++ [tT,tT]) (by kernel_rfl)).to (by first|rfl|skip;apply cr;unfold aE;symm;first|(rw [decide_eq_true_eq];omega)|(rw [decide_eq_false_iff_not];omega)|(rw [Vw];simp only [beq_iff_eq,decide_eq_true_eq];omega))
 let E3:EL:=E2++ [tC (aH h2)]
 by_cases h3:cc=5
 ·subst h3
  exact (D1 (d:= .bool true) (E3++ [tT,tT]) (by kernel_rfl)).to (by first|rfl|skip;apply cr;unfold aE;symm;first|(rw [decide_eq_true_eq];omega)|(rw [decide_eq_false_iff_not];omega)|(rw [Vw];simp only [beq_iff_eq,decide_eq_true_eq];omega))
 let E4:EL:=E3++ [tC (aH h3)]
 by_cases h4:cc=6
 ·subst h4
  exact (D1 (d:= .bool true) (E4++ [tT,tT]) (by kernel_rfl)).to (by first|rfl|skip;apply cr;unfold aE;symm;first|(rw [decide_eq_true_eq];omega)|(rw [decide_eq_false_iff_not];omega)|(rw [Vw];simp only [beq_iff_eq,decide_eq_true_eq];omega))
 by_cases h5:cc=7
 ·subst h5
  exact (D1 (d:= .bool true) (E4++ [tC (aH h4),tT,tT]) (by kernel_rfl)).to (by first|rfl|skip;apply cr;unfold aE;symm;first|(rw [decide_eq_true_eq];omega)|(rw [decide_eq_false_iff_not];omega)|(rw [Vw];simp only [beq_iff_eq,decide_eq_true_eq];omega))
 let E5:EL:=E4++ [tC (aH h4),tC (aH h5)]
 by_cases h6:cc=12
 ·subst h6
  exact (D1 (d:= .bool true) (E5++ [tT,tT]) (by kernel_rfl)).to (by first|rfl|skip;apply cr;unfold aE;symm;first|(rw [decide_eq_true_eq];omega)|(rw [decide_eq_false_iff_not];omega)|(rw [Vw];simp only [beq_iff_eq,decide_eq_true_eq];omega))
 by_cases h7:cc=13
 ·subst h7
  exact (D1 (d:= .bool true) (E5++ [tC (aH h6),tT,tT]) (by kernel_rfl)).to (by first|rfl|skip;apply cr;unfold aE;symm;first|(rw [decide_eq_true_eq];omega)|(rw [decide_eq_false_iff_not];omega)|(rw [Vw];simp only [beq_iff_eq,decide_eq_true_eq];omega))
 by_cases h8:cc=14
 ·subst h8
  exact (D1 (d:= .bool true) (E5++ [tC (aH h6),tC (aH h7),tT,tT]) (by kernel_rfl)).to (by first|rfl|skip;apply cr;unfold aE;symm;first|(rw [decide_eq_true_eq];omega)|(rw [decide_eq_false_iff_not];omega)|(rw [Vw];simp only [beq_iff_eq,decide_eq_true_eq];omega))
 by_cases h9:cc=15
 ·subst h9
  exact (D1 (d:= .bool true) (E5++ [tC (aH h6),tC (aH h7),tC (aH h8),tT]) (by kernel_rfl)).to (by first|rfl|skip;apply cr;unfold aE;symm;first|(rw [decide_eq_true_eq];omega)|(rw [decide_eq_false_iff_not];omega)|(rw [Vw];simp only [beq_iff_eq,decide_eq_true_eq];omega))
 exact (D1 (d:= .bool false) (E5++ [tC (aH h6),tC (aH h7),tC (aH h8),tC (aH h9)]) (by kernel_rfl)).to (by first|rfl|skip;apply cr;unfold aE;symm;first|(rw [decide_eq_true_eq];omega)|(rw [decide_eq_false_iff_not];omega)|(rw [Vw];simp only [beq_iff_eq,decide_eq_true_eq];omega))
def ml (QC:Int):Prop:= ∀(op w dst src base ai au cc aF aw num to:Int) (ho:op≤127) (hc:cc≤127) (hp:aw≤127) (g0: -128≤aF) (g1:aF≤127),aJ Tryz.prog 62 ([e6 QC op w dst src base ai au cc aF aw num to]) (.bool (hH QC op w dst src base ai au cc aF aw num to))
theorem xH:ml 1:=by
 intro op w dst src base ai au cc aF aw num to ho hc hp g0 g1
 let E1:EL:= [tT,tT,tT,tF,tT,tT,tT,.inl,tF,tT,tT]
 rcases cm (cV aw) with k0|k0
 ·rcases cm (aa [.int .i8 1,.int .i8 op,.int .i8 w,.int .i8 dst,.int .i8 src,.int .i8 base,.int .i64 ai,.int .i64 au,.int .i8 cc,.int .i8 aF,.int .i8 aw,.int .i64 num,.int .i64 to] [.int .i8 1,.int .i8 0,.int .i8 0,.int .i8 0,.int .i8 0,.int .i8 0,.int .i64 0,.int .i64 0,.int .i8 0,.int .i8 aF,.int .i8 aw,.int .i64 0,.int .i64 0]) with h1|h1
  ·let E2:EL:=E1++ [.bO [(0,.box [.int .i8 1,.int .i8 op,.int .i8 w,.int .i8 dst,.int .i8 src,.int .i8 base,.int .i64 ai,.int .i64 au,.int .i8 cc,.int .i8 aF,.int .i8 aw,.int .i64 num,.int .i64 to])],tT,.flat _ _ cf,tF,tC (nt h1),tF,tT,tT]
   rcases cm (decide (aF<0)) with h2|h2
   ·exact (jd (d:= .bool false) (E2++Vt 3 (tC (eT (aK 0 h2)))++ [tC (aK 0 h2),tF,tF,tF,tF]) (by kernel_rfl)).to (by clear E1 E2;simp only [wk,D.bool.injEq,aL,fg,bR,k0,h1,h2,VR,VK,VM,VL];rw [Vw];simp only [hQ,aL] at*;omega)
   rcases cm (decide (aF<11)) with h3|h3
   ·have c4:= @dQ aw
    exact (jd (d:= .bool (cV aw)) (E2++Vt 3 (tC (eT (aK 0 h2)))++ [tC (aK 0 h2),tC (eT h3),tC (eT h3),tC (eT h3),.ret _ _ _ c4,tC h3]) (by kernel_rfl)).to (by clear E1 E2;simp only [wk,D.bool.injEq,aL,fg,bR,k0,h1,h2,h3,VR,VK,VM,VL];rw [Vw];simp only [hQ,aL] at*;omega)
   exact (jd (d:= .bool false) (E2++Vt 3 (tC (eT (aK 0 h2)))++ [tC (aK 0 h2),tC (eT h3),tC (eT h3),tC (eT h3),tC h3]) (by kernel_rfl)).to (by clear E1 E2;simp only [wk,D.bool.injEq,aL,fg,bR,k0,h1,h2,h3,VR,VK,VM,VL];rw [Vw];simp only [hQ,aL] at*;omega)
  exact (jd (d:= .bool false) (E1++ [.bO [(0,.box [.int .i8 1,.int .i8 op,.int .i8 w,.int .i8 dst,.int .i8 src,.int .i8 base,.int .i64 ai,.int .i64 au,.int .i8 cc,.int .i8 aF,.int .i8 aw,.int .i64 num,.int .i64 to])],tT,.flat _ _ cf,tF,tC (nt h1)]) (by kernel_rfl)).to (by clear E1;simp only [wk,D.bool.injEq,aL,fg,bR,k0,h1,VR,VK,VM,VL];rw [Vw];simp only [hQ,aL] at*;omega)
 rcases cm (aa [.int .i8 1,.int .i8 op,.int .i8 w,.int .i8 dst,.int .i8 src,.int .i8 base,.int .i64 ai,.int .i64 au,.int .i8 cc,.int .i8 aF,.int .i8 aw,.int .i64 num,.int .i64 to] [.int .i8 1,.int .i8 0,.int .i8 0,.int .i8 0,.int .i8 0,.int .i8 0,.int .i64 0,.int .i64 0,.int .i8 0,.int .i8 aF,.int .i8 aw,.int .i64 0,.int .i64 0]) with h5|h5
 ·let E3:EL:=E1++ [.bO [(0,.box [.int .i8 1,.int .i8 op,.int .i8 w,.int .i8 dst,.int .i8 src,.int .i8 base,.int .i64 ai,.int .i64 au,.int .i8 cc,.int .i8 aF,.int .i8 aw,.int .i64 num,.int .i64 to])],tT,.flat _ _ cf,tF,tC (nt h5),tF,tT,tT]
  rcases cm (decide (aF<0)) with h6|h6
  ·exact (jd (d:= .bool false) (E3++Vt 3 (tC (eT (aK 0 h6)))++ [tC (aK 0 h6),tF,tF,tF,tF]) (by kernel_rfl)).to (by simp only [wk,D.bool.injEq,aL,fg,bR,k0,h5,h6,VR,VK,VM,VL];done)
  rcases cm (decide (aF<11)) with h7|h7
  ·have c8:= @dQ aw
   exact (jd (d:= .bool (cV aw)) (E3++Vt 3 (tC (eT (aK 0 h6)))++ [tC (aK 0 h6),tC (eT h7),tC (eT h7),tC (eT h7),.ret _ _ _ c8,tC h7]) (by kernel_rfl)).to (by simp only [wk,D.bool.injEq,aL,fg,bR,k0,h5,h6,h7,VR,VK,VM,VL];done)
  exact (jd (d:= .bool false) (E3++Vt 3 (tC (eT (aK 0 h6)))++ [tC (aK 0 h6),tC (eT h7),tC (eT h7),tC (eT h7),tC h7]) (by kernel_rfl)).to (by simp only [wk,D.bool.injEq,aL,fg,bR,k0,h5,h6,h7,VR,VK,VM,VL];done)
 exact (jd (d:= .bool false) (E1++ [.bO [(0,.box [.int .i8 1,.int .i8 op,.int .i8 w,.int .i8 dst,.int .i8 src,.int .i8 base,.int .i64 ai,.int .i64 au,.int .i8 cc,.int .i8 aF,.int .i8 aw,.int .i64 num,.int .i64 to])],tT,.flat _ _ cf,tF,tC (nt h5)]) (by kernel_rfl)).to (by simp only [wk,D.bool.injEq,aL,fg,bR,k0,h5,VR,VK,VM,VL];done)
theorem xG:ml 2:=by
 intro op w dst src base ai au cc aF aw num to ho hc hp g0 g1
 let E1:EL:= [tT,tT,tT,tF,tT,tT,tT,.inl,tF,tF,tT]
 rcases cm (cV aw) with k0|k0
 ·rcases cm (aa [.int .i8 2,.int .i8 op,.int .i8 w,.int .i8 dst,.int .i8 src,.int .i8 base,.int .i64 ai,.int .i64 au,.int .i8 cc,.int .i8 aF,.int .i8 aw,.int .i64 num,.int .i64 to] [.int .i8 2,.int .i8 0,.int .i8 0,.int .i8 0,.int .i8 0,.int .i8 0,.int .i64 0,.int .i64 0,.int .i8 0,.int .i8 aF,.int .i8 aw,.int .i64 0,.int .i64 0]) with h1|h1
  ·let E2:EL:=E1++ [.bO [(0,.box [.int .i8 2,.int .i8 op,.int .i8 w,.int .i8 dst,.int .i8 src,.int .i8 base,.int .i64 ai,.int .i64 au,.int .i8 cc,.int .i8 aF,.int .i8 aw,.int .i64 num,.int .i64 to])],tT,.flat _ _ cf,tF,tC (nt h1),tF,tF,tT]
   rcases cm (decide (aF<0)) with h2|h2
   ·exact (jd (d:= .bool false) (E2++Vt 3 (tC (eT (aK 0 h2)))++ [tC (aK 0 h2),tF,tF,tF,tF]) (by kernel_rfl)).to (by clear E1 E2;simp only [wk,D.bool.injEq,aL,ff,bR,k0,h1,h2,VR,VK,VM,VL];rw [Vw];simp only [hQ,aL] at*;omega)
   rcases cm (decide (aF<11)) with h3|h3
   ·have c4:= @dQ aw
    exact (jd (d:= .bool (cV aw)) (E2++Vt 3 (tC (eT (aK 0 h2)))++ [tC (aK 0 h2),tC (eT h3),tC (eT h3),tC (eT h3),.ret _ _ _ c4,tC h3]) (by kernel_rfl)).to (by clear E1 E2;simp only [wk,D.bool.injEq,aL,ff,bR,k0,h1,h2,h3,VR,VK,VM,VL];rw [Vw];simp only [hQ,aL] at*;omega)
   exact (jd (d:= .bool false) (E2++Vt 3 (tC (eT (aK 0 h2)))++ [tC (aK 0 h2),tC (eT h3),tC (eT h3),tC (eT h3),tC h3]) (by kernel_rfl)).to (by clear E1 E2;simp only [wk,D.bool.injEq,aL,ff,bR,k0,h1,h2,h3,VR,VK,VM,VL];rw [Vw];simp only [hQ,aL] at*;omega)
  exact (jd (d:= .bool false) (E1++ [.bO [(0,.box [.int .i8 2,.int .i8 op,.int .i8 w,.int .i8 dst,.int .i8 src,.int .i8 base,.int .i64 ai,.int .i64 au,.int .i8 cc,.int .i8 aF,.int .i8 aw,.int .i64 num,.int .i64 to])],tT,.flat _ _ cf,tF,tC (nt h1)]) (by kernel_rfl)).to (by clear E1;simp only [wk,D.bool.injEq,aL,ff,bR,k0,h1,VR,VK,VM,VL];rw [Vw];simp only [hQ,aL] at*;omega)
 rcases cm (aa [.int .i8 2,.int .i8 op,.int .i8 w,.int .i8 dst,.int .i8 src,.int .i8 base,.int .i64 ai,.int .i64 au,.int .i8 cc,.int .i8 aF,.int .i8 aw,.int .i64 num,.int .i64 to] [.int .i8 2,.int .i8 0,.int .i8 0,.int .i8 0,.int .i8 0,.int .i8 0,.int .i64 0,.int .i64 0,.int .i8 0,.int .i8 aF,.int .i8 aw,.int .i64 0,.int .i64 0]) with h5|h5
 ·let E3:EL:=E1++ [.bO [(0,.box [.int .i8 2,.int .i8 op,.int .i8 w,.int .i8 dst,.int .i8 src,.int .i8 base,.int .i64 ai,.int .i64 au,.int .i8 cc,.int .i8 aF,.int .i8 aw,.int .i64 num,.int .i64 to])],tT,.flat _ _ cf,tF,tC (nt h5),tF,tF,tT]
  rcases cm (decide (aF<0)) with h6|h6
  ·exact (jd (d:= .bool false) (E3++Vt 3 (tC (eT (aK 0 h6)))++ [tC (aK 0 h6),tF,tF,tF,tF]) (by kernel_rfl)).to (by simp only [wk,D.bool.injEq,aL,ff,bR,k0,h5,h6,VR,VK,VM,VL];done)
  rcases cm (decide (aF<11)) with h7|h7
  ·have c8:= @dQ aw
   exact (jd (d:= .bool (cV aw)) (E3++Vt 3 (tC (eT (aK 0 h6)))++ [tC (aK 0 h6),tC (eT h7),tC (eT h7),tC (eT h7),.ret _ _ _ c8,tC h7]) (by kernel_rfl)).to (by simp only [wk,D.bool.injEq,aL,ff,bR,k0,h5,h6,h7,VR,VK,VM,VL];done)
  exact (jd (d:= .bool false) (E3++Vt 3 (tC (eT (aK 0 h6)))++ [tC (aK 0 h6),tC (eT h7),tC (eT h7),tC (eT h7),tC h7]) (by kernel_rfl)).to (by simp only [wk,D.bool.injEq,aL,ff,bR,k0,h5,h6,h7,VR,VK,VM,VL];done)
 exact (jd (d:= .bool false) (E1++ [.bO [(0,.box [.int .i8 2,.int .i8 op,.int .i8 w,.int .i8 dst,.int .i8 src,.int .i8 base,.int .i64 ai,.int .i64 au,.int .i8 cc,.int .i8 aF,.int .i8 aw,.int .i64 num,.int .i64 to])],tT,.flat _ _ cf,tF,tC (nt h5)]) (by kernel_rfl)).to (by simp only [wk,D.bool.injEq,aL,ff,bR,k0,h5,VR,VK,VM,VL];done)
theorem xF:ml 3:=by
 intro op w dst src base ai au cc aF aw num to ho hc hp g0 g1
 let E1:EL:= [tT,tT,tT,tF,tT,tT,tT,.inl,tF,tF,tF,tT]
 rcases cm (aa [.int .i8 3,.int .i8 op,.int .i8 w,.int .i8 dst,.int .i8 src,.int .i8 base,.int .i64 ai,.int .i64 au,.int .i8 cc,.int .i8 aF,.int .i8 aw,.int .i64 num,.int .i64 to] [.int .i8 3,.int .i8 0,.int .i8 0,.int .i8 0,.int .i8 0,.int .i8 0,.int .i64 0,.int .i64 0,.int .i8 0,.int .i8 0,.int .i8 0,.int .i64 num,.int .i64 0]) with h0|h0
 ·let E2:EL:=E1++ [.bO [(0,.box [.int .i8 3,.int .i8 op,.int .i8 w,.int .i8 dst,.int .i8 src,.int .i8 base,.int .i64 ai,.int .i64 au,.int .i8 cc,.int .i8 aF,.int .i8 aw,.int .i64 num,.int .i64 to])],tT,.flat _ _ cf,tF,tC (nt h0),tF,tF,tF,tT]
  rcases cm (decide (num<0)) with h1|h1
  ·exact (jd (d:= .bool false) (E2++Vt 3 (tC (eT (aK 0 h1)))++ [tC (aK 0 h1)]) (by kernel_rfl)).to (by clear E1 E2;simp only [wk,D.bool.injEq,aL,kC,bR,h0,h1,VR,VK,VM,VL];rw [Vw];simp only [hQ,aL] at*;omega)
  exact (jd (d:= .bool (decide (num<16))) (E2++Vt 3 (tC (eT (aK 0 h1)))++ [tC (aK 0 h1)]) (by kernel_rfl)).to (by clear E1 E2;simp only [wk,D.bool.injEq,aL,kC,bR,h0,h1,VR,VK,VM,VL];rw [Vw];simp only [hQ,aL] at*;omega)
 exact (jd (d:= .bool false) (E1++ [.bO [(0,.box [.int .i8 3,.int .i8 op,.int .i8 w,.int .i8 dst,.int .i8 src,.int .i8 base,.int .i64 ai,.int .i64 au,.int .i8 cc,.int .i8 aF,.int .i8 aw,.int .i64 num,.int .i64 to])],tT,.flat _ _ cf,tF,tC (nt h0)]) (by kernel_rfl)).to (by clear E1;simp only [wk,D.bool.injEq,aL,kC,bR,h0,VR,VK,VM,VL];rw [Vw];simp only [hQ,aL] at*;omega)
theorem xE:ml 4:=by
 intro op w dst src base ai au cc aF aw num to ho hc hp g0 g1
 let E1:EL:= [tT,tT,tT,tF,tT,tT,tT,.inl,tF,tF,tF,tF,tT]
 rcases cm (aa [.int .i8 4,.int .i8 op,.int .i8 w,.int .i8 dst,.int .i8 src,.int .i8 base,.int .i64 ai,.int .i64 au,.int .i8 cc,.int .i8 aF,.int .i8 aw,.int .i64 num,.int .i64 to] [.int .i8 4,.int .i8 29,.int .i8 0,.int .i8 0,.int .i8 0,.int .i8 0,.int .i64 0,.int .i64 0,.int .i8 cc,.int .i8 0,.int .i8 0,.int .i64 0,.int .i64 to]) with h0|h0
 ·have c1:= @A8 cc
  let E2:EL:=E1++ [.bO [(0,.box [.int .i8 4,.int .i8 op,.int .i8 w,.int .i8 dst,.int .i8 src,.int .i8 base,.int .i64 ai,.int .i64 au,.int .i8 cc,.int .i8 aF,.int .i8 aw,.int .i64 num,.int .i64 to])],tT,.flat _ _ cf,tF,tC (nt h0),tF,tF,tF,tF,tT,.ret _ _ _ c1]
  rcases cm (aE cc) with h2|h2
  ·rcases cm (decide (to<0)) with h3|h3
   ·exact (jd (d:= .bool false) (E2++ [tC (eT h2),tC (eT h2),tC (eT h2),tC h2]++Vt 3 (tC (eT (aK 0 h3)))++ [tC (aK 0 h3)]) (by kernel_rfl)).to (by clear E1 E2;simp only [wk,D.bool.injEq,aL,gJ,bR,h0,h2,h3,VR,VK,VM,VL];rw [Vw];simp only [hQ,aL] at*;omega)
   exact (jd (d:= .bool (decide (to≤64))) (E2++ [tC (eT h2),tC (eT h2),tC (eT h2),tC h2]++Vt 3 (tC (eT (aK 0 h3)))++ [tC (aK 0 h3)]) (by kernel_rfl)).to (by clear E1 E2;simp only [wk,D.bool.injEq,aL,gJ,bR,h0,h2,h3,VR,VK,VM,VL];rw [Vw];simp only [hQ,aL] at*;omega)
  exact (jd (d:= .bool false) (E2++ [tC (eT h2),tC (eT h2),tC (eT h2),tC h2,tF,tF,tF,tF]) (by kernel_rfl)).to (by simp only [wk,D.bool.injEq,aL,gJ,bR,h0,h2,VR,VK,VM,VL];done)
 exact (jd (d:= .bool false) (E1++ [.bO [(0,.box [.int .i8 4,.int .i8 op,.int .i8 w,.int .i8 dst,.int .i8 src,.int .i8 base,.int .i64 ai,.int .i64 au,.int .i8 cc,.int .i8 aF,.int .i8 aw,.int .i64 num,.int .i64 to])],tT,.flat _ _ cf,tF,tC (nt h0)]) (by kernel_rfl)).to (by clear E1;simp only [wk,D.bool.injEq,aL,gJ,bR,h0,VR,VK,VM,VL];rw [Vw];simp only [hQ,aL] at*;omega)
theorem xC:ml 5:=by
 intro op w dst src base ai au cc aF aw num to ho hc hp g0 g1
 let E1:EL:= [tT,tT,tT,tF,tT,tT,tT,.inl,tF,tF,tF,tF,tF,tT]
 rcases cm (aa [.int .i8 5,.int .i8 op,.int .i8 w,.int .i8 dst,.int .i8 src,.int .i8 base,.int .i64 ai,.int .i64 au,.int .i8 cc,.int .i8 aF,.int .i8 aw,.int .i64 num,.int .i64 to] [.int .i8 5,.int .i8 0,.int .i8 0,.int .i8 0,.int .i8 0,.int .i8 0,.int .i64 0,.int .i64 0,.int .i8 0,.int .i8 0,.int .i8 0,.int .i64 0,.int .i64 to]) with h0|h0
 ·let E2:EL:=E1++ [.bO [(0,.box [.int .i8 5,.int .i8 op,.int .i8 w,.int .i8 dst,.int .i8 src,.int .i8 base,.int .i64 ai,.int .i64 au,.int .i8 cc,.int .i8 aF,.int .i8 aw,.int .i64 num,.int .i64 to])],tT,.flat _ _ cf,tF,tC (nt h0),tF,tF,tF,tF,tF,tT]
  rcases cm (decide (to<0)) with h1|h1
  ·exact (jd (d:= .bool false) (E2++Vt 3 (tC (eT (aK 0 h1)))++ [tC (aK 0 h1)]) (by kernel_rfl)).to (by clear E1 E2;simp only [wk,D.bool.injEq,aL,l3,bR,h0,h1,VR,VK,VM,VL];rw [Vw];simp only [hQ,aL] at*;omega)
  exact (jd (d:= .bool (decide (to≤64))) (E2++Vt 3 (tC (eT (aK 0 h1)))++ [tC (aK 0 h1)]) (by kernel_rfl)).to (by clear E1 E2;simp only [wk,D.bool.injEq,aL,l3,bR,h0,h1,VR,VK,VM,VL];rw [Vw];simp only [hQ,aL] at*;omega)
 exact (jd (d:= .bool false) (E1++ [.bO [(0,.box [.int .i8 5,.int .i8 op,.int .i8 w,.int .i8 dst,.int .i8 src,.int .i8 base,.int .i64 ai,.int .i64 au,.int .i8 cc,.int .i8 aF,.int .i8 aw,.int .i64 num,.int .i64 to])],tT,.flat _ _ cf,tF,tC (nt h0)]) (by kernel_rfl)).to (by clear E1;simp only [wk,D.bool.injEq,aL,l3,bR,h0,VR,VK,VM,VL];rw [Vw];simp only [hQ,aL] at*;omega)
theorem xB:ml 6:=by
 intro op w dst src base ai au cc aF aw num to ho hc hp g0 g1
 rcases cm (aa [.int .i8 6,.int .i8 op,.int .i8 w,.int .i8 dst,.int .i8 src,.int .i8 base,.int .i64 ai,.int .i64 au,.int .i8 cc,.int .i8 aF,.int .i8 aw,.int .i64 num,.int .i64 to] [.int .i8 6,.int .i8 0,.int .i8 0,.int .i8 0,.int .i8 0,.int .i8 0,.int .i64 0,.int .i64 0,.int .i8 0,.int .i8 0,.int .i8 0,.int .i64 0,.int .i64 0]) with h0|h0
 ·exact (jd (d:= .bool true) [tT,tT,tT,tF,tT,tT,tT,.inl,tF,tF,tF,tF,tF,tF,.bO [(0,.box [.int .i8 6,.int .i8 op,.int .i8 w,.int .i8 dst,.int .i8 src,.int .i8 base,.int .i64 ai,.int .i64 au,.int .i8 cc,.int .i8 aF,.int .i8 aw,.int .i64 num,.int .i64 to])],tT,.flat _ _ cf,tF,tC (nt h0),tF,tF,tF,tF,tF,tF] (by kernel_rfl)).to (by simp only [wk,D.bool.injEq,aL,yO,bR,VR,VK,VM,VL];rw [Vw];simp only [hQ,aL] at*;omega)
 exact (jd (d:= .bool false) [tT,tT,tT,tF,tT,tT,tT,.inl,tF,tF,tF,tF,tF,tF,.bO [(0,.box [.int .i8 6,.int .i8 op,.int .i8 w,.int .i8 dst,.int .i8 src,.int .i8 base,.int .i64 ai,.int .i64 au,.int .i8 cc,.int .i8 aF,.int .i8 aw,.int .i64 num,.int .i64 to])],tT,.flat _ _ cf,tF,tC (nt h0)] (by kernel_rfl)).to (by simp only [wk,D.bool.injEq,aL,yO,bR,VR,VK,VM,VL];rw [Vw];simp only [hQ,aL] at*;omega)
theorem uL (kind op w dst src base ai au cc aF aw num to:Int) (h:kind<0) (h2: -128≤kind):aJ Tryz.prog 62 ([e6 kind op w dst src base ai au cc aF aw num to]) (.bool false):=by
 exact (jd (d:= .bool false) (Vt 3 (tC (eF (decide_eq_true h)))++ [tC (decide_eq_true h),tF,tF,tF,tF,tT,tT]) (by kernel_rfl)).to (by simp [wk])
theorem uM (kind op w dst src base ai au cc aF aw num to:Int) (h:7≤kind) (h2:kind≤127):aJ Tryz.prog 62 ([e6 kind op w dst src base ai au cc aF aw num to]) (.bool false):=by
 exact (jd (d:= .bool false) (Vt 3 (tC (eF (mE 0 (decide_eq_false (VH.2 h)))))++ [tC (mE 0 (decide_eq_false (VH.2 h)))]++Vt 4 (tC (eF (fh 6 (decide_eq_false (VH.2 h)))))++ [tC (fh 6 (decide_eq_false (VH.2 h))),tT]) (by kernel_rfl)).to (by simp [wk])
theorem Fu (nm:Int):ak Tryz.prog (aC Tryz.f62 0) ⟨[],[],[]⟩ 8 [uu,uu,uu,uu,.int .i64 nm,.int .i8 16,uu,uu,uu,uu,uu,uu,uu,uu,uu,uu,uu,uu,uu,uu,uu,uu,uu,uu,uu,uu,uu,uu,uu,uu,uu,uu,uu,uu,uu,uu,uu,uu,uu,uu,uu,uu,uu,uu,uu,uu,uu,uu,uu,uu,uu,uu,uu,uu,uu,uu,uu,uu,uu,uu,uu,uu,uu,uu,uu,uu,uu,uu,uu,uu,uu,uu,uu,uu,uu,uu,uu,uu,uu,uu,uu,uu,uu,uu,uu,uu,uu,uu,uu,uu,uu,uu,uu,uu,uu,uu,uu,uu,uu,uu,uu,uu,uu,uu,uu,uu,uu,uu,uu,uu] [.dead,.dead,.dead,.dead,.dead,.dead,.dead,.dead] (.exit 1) [uu,uu,uu,uu,uu,uu,uu,uu,uu,uu,uu,uu,uu,uu,uu,uu,uu,uu,uu,uu,uu,uu,uu,uu,uu,uu,uu,uu,uu,uu,uu,uu,uu,uu,uu,uu,uu,uu,uu,uu,uu,uu,uu,uu,uu,uu,uu,uu,uu,uu,uu,uu,uu,uu,uu,uu,uu,uu,uu,uu,uu,uu,uu,uu,uu,uu,uu,uu,uu,uu,uu,uu,uu,uu,uu,uu,uu,uu,uu,uu,uu,uu,uu,uu,uu,uu,uu,uu,uu,uu,uu,uu,uu,uu,uu,uu,uu,uu,uu,uu,uu,uu,uu,uu,uu,uu,uu,uu,uu,uu] ([.dead,.dead,.dead,.dead,.dead,.dead,.dead,.dead]):=by
 exact (ak.ao (sp:=⟨[],[],[]⟩) (n0:=8) (ex:=Ex.exit (1:Nat)) (t':= [uu,uu,uu,uu,uu,uu,uu,uu,uu,uu,uu,uu,uu,uu,uu,uu,uu,uu,uu,uu,uu,uu,uu,uu,uu,uu,uu,uu,uu,uu,uu,uu,uu,uu,uu,uu,uu,uu,uu,uu,uu,uu,uu,uu,uu,uu,uu,uu,uu,uu,uu,uu,uu,uu,uu,uu,uu,uu,uu,uu,uu,uu,uu,uu,uu,uu,uu,uu,uu,uu,uu,uu,uu,uu,uu,uu,uu,uu,uu,uu,uu,uu,uu,uu,uu,uu,uu,uu,uu,uu,uu,uu,uu,uu,uu,uu,uu,uu,uu,uu,uu,uu,uu,uu,uu,uu,uu,uu,uu,uu]) (s':= [.dead,.dead,.dead,.dead,.dead,.dead,.dead,.dead]) mixed [tF] (by kernel_rfl)).cast (by first|rfl|(rw [show W3.i8.wrap (k+1)=k+1 by rw [dD];omega];done)|(rw [show W3.i8.wrap (k+1)=k+1 by rw [dD];omega];rfl)) (by first|rfl|(rw [show W3.i8.wrap (k+1)=k+1 by rw [dD];omega];done)|(rw [show W3.i8.wrap (k+1)=k+1 by rw [dD];omega];rfl))
theorem Jp (nm k:Int) (k0:0≤k) (k1:k≤15) (hb:(cS nm k==1)=false):ak Tryz.prog (aC Tryz.f62 0) ⟨[4,5],[],[]⟩ 8 [uu,uu,uu,uu,.int .i64 nm,.int .i8 k,uu,uu,uu,uu,uu,uu,uu,uu,uu,uu,uu,uu,uu,uu,uu,uu,uu,uu,uu,uu,uu,uu,uu,uu,uu,uu,uu,uu,uu,uu,uu,uu,uu,uu,uu,uu,uu,uu,uu,uu,uu,uu,uu,uu,uu,uu,uu,uu,uu,uu,uu,uu,uu,uu,uu,uu,uu,uu,uu,uu,uu,uu,uu,uu,uu,uu,uu,uu,uu,uu,uu,uu,uu,uu,uu,uu,uu,uu,uu,uu,uu,uu,uu,uu,uu,uu,uu,uu,uu,uu,uu,uu,uu,uu,uu,uu,uu,uu,uu,uu,uu,uu,uu,uu] [.dead,.dead,.dead,.dead,.dead,.dead,.dead,.dead] .norm [uu,uu,uu,uu,.int .i64 nm,.int .i8 (k+1),uu,uu,uu,uu,uu,uu,uu,uu,uu,uu,uu,uu,uu,uu,uu,uu,uu,uu,uu,uu,uu,uu,uu,uu,uu,uu,uu,uu,uu,uu,uu,uu,uu,uu,uu,uu,uu,uu,uu,uu,uu,uu,uu,uu,uu,uu,uu,uu,uu,uu,uu,uu,uu,uu,uu,uu,uu,uu,uu,uu,uu,uu,uu,uu,uu,uu,uu,uu,uu,uu,uu,uu,uu,uu,uu,uu,uu,uu,uu,uu,uu,uu,uu,uu,uu,uu,uu,uu,uu,uu,uu,uu,uu,uu,uu,uu,uu,uu,uu,uu,uu,uu,uu,uu] ([.dead,.dead,.dead,.dead,.dead,.dead,.dead,.dead]):=by
 exact (ak.ao (sp:=⟨[4,5],[],[]⟩) (n0:=8) (ex:=Ex.norm) (t':= [uu,uu,uu,uu,.int .i64 nm,.int .i8 (W3.wrap W3.i8 (k+1)),uu,uu,uu,uu,uu,uu,uu,uu,uu,uu,uu,uu,uu,uu,uu,uu,uu,uu,uu,uu,uu,uu,uu,uu,uu,uu,uu,uu,uu,uu,uu,uu,uu,uu,uu,uu,uu,uu,uu,uu,uu,uu,uu,uu,uu,uu,uu,uu,uu,uu,uu,uu,uu,uu,uu,uu,uu,uu,uu,uu,uu,uu,uu,uu,uu,uu,uu,uu,uu,uu,uu,uu,uu,uu,uu,uu,uu,uu,uu,uu,uu,uu,uu,uu,uu,uu,uu,uu,uu,uu,uu,uu,uu,uu,uu,uu,uu,uu,uu,uu,uu,uu,uu,uu]) (s':= [.dead,.dead,.dead,.dead,.dead,.dead,.dead,.dead]) mixed ([tC (decide_eq_true (Vz k1)),tC (v:=true) (@sL k)]++Vt 3 (tC (eT (@AG nm k k0 k1 hb)))++ [tC (@AG nm k k0 k1 hb),tF]) (by kernel_rfl)).cast (by first|rfl|(rw [show W3.i8.wrap (k+1)=k+1 by rw [dD];omega];done)|(rw [show W3.i8.wrap (k+1)=k+1 by rw [dD];omega];rfl)) (by first|rfl|(rw [show W3.i8.wrap (k+1)=k+1 by rw [dD];omega];done)|(rw [show W3.i8.wrap (k+1)=k+1 by rw [dD];omega];rfl))
theorem Jq (nm k:Int) (k0:0≤k) (k1:k≤15) (hb:(cS nm k==1)=true) (hs:cV k=true):ak Tryz.prog (aC Tryz.f62 0) ⟨[4,5],[],[]⟩ 8 [uu,uu,uu,uu,.int .i64 nm,.int .i8 k,uu,uu,uu,uu,uu,uu,uu,uu,uu,uu,uu,uu,uu,uu,uu,uu,uu,uu,uu,uu,uu,uu,uu,uu,uu,uu,uu,uu,uu,uu,uu,uu,uu,uu,uu,uu,uu,uu,uu,uu,uu,uu,uu,uu,uu,uu,uu,uu,uu,uu,uu,uu,uu,uu,uu,uu,uu,uu,uu,uu,uu,uu,uu,uu,uu,uu,uu,uu,uu,uu,uu,uu,uu,uu,uu,uu,uu,uu,uu,uu,uu,uu,uu,uu,uu,uu,uu,uu,uu,uu,uu,uu,uu,uu,uu,uu,uu,uu,uu,uu,uu,uu,uu,uu] [.dead,.dead,.dead,.dead,.dead,.dead,.dead,.dead] .norm [uu,uu,uu,uu,.int .i64 nm,.int .i8 (k+1),uu,uu,uu,uu,uu,uu,uu,uu,uu,uu,uu,uu,uu,uu,uu,uu,uu,uu,uu,uu,uu,uu,uu,uu,uu,uu,uu,uu,uu,uu,uu,uu,uu,uu,uu,uu,uu,uu,uu,uu,uu,uu,uu,uu,uu,uu,uu,uu,uu,uu,uu,uu,uu,uu,uu,uu,uu,uu,uu,uu,uu,uu,uu,uu,uu,uu,uu,uu,uu,uu,uu,uu,uu,uu,uu,uu,uu,uu,uu,uu,uu,uu,uu,uu,uu,uu,uu,uu,uu,uu,uu,uu,uu,uu,uu,uu,uu,uu,uu,uu,uu,uu,uu,uu] ([.dead,.dead,.dead,.dead,.dead,.dead,.dead,.dead]):=by
 have c0:= @dQ k
 exact (ak.ao (sp:=⟨[4,5],[],[]⟩) (n0:=8) (ex:=Ex.norm) (t':= [uu,uu,uu,uu,.int .i64 nm,.int .i8 (W3.wrap W3.i8 (k+1)),uu,uu,uu,uu,uu,uu,uu,uu,uu,uu,uu,uu,uu,uu,uu,uu,uu,uu,uu,uu,uu,uu,uu,uu,uu,uu,uu,uu,uu,uu,uu,uu,uu,uu,uu,uu,uu,uu,uu,uu,uu,uu,uu,uu,uu,uu,uu,uu,uu,uu,uu,uu,uu,uu,uu,uu,uu,uu,uu,uu,uu,uu,uu,uu,uu,uu,uu,uu,uu,uu,uu,uu,uu,uu,uu,uu,uu,uu,uu,uu,uu,uu,uu,uu,uu,uu,uu,uu,uu,uu,uu,uu,uu,uu,uu,uu,uu,uu,uu,uu,uu,uu,uu,uu]) (s':= [.dead,.dead,.dead,.dead,.dead,.dead,.dead,.dead]) mixed [tC (decide_eq_true (Vz k1)),tC (v:=true) (@sL k),tC (eT (bS 1 true (eq_of_beq (@hD nm k k0 k1 (bS 1 true (eq_of_beq hb)))))),tC (eT (bS 1 true (eq_of_beq (@hD nm k k0 k1 (bS 1 true (eq_of_beq hb)))))),.ret _ _ _ c0,tC (eT (bS 1 true (eq_of_beq (@hD nm k k0 k1 (bS 1 true (eq_of_beq hb)))))),tC (bS 1 true (eq_of_beq (@hD nm k k0 k1 (bS 1 true (eq_of_beq hb))))),tC (nt hs)] (by kernel_rfl)).cast (by first|rfl|(rw [show W3.i8.wrap (k+1)=k+1 by rw [dD];omega];done)|(rw [show W3.i8.wrap (k+1)=k+1 by rw [dD];omega];rfl)) (by first|rfl|(rw [show W3.i8.wrap (k+1)=k+1 by rw [dD];omega];done)|(rw [show W3.i8.wrap (k+1)=k+1 by rw [dD];omega];rfl))
theorem HR (nm k:Int) (k0:0≤k) (k1:k≤15) (hb:(cS nm k==1)=true) (hs:cV k=false):ak Tryz.prog (aC Tryz.f62 0) ⟨[2],[],[]⟩ 8 [uu,uu,uu,uu,.int .i64 nm,.int .i8 k,uu,uu,uu,uu,uu,uu,uu,uu,uu,uu,uu,uu,uu,uu,uu,uu,uu,uu,uu,uu,uu,uu,uu,uu,uu,uu,uu,uu,uu,uu,uu,uu,uu,uu,uu,uu,uu,uu,uu,uu,uu,uu,uu,uu,uu,uu,uu,uu,uu,uu,uu,uu,uu,uu,uu,uu,uu,uu,uu,uu,uu,uu,uu,uu,uu,uu,uu,uu,uu,uu,uu,uu,uu,uu,uu,uu,uu,uu,uu,uu,uu,uu,uu,uu,uu,uu,uu,uu,uu,uu,uu,uu,uu,uu,uu,uu,uu,uu,uu,uu,uu,uu,uu,uu] [.dead,.dead,.dead,.dead,.dead,.dead,.dead,.dead] (Ex.ret) [uu,uu,.bool false,uu,uu,uu,uu,uu,uu,uu,uu,uu,uu,uu,uu,uu,uu,uu,uu,uu,uu,uu,uu,uu,uu,uu,uu,uu,uu,uu,uu,uu,uu,uu,uu,uu,uu,uu,uu,uu,uu,uu,uu,uu,uu,uu,uu,uu,uu,uu,uu,uu,uu,uu,uu,uu,uu,uu,uu,uu,uu,uu,uu,uu,uu,uu,uu,uu,uu,uu,uu,uu,uu,uu,uu,uu,uu,uu,uu,uu,uu,uu,uu,uu,uu,uu,uu,uu,uu,uu,uu,uu,uu,uu,uu,uu,uu,uu,uu,uu,uu,uu,uu,uu,uu,uu,uu,uu,uu,uu] ([.dead,.dead,.dead,.dead,.dead,.dead,.dead,.dead]):=by
 have c0:= @dQ k
 exact (ak.ao (sp:=⟨[2],[],[]⟩) (n0:=8) (ex:=Ex.ret) (t':= [uu,uu,.bool false,uu,uu,uu,uu,uu,uu,uu,uu,uu,uu,uu,uu,uu,uu,uu,uu,uu,uu,uu,uu,uu,uu,uu,uu,uu,uu,uu,uu,uu,uu,uu,uu,uu,uu,uu,uu,uu,uu,uu,uu,uu,uu,uu,uu,uu,uu,uu,uu,uu,uu,uu,uu,uu,uu,uu,uu,uu,uu,uu,uu,uu,uu,uu,uu,uu,uu,uu,uu,uu,uu,uu,uu,uu,uu,uu,uu,uu,uu,uu,uu,uu,uu,uu,uu,uu,uu,uu,uu,uu,uu,uu,uu,uu,uu,uu,uu,uu,uu,uu,uu,uu,uu,uu,uu,uu,uu,uu]) (s':= [.dead,.dead,.dead,.dead,.dead,.dead,.dead,.dead]) mixed [tC (decide_eq_true (Vz k1)),tC (v:=true) (@sL k),tC (eT (bS 1 true (eq_of_beq (@hD nm k k0 k1 (bS 1 true (eq_of_beq hb)))))),tC (eT (bS 1 true (eq_of_beq (@hD nm k k0 k1 (bS 1 true (eq_of_beq hb)))))),.ret _ _ _ c0,tC (eT (bS 1 true (eq_of_beq (@hD nm k k0 k1 (bS 1 true (eq_of_beq hb)))))),tC (bS 1 true (eq_of_beq (@hD nm k k0 k1 (bS 1 true (eq_of_beq hb))))),tC (nt hs)] (by kernel_rfl)).cast (by first|rfl|(rw [show W3.i8.wrap (k+1)=k+1 by rw [dD];omega];done)|(rw [show W3.i8.wrap (k+1)=k+1 by rw [dD];omega];rfl)) (by first|rfl|(rw [show W3.i8.wrap (k+1)=k+1 by rw [dD];omega];done)|(rw [show W3.i8.wrap (k+1)=k+1 by rw [dD];omega];rfl))
end Go.Proofs.YtkpneibifdoecaaGreat
namespace Go.Ev
open Go
def G6 (kind op width size:Int) (di:Bool) (dst src off au:Int):Bool:=J9 kind op width size di dst src off au&&(!(kind==3)&& !(kind==4))
def Og (kind op width size:Int) (di:Bool) (dst src off au:Int):List D:=if G6 kind op width size di dst src off au then HM kind op width size di dst src off au else []
def Oh (kind op width size:Int) (di:Bool) (dst src off au:Int):Int:=if G6 kind op width size di dst src off au then 0 else 2
def GG:D→dp
  | .agg [.int _ a,.int _ b,.int _ c,.int _ d,.int _ e,.int _ f,.int _ g,.int _ h,.int _ i,.int _ j,.int _ k,.int _ l,.int _ m]=>⟨a,b,c,d,e,f,g,h,i,j,k,l,m⟩
  |_=>⟨0,0,0,0,0,0,0,0,0,0,0,0,0⟩
def NP (l:List D):Prop:=(l.map GG).map dp.d=l
abbrev zP (p r:Int):dp:=⟨1,0,0,0,0,0,0,0,0,r,p,0,0⟩
abbrev NB (r p:Int):dp:=⟨2,0,0,0,0,0,0,0,0,r,p,0,0⟩
abbrev xS (op w dst src au cc:Int):dp:=⟨0,op,w,dst,src,0,0,au,cc,0,0,0,0⟩
def NM (l:List dp) (r:qB) (d v:Int):Prop:= ∀m,∃m',A7 l r m=(r.put d v,m',0,0)
theorem and_self {x:Int} (h:Nt x):mi x x=x:=by
 unfold mi
 rw [BitVec.and_self,toNat_ofInt]
 unfold u64 Nt at*
 rw [CR]
 rw [show ((2^64:Nat):Int)=18446744073709551616 from rfl]
 omega
def Clean (m:cn):Prop:=m.q3=0∧m.q4=0∧m.q5=0∧m.q6=0∧m.q7=0∧m.q8=0∧m.q9=0∧m.CE=0∧m.Dt=0∧m.Ds=0∧m.Dr=0∧m.Dq=0∧m.pc=0
theorem Ga {N k:Int} (h:(jE N 2055==0)=true) (k0:0≤k) (k1:k≤15) (hb:cS N k=1):cV k=true:=by
 rw [beq_iff_eq] at h
 have e:=sI N 2055
 rw [h] at e
 have e2:=congrArg (fun b:BitVec 64=>b.getLsbD k.toNat) e
 simp only [BitVec.getLsbD_and,BitVec.getLsbD_not] at e2
 rw [qA k0 k1] at hb
 have hN:(VB 64 N).getLsbD k.toNat=true:=by
  cases hc:(VB 64 N).getLsbD k.toNat
  ·rw [hc] at hb;exact absurd hb (by decide)
  ·rfl
 rw [hN] at e2
 have e3:(VB 64 2055).getLsbD k.toNat=true:=by
  have h0:(VB 64 0).getLsbD k.toNat=false:=by simp
  rw [h0] at e2
  have hk:k.toNat<64:=by omega
  simpa [hk] using e2
 have key:∀k:Int,0≤k→k≤15→(VB 64 2055).getLsbD k.toNat=true→cV k=true:=by
  refine ni ?_ ?_ ?_ ?_ ?_ ?_ ?_ ?_ ?_ ?_ ?_ ?_ ?_ ?_ ?_ ?_<;>decide
 exact key k k0 k1 e3
def Me:List dp:= [zP 0 0,zP 1 1,zP 2 2,zP 11 3]
def NK:List dp:=Me++ [xS 14 64 0 0 0 0]
def CD (n:Int):Prop:= ∀i,16≤i→(VB 64 n).getLsbD i=false
theorem kD {a b:Int} (ha:CD a) (hb:CD b):CD (fS a b):=by
 intro i hi
 rw [D0,BitVec.getLsbD_or,ha i hi,hb i hi];rfl
theorem cX (n:Nat) (h:n<65536):CD (n:Int):=by
 intro i hi
 rw [BitVec.ofInt_natCast,BitVec.getLsbD_ofNat]
 have h2:2^16≤2^i:=Nat.pow_le_pow_right (by decide) hi
 have:n<2^i:=Nat.lt_of_lt_of_le h h2
 rw [Nat.testBit_lt_two_pow this,VL]
theorem iP {d:Int} (d0:0≤d) (d1:d≤15):CD (cE d):=by
 have key:∀d:Int,0≤d→d≤15→CD (cE d):=by
  refine ni ?_ ?_ ?_ ?_ ?_ ?_ ?_ ?_ ?_ ?_ ?_ ?_ ?_ ?_ ?_ ?_
  ·exact cX 1 (by decide)
  ·exact cX 2 (by decide)
  ·exact cX 4 (by decide)
  ·exact cX 8 (by decide)
  ·exact cX 16 (by decide)
  ·exact cX 32 (by decide)
  ·exact cX 64 (by decide)
  ·exact cX 128 (by decide)
  ·exact cX 256 (by decide)
  ·exact cX 512 (by decide)
  ·exact cX 1024 (by decide)
  ·exact cX 2048 (by decide)
  ·exact cX 4096 (by decide)
  ·exact cX 8192 (by decide)
  ·exact cX 16384 (by decide)
  ·exact cX 32768 (by decide)
 exact key d d0 d1
theorem BB {op dst src base:Int} (d0:0≤dst) (d1:dst≤15) (s0:0≤src) (s1:src≤15) (b0:0≤base) (b1:base≤15):CD (sB op dst src base):=by
 unfold sB
 have hd:=iP d0 d1;have hs:=iP s0 s1;have hb:=iP b0 b1
 have h0:CD (cE 0):=iP (by decide) (by decide)
 have h1:CD (cE 1):=iP (by decide) (by decide)
 have h2:CD (cE 2):=iP (by decide) (by decide)
 repeat' split
 ·exact hs
 ·exact cX 0 (by decide)
 ·exact kD hd h1
 ·exact kD (kD hd h0) h2
 ·exact hb
 ·exact kD hb hs
 ·exact cX 17 (by decide)
 ·exact cX 1477 (by decide)
 ·exact kD hd hs
 ·exact hd
theorem yQ {op dst:Int} (d0:0≤dst) (d1:dst≤15):CD (mW op dst):=by
 unfold mW
 repeat' split
 ·exact cX 0 (by decide)
 ·exact cX 5 (by decide)
 ·exact cX 16 (by decide)
 ·exact cX 2051 (by decide)
 ·exact iP d0 d1
theorem BC (op w dst src base ai au cc:Int):CD (nS op w dst src base ai au cc):=by
 unfold nS eI dS
 by_cases h:av op w dst src base ai au cc=true
 ·rw [if_pos h,if_pos h]
  obtain ⟨⟨d0,d1,s0,s1,b0,b1,_⟩,_⟩:=fe h
  exact kD (BB d0 d1 s0 s1 b0 b1) (yQ d0 d1)
 ·rw [if_neg h,if_neg h]
  exact kD (cX 0 (by decide)) (cX 0 (by decide))
theorem Fs {k:Int} (k0:0≤k) (k1:k≤15) (h:cV k=true):(VB 64 2055).getLsbD k.toNat=true:=by
 have key:∀k:Int,0≤k→k≤15→cV k=true→(VB 64 2055).getLsbD k.toNat=true:=by
  refine ni ?_ ?_ ?_ ?_ ?_ ?_ ?_ ?_ ?_ ?_ ?_ ?_ ?_ ?_ ?_ ?_<;>decide
 exact key k k0 k1 h
theorem Gb {N:Int} (hl:CD N) (h:∀k:Int,0≤k→k≤15→cS N k=1→cV k=true):(jE N 2055==0)=true:=by
 rw [beq_iff_eq]
 have hz:VB 64 N&&& ~~~ VB 64 2055=0#64:=by
  apply BitVec.eq_of_getLsbD_eq
  intro i hi
  rw [BitVec.getLsbD_and,BitVec.getLsbD_not,BitVec.getLsbD_zero]
  by_cases h16:16≤i
  ·rw [hl i h16,VK]
  ·cases hc:(VB 64 N).getLsbD i
   ·rw [VK]
   ·have hb:=h (i:Int) (by omega) (by omega) (by rw [qA (by omega) (by omega),Wh,hc];rfl)
    have:=Fs (by omega) (by omega) hb
    rw [Wh] at this
    rw [this];simp
 unfold jE
 show W3.i64.wrap ((VB 64 N&&& ~~~ VB 64 2055).toNat:Int)=0
 rw [hz];rfl
theorem Aa (op w dst src base ai au cc:Int):pM op w dst src base ai au cc=true↔ ∀k:Int,0≤k→k≤15→cS (nS op w dst src base ai au cc) k=1→cV k=true:=
 ⟨fun h k k0 k1 hb=>Ga h k0 k1 hb,fun h=>Gb (BC op w dst src base ai au cc) h⟩
theorem Ck {N:Int} :(∀k:Int,0≤k→k≤15→cS N k=1→cV k=true)∨∃n:Nat,n≤15∧(cS N (n:Int)==1)=true∧cV (n:Int)=false∧∀m:Nat,m<n→cS N (m:Int)=1→cV (m:Int)=true:=by
 have key:∀j:Nat,j≤16→(∀m:Nat,m<j→cS N (m:Int)=1→cV (m:Int)=true)∨∃n:Nat,n<j∧(cS N (n:Int)==1)=true∧cV (n:Int)=false∧∀m:Nat,m<n→cS N (m:Int)=1→cV (m:Int)=true:=by
  intro j
  induction j with
  |zero=>intro _;left;intro m hm;omega
  |succ j ih=>
   intro hj
   rcases ih (by omega) with h|⟨n,hn,h⟩
   ·by_cases hb:cS N (j:Int)=1
    ·cases hs:cV (j:Int)
     ·right;exact ⟨j,by omega,beq_iff_eq.mpr hb,hs,h⟩
     ·left;intro m hm T0
      by_cases e:m=j
      ·subst e;exact hs
      ·exact h m (by omega) T0
    ·left;intro m hm T0
     by_cases e:m=j
     ·subst e;exact absurd T0 hb
     ·exact h m (by omega) T0
   ·right;exact ⟨n,by omega,h⟩
 rcases key 16 (by omega) with h|⟨n,hn,h⟩
 ·left;intro k k0 k1 hb
  have:=h k.toNat (by omega)
  rw [Int.toNat_of_nonneg k0] at this
  exact this hb
 ·right;exact ⟨n,by omega,h⟩
end Go.Ev
namespace Go.Proofs.YtkpneibifdoecaaGreat
open Go Go.Ev
theorem C9 (nm:Int) (h:∀k:Int,0≤k→k≤15→cS nm k=1→cV k=true):
  aI Tryz.prog 8 (.loop (aC Tryz.f62 0)) (un 4++(.int .i64 nm)::(.int .i8 0)::(un 104)) [.dead,.dead,.dead,.dead,.dead,.dead,.dead,.dead] (.exit 1) (un 110) [.dead,.dead,.dead,.dead,.dead,.dead,.dead,.dead]:=by
 have key:∀(n:Nat) (k:Int),0≤k→(n:Int)+k=16→aA Tryz.prog (aC Tryz.f62 0) 8 (un 4++(.int .i64 nm)::(.int .i8 k)::(un 104)) [.dead,.dead,.dead,.dead,.dead,.dead,.dead,.dead] (.exit 1) (un 110) [.dead,.dead,.dead,.dead,.dead,.dead,.dead,.dead]:=by
  intro n
  induction n with
  |zero=>
   intro k _ hk
   obtain rfl:k=16:=by omega
   exact aA.last (Fu nm) (by simp)
  |succ n ih=>
   intro k k0 hk
   by_cases hb:cS nm k=1
   ·exact aA.bZ (Jq nm k k0 (by omega) (beq_iff_eq.mpr hb) (h k k0 (by omega) hb)) (ih (k+1) (by omega) (by omega))
   ·exact aA.bZ (Jp nm k k0 (by omega) (beq_eq_false_iff_ne.mpr hb)) (ih (k+1) (by omega) (by omega))
 exact aI.bf (by decide) (key 16 0 (by omega) (by omega))
theorem Da (nm:Int) (j:Nat) (hj:j≤15) (hb:(cS nm (j:Int)==1)=true) (hs:cV (j:Int)=false) (h:∀m:Nat,m<j→cS nm (m:Int)=1→cV (m:Int)=true):
  aI Tryz.prog 8 (.loop (aC Tryz.f62 0)) (un 4++(.int .i64 nm)::(.int .i8 0)::(un 104)) [.dead,.dead,.dead,.dead,.dead,.dead,.dead,.dead] .ret ((.undef)::(.undef)::(.bool false)::(un 107)) [.dead,.dead,.dead,.dead,.dead,.dead,.dead,.dead]:=by
 have key:∀(n:Nat) (k:Int),0≤k→(n:Int)+k=j→aA Tryz.prog (aC Tryz.f62 0) 8 (un 4++(.int .i64 nm)::(.int .i8 k)::(un 104)) [.dead,.dead,.dead,.dead,.dead,.dead,.dead,.dead] .ret ((.undef)::(.undef)::(.bool false)::(un 107)) [.dead,.dead,.dead,.dead,.dead,.dead,.dead,.dead]:=by
  intro n
  induction n with
  |zero=>
   intro k _ hk
   obtain rfl:k=(j:Int):=by omega
   exact aA.last (HR nm (j:Int) (by omega) (by omega) hb hs) (by simp)
  |succ n ih=>
   intro k k0 hk
   by_cases hb:cS nm k=1
   ·have Vg:=h k.toNat (by omega)
    rw [Int.toNat_of_nonneg k0] at Vg
    exact aA.bZ (Jq nm k k0 (by omega) (beq_iff_eq.mpr hb) (Vg hb)) (ih (k+1) (by omega) (by omega))
   ·exact aA.bZ (Jp nm k k0 (by omega) (beq_eq_false_iff_ne.mpr hb)) (ih (k+1) (by omega) (by omega))
 exact aI.bf (by decide) (key j 0 (by omega) (by omega))
theorem uQ (op w dst src base ai au cc aF aw num to:Int) (ho:op≤127) (hm:av op w dst src base ai au cc=false):aJ Tryz.prog 62 ([e6 0 op w dst src base ai au cc aF aw num to]) (.bool false):=by
 rcases cm (aa [.int .i8 0,.int .i8 op,.int .i8 w,.int .i8 dst,.int .i8 src,.int .i8 base,.int .i64 ai,.int .i64 au,.int .i8 cc,.int .i8 aF,.int .i8 aw,.int .i64 num,.int .i64 to] [.int .i8 0,.int .i8 op,.int .i8 w,.int .i8 dst,.int .i8 src,.int .i8 base,.int .i64 ai,.int .i64 au,.int .i8 cc,.int .i8 0,.int .i8 0,.int .i64 0,.int .i64 0]) with h0|h0
 ·have c1:= @bp op
  have c2:= @aM op w dst src base ai au cc
  exact (jd (d:= .bool false) [tT,tT,tT,tF,tT,tT,tT,.inl,tT,.bO [(0,.box [.int .i8 0,.int .i8 op,.int .i8 w,.int .i8 dst,.int .i8 src,.int .i8 base,.int .i64 ai,.int .i64 au,.int .i8 cc,.int .i8 aF,.int .i8 aw,.int .i64 num,.int .i64 to])],tT,.flat _ _ cf,tF,tC (nt h0),tT,.ret _ _ _ c1,.ret _ _ _ c2,tC (eF (nt hm)),tC (eF (nt hm)),tC (nt hm),tT] (by kernel_rfl)).to (by rfl)
 exact (jd (d:= .bool false) [tT,tT,tT,tF,tT,tT,tT,.inl,tT,.bO [(0,.box [.int .i8 0,.int .i8 op,.int .i8 w,.int .i8 dst,.int .i8 src,.int .i8 base,.int .i64 ai,.int .i64 au,.int .i8 cc,.int .i8 aF,.int .i8 aw,.int .i64 num,.int .i64 to])],tT,.flat _ _ cf,tF,tC (nt h0)] (by kernel_rfl)).to (by rfl)
theorem uP (op w dst src base ai au cc aF aw num to:Int) (ho:op≤127) (hm:av op w dst src base ai au cc=true) (h8:decide (bU op<8)=false):aJ Tryz.prog 62 ([e6 0 op w dst src base ai au cc aF aw num to]) (.bool false):=by
 rcases cm (aa [.int .i8 0,.int .i8 op,.int .i8 w,.int .i8 dst,.int .i8 src,.int .i8 base,.int .i64 ai,.int .i64 au,.int .i8 cc,.int .i8 aF,.int .i8 aw,.int .i64 num,.int .i64 to] [.int .i8 0,.int .i8 op,.int .i8 w,.int .i8 dst,.int .i8 src,.int .i8 base,.int .i64 ai,.int .i64 au,.int .i8 cc,.int .i8 0,.int .i8 0,.int .i64 0,.int .i64 0]) with h0|h0
 ·have c1:= @bp op
  have c2:= @aM op w dst src base ai au cc
  exact (jd (d:= .bool false) [tT,tT,tT,tF,tT,tT,tT,.inl,tT,.bO [(0,.box [.int .i8 0,.int .i8 op,.int .i8 w,.int .i8 dst,.int .i8 src,.int .i8 base,.int .i64 ai,.int .i64 au,.int .i8 cc,.int .i8 aF,.int .i8 aw,.int .i64 num,.int .i64 to])],tT,.flat _ _ cf,tF,tC (nt h0),tT,.ret _ _ _ c1,.ret _ _ _ c2,tC (eF (nt hm)),tC (eF (nt hm)),tC (nt hm),tC (aK 8 h8)] (by kernel_rfl)).to (by rfl)
 exact (jd (d:= .bool false) [tT,tT,tT,tF,tT,tT,tT,.inl,tT,.bO [(0,.box [.int .i8 0,.int .i8 op,.int .i8 w,.int .i8 dst,.int .i8 src,.int .i8 base,.int .i64 ai,.int .i64 au,.int .i8 cc,.int .i8 aF,.int .i8 aw,.int .i64 num,.int .i64 to])],tT,.flat _ _ cf,tF,tC (nt h0)] (by kernel_rfl)).to (by rfl)
theorem uO (op w dst src base ai au cc aF aw num to:Int) (ho:op≤127) (hm:av op w dst src base ai au cc=true) (h8:decide (bU op<8)=true) (PV:∀k:Int,0≤k→k≤15→cS (W3.i64.wrap (↑(Wi (VB (64:Nat) (eI op w dst src base ai au cc)|||VB (64:Nat) (dS op w dst src base ai au cc))):Int)) k=1→cV k=true):aJ Tryz.prog 62 ([e6 0 op w dst src base ai au cc aF aw num to]) (.bool (decide (aF=0∧aw=0∧num=0∧to=0))):=by
 rcases cm (aa [.int .i8 0,.int .i8 op,.int .i8 w,.int .i8 dst,.int .i8 src,.int .i8 base,.int .i64 ai,.int .i64 au,.int .i8 cc,.int .i8 aF,.int .i8 aw,.int .i64 num,.int .i64 to] [.int .i8 0,.int .i8 op,.int .i8 w,.int .i8 dst,.int .i8 src,.int .i8 base,.int .i64 ai,.int .i64 au,.int .i8 cc,.int .i8 0,.int .i8 0,.int .i64 0,.int .i64 0]) with h0|h0
 ·have c1:= @bp op
  have c2:= @aM op w dst src base ai au cc
  have c3:= @ke op w dst src base ai au cc ho
  have c4:= @jv op w dst src base ai au cc ho
  have c5:= @C9 (W3.i64.wrap (↑(Wi (VB (64:Nat) (eI op w dst src base ai au cc)|||VB (64:Nat) (dS op w dst src base ai au cc))):Int)) PV
  exact (jd (d:= .bool true) [tT,tT,tT,tF,tT,tT,tT,.inl,tT,.bO [(0,.box [.int .i8 0,.int .i8 op,.int .i8 w,.int .i8 dst,.int .i8 src,.int .i8 base,.int .i64 ai,.int .i64 au,.int .i8 cc,.int .i8 aF,.int .i8 aw,.int .i64 num,.int .i64 to])],tT,.flat _ _ cf,tF,tC (nt h0),tT,.ret _ _ _ c1,.ret _ _ _ c2,tC (eF (nt hm)),tC (eF (nt hm)),tC (nt hm),tC (aK 8 h8),.ret _ _ _ c3,.ret _ _ _ c4,.head ⟨[4,5],[],[]⟩ _ _ _ _ _ _ _ c5] (by kernel_rfl)).to (by first|rfl|simp only [wk,D.bool.injEq,aL,h0,VR,VK,VM,VL];first|done|rfl|(rw [Vw];simp only [hQ,aL] at*;first|done|omega|(intro hh;omega)|(simp;done)|(constructor<;>intro hh<;>omega)))
 exact (jd (d:= .bool false) [tT,tT,tT,tF,tT,tT,tT,.inl,tT,.bO [(0,.box [.int .i8 0,.int .i8 op,.int .i8 w,.int .i8 dst,.int .i8 src,.int .i8 base,.int .i64 ai,.int .i64 au,.int .i8 cc,.int .i8 aF,.int .i8 aw,.int .i64 num,.int .i64 to])],tT,.flat _ _ cf,tF,tC (nt h0)] (by kernel_rfl)).to (by first|rfl|simp only [wk,D.bool.injEq,aL,h0,VR,VK,VM,VL];first|done|rfl|(rw [Vw];simp only [hQ,aL] at*;first|done|omega|(intro hh;omega)|(simp;done)|(constructor<;>intro hh<;>omega)))
theorem uN (op w dst src base ai au cc aF aw num to:Int) (ho:op≤127) (hm:av op w dst src base ai au cc=true) (h8:decide (bU op<8)=true) (j:Nat) (hj:j≤15) (hb:(cS (W3.i64.wrap (↑(Wi (VB (64:Nat) (eI op w dst src base ai au cc)|||VB (64:Nat) (dS op w dst src base ai au cc))):Int)) (j:Int)==1)=true) (hs:cV (j:Int)=false) (Sx:∀m:Nat,m<j→cS (W3.i64.wrap (↑(Wi (VB (64:Nat) (eI op w dst src base ai au cc)|||VB (64:Nat) (dS op w dst src base ai au cc))):Int)) (m:Int)=1→cV (m:Int)=true):aJ Tryz.prog 62 ([e6 0 op w dst src base ai au cc aF aw num to]) (.bool false):=by
 rcases cm (aa [.int .i8 0,.int .i8 op,.int .i8 w,.int .i8 dst,.int .i8 src,.int .i8 base,.int .i64 ai,.int .i64 au,.int .i8 cc,.int .i8 aF,.int .i8 aw,.int .i64 num,.int .i64 to] [.int .i8 0,.int .i8 op,.int .i8 w,.int .i8 dst,.int .i8 src,.int .i8 base,.int .i64 ai,.int .i64 au,.int .i8 cc,.int .i8 0,.int .i8 0,.int .i64 0,.int .i64 0]) with h0|h0
 ·have c1:= @bp op
  have c2:= @aM op w dst src base ai au cc
  have c3:= @ke op w dst src base ai au cc ho
  have c4:= @jv op w dst src base ai au cc ho
  have c5:= @Da (W3.i64.wrap (↑(Wi (VB (64:Nat) (eI op w dst src base ai au cc)|||VB (64:Nat) (dS op w dst src base ai au cc))):Int)) _ hj hb hs Sx
  exact (jd (d:= .bool false) [tT,tT,tT,tF,tT,tT,tT,.inl,tT,.bO [(0,.box [.int .i8 0,.int .i8 op,.int .i8 w,.int .i8 dst,.int .i8 src,.int .i8 base,.int .i64 ai,.int .i64 au,.int .i8 cc,.int .i8 aF,.int .i8 aw,.int .i64 num,.int .i64 to])],tT,.flat _ _ cf,tF,tC (nt h0),tT,.ret _ _ _ c1,.ret _ _ _ c2,tC (eF (nt hm)),tC (eF (nt hm)),tC (nt hm),tC (aK 8 h8),.ret _ _ _ c3,.ret _ _ _ c4,.head ⟨[4,5],[],[]⟩ _ _ _ _ _ _ _ c5] (by kernel_rfl)).to (by rfl)
 exact (jd (d:= .bool false) [tT,tT,tT,tF,tT,tT,tT,.inl,tT,.bO [(0,.box [.int .i8 0,.int .i8 op,.int .i8 w,.int .i8 dst,.int .i8 src,.int .i8 base,.int .i64 ai,.int .i64 au,.int .i8 cc,.int .i8 aF,.int .i8 aw,.int .i64 num,.int .i64 to])],tT,.flat _ _ cf,tF,tC (nt h0)] (by kernel_rfl)).to (by rfl)
theorem wK {op w dst src base ai au cc:Int} (h:av op w dst src base ai au cc=true):decide (bU op<8)=decide (op<28):=by
 have hc:bq op≠0:=by
  intro e
  have:=(fe h).2
  rw [e] at this
  simp [ax] at this
 have ho:0≤op∧op≤31:=by
  refine Classical.byContradiction fun k=>hc ?_
  unfold bq
  repeat' rw [if_neg (by omega)]
 have PV:op=0∨op=1∨op=2∨op=3∨op=4∨op=5∨op=6∨op=7∨op=8∨op=9∨op=10∨op=11∨op=12∨op=13∨op=14∨op=15∨op=16∨op=17∨op=18∨op=19∨op=20∨op=21∨op=22∨op=23∨op=24∨op=25∨op=26∨op=27∨op=28∨op=29∨op=30∨op=31:=by omega
 rcases PV with rfl|rfl|rfl|rfl|rfl|rfl|rfl|rfl|rfl|rfl|rfl|rfl|rfl|rfl|rfl|rfl|rfl|rfl|rfl|rfl|rfl|rfl|rfl|rfl|rfl|rfl|rfl|rfl|rfl|rfl|rfl|rfl<;>rfl
theorem xI (op w dst src base ai au cc aF aw num to:Int) (ho:op≤127) (hc:cc≤127) (hp:aw≤127) (g0: -128≤aF) (g1:aF≤127):
  aJ Tryz.prog 62 [e6 0 op w dst src base ai au cc aF aw num to] (.bool (hH 0 op w dst src base ai au cc aF aw num to)):=by
 rw [iO]
 cases hm:av op w dst src base ai au cc
 ·simp only [VK]
  exact uQ _ _ _ _ _ _ _ _ _ _ _ _ ho hm
 ·cases ho28:decide (op<28)
  ·simp only [VL,VK]
   exact uP _ _ _ _ _ _ _ _ _ _ _ _ ho hm ((wK hm).trans ho28)
  ·have h8:=(wK hm).trans ho28
   cases hw:pM op w dst src base ai au cc
   ·simp only [VL,VK]
    rcases Ck (N:=nS op w dst src base ai au cc) with h|⟨j,hj,hb,hs,Sx⟩
    ·rw [(Aa _ _ _ _ _ _ _ _).mpr h] at hw;cases hw
    ·exact uN _ _ _ _ _ _ _ _ _ _ _ _ ho hm h8 j hj hb hs Sx
   ·simp only [VR]
    exact uO _ _ _ _ _ _ _ _ _ _ _ _ ho hm h8 ((Aa _ _ _ _ _ _ _ _).mp hw)
theorem nF (kind op w dst src base ai au cc aF aw num to:Int) (a0: -128≤kind) (a1:kind≤127) (ho:op≤127) (hc:cc≤127) (hp:aw≤127) (g0: -128≤aF) (g1:aF≤127):
  aJ Tryz.prog 62 [e6 kind op w dst src base ai au cc aF aw num to] (.bool (hH kind op w dst src base ai au cc aF aw num to)):=by
 by_cases h:0≤kind∧kind≤6
 ·have hk:kind=0∨kind=1∨kind=2∨kind=3∨kind=4∨kind=5∨kind=6:=by omega
  rcases hk with rfl|rfl|rfl|rfl|rfl|rfl|rfl
  ·exact xI _ _ _ _ _ _ _ _ _ _ _ _ ho hc hp g0 g1
  ·exact xH _ _ _ _ _ _ _ _ _ _ _ _ ho hc hp g0 g1
  ·exact xG _ _ _ _ _ _ _ _ _ _ _ _ ho hc hp g0 g1
  ·exact xF _ _ _ _ _ _ _ _ _ _ _ _ ho hc hp g0 g1
  ·exact xE _ _ _ _ _ _ _ _ _ _ _ _ ho hc hp g0 g1
  ·exact xC _ _ _ _ _ _ _ _ _ _ _ _ ho hc hp g0 g1
  ·exact xB _ _ _ _ _ _ _ _ _ _ _ _ ho hc hp g0 g1
 ·have e:hH kind op w dst src base ai au cc aF aw num to=false:=by
   unfold hH
   rw [if_neg (by omega),if_neg (by omega),if_neg (by omega),if_neg (by omega),if_neg (by omega),if_neg (by omega)]
  rw [e]
  by_cases h2:kind<0
  ·exact uL _ _ _ _ _ _ _ _ _ _ _ _ _ h2 a0
  ·exact uM _ _ _ _ _ _ _ _ _ _ _ _ _ (by omega) a1
theorem Dn (l:List D) (k:Nat) (hb:l.length≤9223372036854775807) (hk:l.length≤k):ak Tryz.prog (aC Tryz.f37 0) ⟨[],[],[]⟩ 0 [.aq .no 13 l,uu,uu,uu,.int .i64 (↑k:Int),uu,uu,uu,uu,uu,uu,uu,uu,uu,uu,uu,uu,uu] [] (.exit 0) [uu,uu,uu,uu,uu,uu,uu,uu,uu,uu,uu,uu,uu,uu,uu,uu,uu,uu] ([]):=by
 exact (ak.ao (sp:=⟨[],[],[]⟩) (n0:=0) (ex:=Ex.exit (0:Nat)) (t':= [uu,uu,uu,uu,uu,uu,uu,uu,uu,uu,uu,uu,uu,uu,uu,uu,uu,uu]) (s':= []) mixed [tC (by (simp only [bm] at*;omega):(decide ((↑k:Int)<(↑(VD l):Int)))=false)] (by kernel_rfl)).cast (by rfl) (by rfl)
theorem Dm (l:List D) (k:Nat) (hb:l.length≤9223372036854775807) (hk:k<l.length) (kind op w dst src base ai au cc aF aw num to:Int) (a0: -128≤kind) (a1:kind≤127) (ho:op≤127) (hc:cc≤127) (hp:aw≤127) (g0: -128≤aF) (g1:aF≤127) (hx:l[k]? =some (e6 kind op w dst src base ai au cc aF aw num to)) (he:hH kind op w dst src base ai au cc aF aw num to=true):ak Tryz.prog (aC Tryz.f37 0) ⟨[0,4],[],[]⟩ 0 [.aq .no 13 l,uu,uu,uu,.int .i64 (↑k:Int),uu,uu,uu,uu,uu,uu,uu,uu,uu,uu,uu,uu,uu] [] .norm [.aq .no 13 l,uu,uu,uu,.int .i64 (↑(k+(1:Nat)):Int),uu,uu,uu,uu,uu,uu,uu,uu,uu,uu,uu,uu,uu] ([]):=by
 have c0:= @nF kind op w dst src base ai au cc aF aw num to a0 a1 ho hc hp g0 g1
 exact (ak.ao (sp:=⟨[0,4],[],[]⟩) (n0:=0) (ex:=Ex.norm) (t':= [.aq .no 13 l,uu,uu,uu,.int .i64 (W3.i64.wrap ((↑k:Int)+1)),uu,uu,uu,uu,uu,uu,uu,uu,uu,uu,uu,uu,uu]) (s':= []) mixed [tC (by (simp only [bm] at*;omega):(decide ((↑k:Int)<(↑(VD l):Int)))=true),tT,.get _ _ _ hx,.ret _ _ _ c0,tC (nt he)] (by kernel_rfl)).cast (by first|rfl|(congr;rw [aY];omega)) (by first|rfl|(congr;rw [aY];omega))
theorem FR (l:List D) (k:Nat) (hb:l.length≤9223372036854775807) (hk:k<l.length) (kind op w dst src base ai au cc aF aw num to:Int) (a0: -128≤kind) (a1:kind≤127) (ho:op≤127) (hc:cc≤127) (hp:aw≤127) (g0: -128≤aF) (g1:aF≤127) (hx:l[k]? =some (e6 kind op w dst src base ai au cc aF aw num to)) (he:hH kind op w dst src base ai au cc aF aw num to=false):ak Tryz.prog (aC Tryz.f37 0) ⟨[2,3],[],[]⟩ 0 [.aq .no 13 l,uu,uu,uu,.int .i64 (↑k:Int),uu,uu,uu,uu,uu,uu,uu,uu,uu,uu,uu,uu,uu] [] (Ex.ret) [uu,uu,.int .i64 (↑k:Int),.int .i64 2,uu,uu,uu,uu,uu,uu,uu,uu,uu,uu,uu,uu,uu,uu] ([]):=by
 have c0:= @nF kind op w dst src base ai au cc aF aw num to a0 a1 ho hc hp g0 g1
 exact (ak.ao (sp:=⟨[2,3],[],[]⟩) (n0:=0) (ex:=Ex.ret) (t':= [uu,uu,.int .i64 (↑k:Int),.int .i64 2,uu,uu,uu,uu,uu,uu,uu,uu,uu,uu,uu,uu,uu,uu]) (s':= []) mixed [tC (by (simp only [bm] at*;omega):(decide ((↑k:Int)<(↑(VD l):Int)))=true),tT,.get _ _ _ hx,.ret _ _ _ c0,tC (nt he)] (by kernel_rfl)).cast (by rfl) (by rfl)
theorem Be (l:List dp) (hb:(l.map dp.d).length≤9223372036854775807) (ho:hE l) (hm:iV l=none):
  aI Tryz.prog 0 (.loop (aC Tryz.f37 0)) [.aq .no 13 (l.map dp.d),.undef,.undef,.undef,.int .i64 0,.undef,.undef,.undef,.undef,.undef,.undef,.undef,.undef,.undef,.undef,.undef,.undef,.undef] [] (.exit 0) [.undef,.undef,.undef,.undef,.undef,.undef,.undef,.undef,.undef,.undef,.undef,.undef,.undef,.undef,.undef,.undef,.undef,.undef] []:=by
 have PV:∀s∈l,s.may=true:=by
  unfold iV at hm
  rw [List.findIdx?_eq_none_iff] at hm
  intro s hs
  simpa using hm s hs
 have key:∀(n k:Nat),n+k=l.length→aA Tryz.prog (aC Tryz.f37 0) 0 [.aq .no 13 (l.map dp.d),.undef,.undef,.undef,.int .i64 (k:Int),.undef,.undef,.undef,.undef,.undef,.undef,.undef,.undef,.undef,.undef,.undef,.undef,.undef] [] (.exit 0) [.undef,.undef,.undef,.undef,.undef,.undef,.undef,.undef,.undef,.undef,.undef,.undef,.undef,.undef,.undef,.undef,.undef,.undef] []:=by
  intro n
  induction n with
  |zero=>
   intro k hk
   exact aA.last (Dn (l.map dp.d) k hb (by simp;omega)) (by simp)
  |succ n ih=>
   intro k hk
   have hx:l[k]? =some l[k]:=by simp
   obtain ⟨a0,a1,Qz,hc,hp,g0,g1⟩:=ho _ (Wr (show k<l.length by omega))
   exact aA.bZ (Dm (l.map dp.d) k hb (by simp;omega) _ _ _ _ _ _ _ _ _ _ _ _ _ a0 a1 Qz hc hp g0 g1 (get_map hx) (PV _ (Wr (show k<l.length by omega)))) (ih (k+1) (by omega))
 exact aI.bf (by decide) (key l.length 0 (by omega))
theorem Bd (l:List dp) (j:Nat) (hb:(l.map dp.d).length≤9223372036854775807) (ho:hE l) (hm:iV l=some j):
  aI Tryz.prog 0 (.loop (aC Tryz.f37 0)) [.aq .no 13 (l.map dp.d),.undef,.undef,.undef,.int .i64 0,.undef,.undef,.undef,.undef,.undef,.undef,.undef,.undef,.undef,.undef,.undef,.undef,.undef] [] .ret [.undef,.undef,.int .i64 (j:Int),.int .i64 2,.undef,.undef,.undef,.undef,.undef,.undef,.undef,.undef,.undef,.undef,.undef,.undef,.undef,.undef] []:=by
 unfold iV at hm
 rw [List.findIdx?_eq_some_iff_getElem] at hm
 obtain ⟨hj,hbad,hbefore⟩:=hm
 have key:∀(n k:Nat),n+k=j→aA Tryz.prog (aC Tryz.f37 0) 0 [.aq .no 13 (l.map dp.d),.undef,.undef,.undef,.int .i64 (k:Int),.undef,.undef,.undef,.undef,.undef,.undef,.undef,.undef,.undef,.undef,.undef,.undef,.undef] [] .ret [.undef,.undef,.int .i64 (j:Int),.int .i64 2,.undef,.undef,.undef,.undef,.undef,.undef,.undef,.undef,.undef,.undef,.undef,.undef,.undef,.undef] []:=by
  intro n
  induction n with
  |zero=>
   intro k hk
   obtain rfl:k=j:=by omega
   have hx:l[k]? =some l[k]:=by simp
   obtain ⟨a0,a1,Qz,hc,hp,g0,g1⟩:=ho _ (Wr hj)
   exact aA.last (FR (l.map dp.d) k hb (by simpa using hj) _ _ _ _ _ _ _ _ _ _ _ _ _ a0 a1 Qz hc hp g0 g1 (get_map hx) (show l[k].may=false by simpa using hbad)) (by simp)
  |succ n ih=>
   intro k hk
   have Pd:k<l.length:=by omega
   have hx:l[k]? =some l[k]:=by simp
   obtain ⟨a0,a1,Qz,hc,hp,g0,g1⟩:=ho _ (Wr Pd)
   exact aA.bZ (Dm (l.map dp.d) k hb (by simpa using Pd) _ _ _ _ _ _ _ _ _ _ _ _ _ a0 a1 Qz hc hp g0 g1 (get_map hx) (show l[k].may=true by simpa using hbefore k (by omega))) (ih (k+1) (by omega))
 exact aI.bf (by decide) (key j 0 (by omega))
theorem BR (l:List dp) (hb:(l.map dp.d).length≤9223372036854775807) (ho:hE l) (hm:iV l=none):aJ Tryz.prog 59 ([.aq .no 13 (l.map dp.d),.fn (VE 60) [] []]) (.int .i64 (-1)):=by
 have c0:= @BT (l) hb ho hm
 exact (aJ.ao (d:= .int .i64 (-1:Int)) mixed Tryz.func59 (by kernel_rfl) [.head ⟨[0,1,7,8],[],[]⟩ _ _ _ _ _ _ _ c0] (by kernel_rfl)).to (by simp [wk])
theorem BQ (l:List dp) (hb:(l.map dp.d).length≤9223372036854775807) (ho:hE l) (j:Nat) (hm:iV l=some j):aJ Tryz.prog 59 ([.aq .no 13 (l.map dp.d),.fn (VE 60) [] []]) (.int .i64 (j:Int)):=by
 have c0:= @BS (l) _ hb ho hm
 exact (aJ.ao (d:= .int .i64 (↑j:Int)) mixed Tryz.func59 (by kernel_rfl) [.head ⟨[0,1,7,8],[],[]⟩ _ _ _ _ _ _ _ c0] (by kernel_rfl)).to (by simp [wk])
theorem wL (l:List dp) (hb:(l.map dp.d).length≤9223372036854775807) (ho:hE l) (hm:iV l=none):aJ Tryz.prog 35 ([.aq .no 13 (l.map dp.d)]) (.aQ [.int .i64 0,.int .i64 0]):=by
 have c0:= @BR (l) hb ho hm
 exact (aJ.ao (d:= .aQ [.int .i64 0,.int .i64 0]) mixed Tryz.func35 (by kernel_rfl) [.ret _ _ _ c0,tF] (by kernel_rfl)).to (by simp [wk,ay])
theorem EH (l:List dp) (hb:(l.map dp.d).length≤9223372036854775807) (ho:hE l) (j:Nat) (hm:iV l=some j):aJ Tryz.prog 35 ([.aq .no 13 (l.map dp.d)]) (.aQ [.int .i64 (j:Int),.int .i64 2]):=by
 have c0:= @BQ (l) hb ho _ hm
 exact (aJ.ao (d:= .aQ [.int .i64 (↑j:Int),.int .i64 2]) mixed Tryz.func35 (by kernel_rfl) [.ret _ _ _ c0,tT] (by kernel_rfl)).to (by simp [wk,ay])
theorem p6 (l:List dp) (hb:(l.map dp.d).length≤9223372036854775807) (ho:hE l) (hm:iV l=none):aJ Tryz.prog 37 ([.aq .no 13 (l.map dp.d)]) (.aQ [.int .i64 0,.int .i64 0]):=by
 have c0:= @Be (l) hb ho hm
 exact (aJ.ao (d:= .aQ [.int .i64 0,.int .i64 0]) mixed Tryz.func37 (by kernel_rfl) [.head ⟨[0,4],[],[]⟩ _ _ _ _ _ _ _ c0] (by kernel_rfl)).to (by simp [wk,ay])
theorem Bf (l:List dp) (hb:(l.map dp.d).length≤9223372036854775807) (ho:hE l) (j:Nat) (hm:iV l=some j):aJ Tryz.prog 37 ([.aq .no 13 (l.map dp.d)]) (.aQ [.int .i64 (j:Int),.int .i64 2]):=by
 have c0:= @Bd (l) _ hb ho hm
 exact (aJ.ao (d:= .aQ [.int .i64 (↑j:Int),.int .i64 2]) mixed Tryz.func37 (by kernel_rfl) [.head ⟨[0,4],[],[]⟩ _ _ _ _ _ _ _ c0] (by kernel_rfl)).to (by simp [wk,ay])
end Go.Proofs.YtkpneibifdoecaaGreat
namespace Go.Proofs
open Go.Shelf
shelf_lay_g Lays8.n4 Nm8 4 at Tryz 36 as Tryz.growFr
end Go.Proofs
namespace Go.Proofs.YtkpneibifdoecaaGreat
open Go Go.Ev
theorem BW:∃i0 z,Tryz.prog.info? (Tryz.growFr_ren.t 25)=some i0∧i0.zero=some z∧i0.size=13∧z.cells.size=13∧i0.bytes≤65536:=by
 have h:((Tryz.prog.info? (Tryz.growFr_ren.t 25)).bind fun i0=>i0.zero.map fun z=>(decide (i0.size=13)&&decide (z.cells.size=13)&&decide (i0.bytes≤65536)))=some true:=by kernel_rfl
 cases hi:Tryz.prog.info? (Tryz.growFr_ren.t 25) with
 |none=>rw [hi] at h;cases h
 |some i0=>
  rw [hi] at h
  cases hz:i0.zero with
  |none=>simp [hz] at h
  |some z=>
   simp only [hz,Option.bind_some,Option.map_some,Option.some.injEq,VG,decide_eq_true_eq] at h
   exact ⟨i0,z,rfl,hz,h.1.1,h.1.2,h.2⟩
theorem Et:Kw Tryz.prog 36:=
 ⟨Tryz.f36,_,Tryz.func36,rfl,by kernel_rfl⟩
theorem B0 (xs:List D) (n v:Nat) (hx:xs.length≤1000000) (hn:n≤1000000):
  bW Tryz.prog 36 [.aq (.tok 0 v) 13 xs,.int .i64 (n:Int)] [.bg v 13] (.aq (.tok 0 (v+1)) 13 xs) [.bg (v+1) 13]:=by
 obtain ⟨i0,z,hi,hz,hs,hc,hb⟩:=BW
 rw [← hs]
 exact BZ (t:=Tryz.growFr_ren.t 25) Et (by rw [hc,hs]) (by omega) hb (fun base l c n w h1 h2 h3 h4=>Any8.slices_Grow_room Tryz.growFr base l c n w h1 h2 h3 h4)
  (fun base l c n cs w h1 h2 h3 h4 h5 h6 h7=>Any8.slices_Grow_grow Tryz.growFr i0 z hi hz (by omega) base l c n cs w h1 h2 h3 h4 h5 h6 h7) xs n v hx hn
theorem De (n:Nat) (s:List Ob):∀(t:List Ob) (j:Nat),4≤j→EX [3] n s t j=t
 | [],_,_=>rfl
 |x::t,j,h=>by
  have e:([3]:List Nat).idxOf? j=none:=by rw [List.idxOf?_eq_none_iff];simp;omega
  rw [EX,e,De n s t (j+1) (by omega)]
theorem gA (cs:List D) (t:List Ob) (xs:List D) (n v:Nat) (hx:xs.length≤1000000) (hn:n≤1000000):
  bW Tryz.prog 36 [.aq (.tok 3 v) 13 xs,.int .i64 (n:Int)] (.box cs:: .dead:: .dead:: .bg v 13::t) (.aq (.tok 3 (v+1)) 13 xs) (.box cs:: .dead:: .dead:: .bg (v+1) 13::t):=by
 have e:∀u,Fw [3] (.box cs:: .dead:: .dead:: .bg v 13::t) [.bg u 13]= .box cs:: .dead:: .dead:: .bg u 13::t:=fun u=>by
  have h:=De (t.length+4) [.bg u 13] t 4 (Nat.le_refl _)
  show (.box cs:: .dead:: .dead:: .bg u 13::EX [3] (t.length+4) [.bg u 13] t 4)++ []=_
  rw [h,Wd]
 have:=(B0 xs n v hx hn).rn [3] (.box cs:: .dead:: .dead:: .bg v 13::t) rfl (by decide) (fun x hx=>by rw [List.mem_singleton] at hx;subst hx;simp) (e v)
 rw [e] at this
 exact this
theorem IK (p:ae) (l outs xs:List D) (n k m j:Nat) (m1:m≤100) (ho:outs.length≤100000) (h:m≤j):ak Tryz.prog (aC Tryz.f9 1) ⟨[3,27,28,29],[0],[(8,13)]⟩ 6 ((uu)::(uu)::(uu)::(.ptr false 0 0)::(un 4++(.aq (.tok 6 0) 13 outs)::(un 18++(.aq .no 13 l)::(.int .i64 (↑n:Int))::(.int .i64 (↑k:Int))::(un 58++(.aq .no 8 xs)::(.int .i64 (↑m:Int))::(.int .i64 (↑j:Int))::(un 11))))) [.box (aP p),.dead,.dead,.dead,.dead,.dead,.bg 0 13] (.exit 9) ((uu)::(uu)::(uu)::(.ptr false 0 0)::(un 4++(.aq (.tok 6 0) 13 outs)::(un 18++(.aq .no 13 l)::(.int .i64 (↑n:Int))::(.int .i64 (↑k:Int))::(un 72)))) ([.box [.int .i8 (ae.k p 0),.int .i8 (ae.n p 0),.int .i8 (ae.k p 1),.int .i8 (ae.n p 1),.int .i8 (ae.k p 2),.int .i8 (ae.n p 2),.int .i8 (ae.k p 3),.int .i8 (ae.n p 3),.int .i8 (ae.k p 4),.int .i8 (ae.n p 4),.int .i8 (ae.k p 5),.int .i8 (ae.n p 5),.int .i8 (ae.k p 6),.int .i8 (ae.n p 6),.int .i8 (ae.k p 7),.int .i8 (ae.n p 7),.int .i8 (ae.k p 8),.int .i8 (ae.n p 8),.int .i8 (ae.k p 9),.int .i8 (ae.n p 9),.int .i8 (ae.k p 10),.int .i8 (ae.n p 10)],.dead,.dead,.dead,.dead,.dead,.bg 0 13]):=by
 exact (ak.ao (sp:=⟨[3,27,28,29],[0],[(8,13)]⟩) (n0:=6) (ex:=Ex.exit (9:Nat)) (t':=((uu)::(uu)::(uu)::(.ptr false 0 0)::(un 4++(.aq (.tok 6 0) 13 outs)::(un 18++(.aq .no 13 l)::(.int .i64 (↑n:Int))::(.int .i64 (↑k:Int))::(un 72))))) (s':= [.box [.int .i8 (ae.k p 0),.int .i8 (ae.n p 0),.int .i8 (ae.k p 1),.int .i8 (ae.n p 1),.int .i8 (ae.k p 2),.int .i8 (ae.n p 2),.int .i8 (ae.k p 3),.int .i8 (ae.n p 3),.int .i8 (ae.k p 4),.int .i8 (ae.n p 4),.int .i8 (ae.k p 5),.int .i8 (ae.n p 5),.int .i8 (ae.k p 6),.int .i8 (ae.n p 6),.int .i8 (ae.k p 7),.int .i8 (ae.n p 7),.int .i8 (ae.k p 8),.int .i8 (ae.n p 8),.int .i8 (ae.k p 9),.int .i8 (ae.n p 9),.int .i8 (ae.k p 10),.int .i8 (ae.n p 10)],.dead,.dead,.dead,.dead,.dead,.bg 0 13]) mixed [tC (by ((try simp only [Vv,VC,bm] at*);(try unfold bn at*);omega):(decide ((↑j:Int)<(↑m:Int)))=false)] (by kernel_rfl)).cast (by rfl) (by rfl)
theorem Km (p:ae) (l outs xs:List D) (n k m j:Nat) (m1:m≤100) (ho:outs.length≤100000) (hj:j<m) (op w dst src base ai au cc:Int) (hx:xs[j]? =some (xD op w dst src base ai au cc)):ak Tryz.prog (aC Tryz.f9 1) ⟨[3,27,28,29,88,89,90],[0],[(8,13)]⟩ 6 ((uu)::(uu)::(uu)::(.ptr false 0 0)::(un 4++(.aq (.tok 6 0) 13 outs)::(un 18++(.aq .no 13 l)::(.int .i64 (↑n:Int))::(.int .i64 (↑k:Int))::(un 58++(.aq .no 8 xs)::(.int .i64 (↑m:Int))::(.int .i64 (↑j:Int))::(un 11))))) [.box (aP p),.dead,.dead,.dead,.dead,.dead,.bg 0 13] .norm ((uu)::(uu)::(uu)::(.ptr false 0 0)::(un 4++(.aq (.tok 6 0) 13 (outs++ [(e6 0 op w dst src base ai au cc 0 0 0 0)]))::(un 18++(.aq .no 13 l)::(.int .i64 (↑n:Int))::(.int .i64 (↑k:Int))::(un 58++(.aq .no 8 xs)::(.int .i64 (↑m:Int))::(.int .i64 (W3.i64.wrap ((↑j:Int)+1)))::(un 11))))) ([.box [.int .i8 (ae.k p 0),.int .i8 (ae.n p 0),.int .i8 (ae.k p 1),.int .i8 (ae.n p 1),.int .i8 (ae.k p 2),.int .i8 (ae.n p 2),.int .i8 (ae.k p 3),.int .i8 (ae.n p 3),.int .i8 (ae.k p 4),.int .i8 (ae.n p 4),.int .i8 (ae.k p 5),.int .i8 (ae.n p 5),.int .i8 (ae.k p 6),.int .i8 (ae.n p 6),.int .i8 (ae.k p 7),.int .i8 (ae.n p 7),.int .i8 (ae.k p 8),.int .i8 (ae.n p 8),.int .i8 (ae.k p 9),.int .i8 (ae.n p 9),.int .i8 (ae.k p 10),.int .i8 (ae.n p 10)],.dead,.dead,.dead,.dead,.dead,.bg 0 13]):=by
 exact (ak.ao (sp:=⟨[3,27,28,29,88,89,90],[0],[(8,13)]⟩) (n0:=6) (ex:=Ex.norm) (t':=((uu)::(uu)::(uu)::(.ptr false 0 0)::(un 4++(.aq (.tok 6 0) 13 (outs++ [(e6 0 op w dst src base ai au cc 0 0 0 0)]))::(un 18++(.aq .no 13 l)::(.int .i64 (↑n:Int))::(.int .i64 (↑k:Int))::(un 58++(.aq .no 8 xs)::(.int .i64 (↑m:Int))::(.int .i64 (W3.i64.wrap ((↑j:Int)+1)))::(un 11)))))) (s':= [.box [.int .i8 (ae.k p 0),.int .i8 (ae.n p 0),.int .i8 (ae.k p 1),.int .i8 (ae.n p 1),.int .i8 (ae.k p 2),.int .i8 (ae.n p 2),.int .i8 (ae.k p 3),.int .i8 (ae.n p 3),.int .i8 (ae.k p 4),.int .i8 (ae.n p 4),.int .i8 (ae.k p 5),.int .i8 (ae.n p 5),.int .i8 (ae.k p 6),.int .i8 (ae.n p 6),.int .i8 (ae.k p 7),.int .i8 (ae.n p 7),.int .i8 (ae.k p 8),.int .i8 (ae.n p 8),.int .i8 (ae.k p 9),.int .i8 (ae.n p 9),.int .i8 (ae.k p 10),.int .i8 (ae.n p 10)],.dead,.dead,.dead,.dead,.dead,.bg 0 13]) mixed [tC (by ((try simp only [Vv,VC,bm] at*);(try unfold bn at*);omega):(decide ((↑j:Int)<(↑m:Int)))=true),tT,.get _ _ _ hx,.len (VD outs+(1:Nat)) ((2147483648:Nat)) (by first|decide|omega|(simp;omega))] (by kernel_rfl)).cast (by rfl) (by rfl)
end Go.Proofs.YtkpneibifdoecaaGreat
namespace Go.Ev
open Go
def GF (x:XS):dp:=⟨0,x.op,x.w,x.dst,x.src,x.base,x.ai,x.au,x.cc,0,0,0,0⟩
def nE (p:ae) (x:dp):List XS:=if x.kind=1 then [ez x.aw (p.k x.aF) (p.n x.aF)] else if x.kind=2 then jf x.aw (p.k x.aF) (p.n x.aF) else if x.kind=3 then Eo p x.num else du p
def lN (p:ae) (x:dp):List dp:=if x.kind=1∨x.kind=2∨x.kind=3∨x.kind=6 then (nE p x).map GF else [x]
def im (p:ae) (l:List dp):List dp:=l.flatMap (lN p)
theorem sP {x:dp} (h:x.may=true) (hk:x.kind=1∨x.kind=2):0≤x.aF∧x.aF≤10∧cV x.aw=true:=by
 unfold dp.may at h
 rcases hk with e|e<;>rw [e] at h<;>first|rw [fg] at h|rw [ff] at h
 all_goals
  simp only [VG,decide_eq_true_eq] at h
  exact ⟨h.1.1.1.1,h.1.1.1.2,h.1.1.2⟩
theorem He {x:dp} (h:x.may=true) (hk:x.kind=3):0≤x.num∧x.num≤15:=by
 unfold dp.may at h
 rw [hk,kC] at h
 simp only [VG,decide_eq_true_eq] at h
 exact h.1.1
theorem EP {l:List dp} (h:iV l=none):∀x∈l,x.may=true:=by
 intro x hx
 unfold iV at h
 rw [List.findIdx?_eq_none_iff] at h
 have:=h x hx
 simpa using this
end Go.Ev
namespace Go.Proofs.YtkpneibifdoecaaGreat
open Go Go.Ev
abbrev eZ (l:List XS):List D:=(l.map GF).map dp.d
abbrev fX (l:List XS):List D:=l.map XS.d
theorem ev (l:List XS):(fX l).length=l.length:=VC _
theorem qC {l:List XS} {k:Nat} (h:k<l.length):(fX l)[k]? =some (xD l[k].op l[k].w l[k].dst l[k].src l[k].base l[k].ai l[k].au l[k].cc):=by
 simp [fX,h,XS.d]
abbrev LZ (l outs xs:List D) (n k m j:Nat):List D:=((.undef)::(.undef)::(.undef)::(.ptr false 0 0)::(un 4++(.aq (.tok 6 0) 13 outs)::(un 18++(.aq .no 13 l)::(.int .i64 (n:Int))::(.int .i64 (k:Int))::(un 58++(.aq .no 8 xs)::(.int .i64 (m:Int))::(.int .i64 (j:Int))::(un 11)))))
abbrev NG (l outs:List D) (n k:Nat):List D:=((.undef)::(.undef)::(.undef)::(.ptr false 0 0)::(un 4++(.aq (.tok 6 0) 13 outs)::(un 18++(.aq .no 13 l)::(.int .i64 (n:Int))::(.int .i64 (k:Int))::(un 72))))
abbrev Hn (p:ae):List Ob:= [.box (aP p),.dead,.dead,.dead,.dead,.dead,.bg 0 13]
theorem NF (p:ae) (l:List D) (n k:Nat) (ys:List XS) (hy:ys.length≤100):∀(r j:Nat) (outs:List D),j+r=ys.length→outs.length≤50000+j→
  aA Tryz.prog (aC Tryz.f9 1) 6 (LZ l outs (fX ys) n k ys.length j) (Hn p) (.exit 9) (NG l (outs++eZ (ys.drop j)) n k) (Hn p)
 |0,j,outs,hj,ho=>by
  obtain rfl:j=ys.length:=by omega
  have:=IK p l outs (fX ys) n k ys.length ys.length hy (by omega) (Nat.le_refl _)
  rw [List.drop_length,show eZ []= [] from rfl,Wd]
  exact aA.last this (fun h=>by cases h)
 |r+1,j,outs,hj,ho=>by
  have Pd:j<ys.length:=by omega
  have:=Km p l outs (fX ys) n k ys.length j hy (by omega) Pd _ _ _ _ _ _ _ _ (qC Pd)
  rw [lO (by omega)] at this
  have ih:=NF p l n k ys hy r (j+1) (outs++ [(GF ys[j]).d]) (by omega) (by rw [List.length_append,List.length_singleton];omega)
  rw [List.append_assoc] at ih
  rw [List.drop_eq_getElem_cons Pd,eZ,Wu,Wu]
  exact aA.bZ this ih
abbrev IL (l outs:List D) (ys:List XS) (n k:Nat):List D:=((.undef)::(.undef)::(.undef)::(.ptr false 0 0)::(un 4++(.aq (.tok 6 0) 13 outs)::(un 18++(.aq .no 13 l)::(.int .i64 (n:Int))::(.int .i64 (k:Int))::(un 58++(.aq .no 8 (fX ys))::(.int .i64 ((fX ys).length:Int))::(.int .i64 0)::(un 11)))))
theorem KT (p:ae) (l:List D) (n k:Nat) (ys:List XS) (hy:ys.length≤100) (outs:List D) (ho:outs.length≤20000):aI Tryz.prog 6 (.loop (aC Tryz.f9 1)) (IL l outs ys n k) (Hn p) (.exit 9) (NG l (outs++eZ ys) n k) (Hn p):=by
 have e:IL l outs ys n k=LZ l outs (fX ys) n k ys.length 0:=by simp only [IL,LZ,ev];rfl
 rw [e]
 exact aI.bf (by simp) (NF p l n k ys hy ys.length 0 outs (by omega) (by omega))
theorem kN {n:Int} (h:0≤n∧n<11):W3.i64.wrap (8*W3.i64.wrap n)=8*n:=by rw [aY,aY];omega
theorem J4:wk (.aQ [.aq .tight 0 [],.int .i64 0]) (.aQ [.aq .no 8 (fX []),.int .i64 0]):=by exact ⟨⟨rfl,.inr rfl,trivial,.inl rfl⟩,rfl,trivial⟩
theorem F4 (p:ae) (hm:p.may=true) (s0:0≤p.sp) (s1:p.sp≤11):aJ Tryz.prog 21 [.agg (aP p)] (.aQ [.aq .no 8 (fX (cy p)),.int .i64 0]):=by
 have w1:W3.i64.wrap (8*p.sp)=8*p.sp:=by rw [aY];omega
 have o1:=dw (ae.fb hm (i:=1) (by decide) (by decide))
 have Gv:=dw (ae.fb hm (i:=10) (by decide) (by decide))
 by_cases hs:p.sp>0
 ·rcases o1 with ⟨a,a2⟩|⟨a,a2⟩|⟨a,a2,a3⟩<;>rcases Gv with ⟨b,b2⟩|⟨b,b2⟩|⟨b,b2,b3⟩
  ·have e:cy p= [⟨12,64,4,0,0,0,8*p.sp,0⟩]:=by
    unfold cy dX
    simp [a,b,hs]
   have q:=yx p hm s0 s1 hs (by simp [a]) (by simp [a]) (by simp [b]) (by simp [b])
   rw [w1] at q
   rw [e]
   exact q
  ·have e:cy p= [⟨12,64,4,0,0,0,8*p.sp,0⟩,dn (p.n 10) 3145792]:=by
    unfold cy dX
    simp [a,b,hs]
   have q:=yw p hm s0 s1 hs (by simp [a]) (by simp [a]) (by simp [b]) (by simp [b])
   rw [w1] at q
   rw [e]
   exact q
  ·have e:cy p= [⟨12,64,4,0,0,0,8*p.sp,0⟩,dn 0 3145792,dt 0 (p.n 10)]:=by
    unfold cy dX
    simp [a,b,hs]
   have q:=yv p hm s0 s1 hs (by simp [a]) (by simp [a]) (by simp [b]) b2 b3
   rw [w1,kN ⟨b2,b3⟩] at q
   rw [e]
   exact q
  ·have e:cy p= [⟨12,64,4,0,0,0,8*p.sp,0⟩,dn (p.n 1) 2097152]:=by
    unfold cy dX
    simp [a,b,hs]
   have q:=yu p hm s0 s1 hs (by simp [a]) (by simp [a]) (by simp [b]) (by simp [b])
   rw [w1] at q
   rw [e]
   exact q
  ·have e:cy p= [⟨12,64,4,0,0,0,8*p.sp,0⟩,dn (p.n 1) 2097152,dn (p.n 10) 3145792]:=by
    unfold cy dX
    simp [a,b,hs]
   have q:=yt p hm s0 s1 hs (by simp [a]) (by simp [a]) (by simp [b]) (by simp [b])
   rw [w1] at q
   rw [e]
   exact q
  ·have e:cy p= [⟨12,64,4,0,0,0,8*p.sp,0⟩,dn (p.n 1) 2097152,dn 0 3145792,dt 0 (p.n 10)]:=by
    unfold cy dX
    simp [a,b,hs]
   have q:=yr p hm s0 s1 hs (by simp [a]) (by simp [a]) (by simp [b]) b2 b3
   rw [w1,kN ⟨b2,b3⟩] at q
   rw [e]
   exact q
  ·have e:cy p= [⟨12,64,4,0,0,0,8*p.sp,0⟩,dn 0 2097152,dt 0 (p.n 1)]:=by
    unfold cy dX
    simp [a,b,hs]
   have q:=yq p hm s0 s1 hs (by simp [a]) a2 a3 (by simp [b]) (by simp [b])
   rw [w1,kN ⟨a2,a3⟩] at q
   rw [e]
   exact q
  ·have e:cy p= [⟨12,64,4,0,0,0,8*p.sp,0⟩,dn 0 2097152,dt 0 (p.n 1),dn (p.n 10) 3145792]:=by
    unfold cy dX
    simp [a,b,hs]
   have q:=yp p hm s0 s1 hs (by simp [a]) a2 a3 (by simp [b]) (by simp [b])
   rw [w1,kN ⟨a2,a3⟩] at q
   rw [e]
   exact q
  ·have e:cy p= [⟨12,64,4,0,0,0,8*p.sp,0⟩,dn 0 2097152,dt 0 (p.n 1),dn 0 3145792,dt 0 (p.n 10)]:=by
    unfold cy dX
    simp [a,b,hs]
   have q:=yo p hm s0 s1 hs (by simp [a]) a2 a3 (by simp [b]) b2 b3
   rw [w1,kN ⟨a2,a3⟩,kN ⟨b2,b3⟩] at q
   rw [e]
   exact q
 ·have hs:p.sp≤0:=by omega
  rcases o1 with ⟨a,a2⟩|⟨a,a2⟩|⟨a,a2,a3⟩<;>rcases Gv with ⟨b,b2⟩|⟨b,b2⟩|⟨b,b2,b3⟩
  ·have e:cy p= []:=by
    unfold cy dX
    simp [a,b,show ¬(0<p.sp) by omega]
   have q:=yn p hm s0 s1 hs (by simp [a]) (by simp [a]) (by simp [b]) (by simp [b])
   rw [e]
   exact q.to J4
  ·have e:cy p= [dn (p.n 10) 3145792]:=by
    unfold cy dX
    simp [a,b,show ¬(0<p.sp) by omega]
   have q:=ym p hm s0 s1 hs (by simp [a]) (by simp [a]) (by simp [b]) (by simp [b])
   rw [e]
   exact q
  ·have e:cy p= [dn 0 3145792,dt 0 (p.n 10)]:=by
    unfold cy dX
    simp [a,b,show ¬(0<p.sp) by omega]
   have q:=yk p hm s0 s1 hs (by simp [a]) (by simp [a]) (by simp [b]) b2 b3
   rw [kN ⟨b2,b3⟩] at q
   rw [e]
   exact q
  ·have e:cy p= [dn (p.n 1) 2097152]:=by
    unfold cy dX
    simp [a,b,show ¬(0<p.sp) by omega]
   have q:=yj p hm s0 s1 hs (by simp [a]) (by simp [a]) (by simp [b]) (by simp [b])
   rw [e]
   exact q
  ·have e:cy p= [dn (p.n 1) 2097152,dn (p.n 10) 3145792]:=by
    unfold cy dX
    simp [a,b,show ¬(0<p.sp) by omega]
   have q:=yi p hm s0 s1 hs (by simp [a]) (by simp [a]) (by simp [b]) (by simp [b])
   rw [e]
   exact q
  ·have e:cy p= [dn (p.n 1) 2097152,dn 0 3145792,dt 0 (p.n 10)]:=by
    unfold cy dX
    simp [a,b,show ¬(0<p.sp) by omega]
   have q:=yh p hm s0 s1 hs (by simp [a]) (by simp [a]) (by simp [b]) b2 b3
   rw [kN ⟨b2,b3⟩] at q
   rw [e]
   exact q
  ·have e:cy p= [dn 0 2097152,dt 0 (p.n 1)]:=by
    unfold cy dX
    simp [a,b,show ¬(0<p.sp) by omega]
   have q:=yg p hm s0 s1 hs (by simp [a]) a2 a3 (by simp [b]) (by simp [b])
   rw [kN ⟨a2,a3⟩] at q
   rw [e]
   exact q
  ·have e:cy p= [dn 0 2097152,dt 0 (p.n 1),dn (p.n 10) 3145792]:=by
    unfold cy dX
    simp [a,b,show ¬(0<p.sp) by omega]
   have q:=yf p hm s0 s1 hs (by simp [a]) a2 a3 (by simp [b]) (by simp [b])
   rw [kN ⟨a2,a3⟩] at q
   rw [e]
   exact q
  ·have e:cy p= [dn 0 2097152,dt 0 (p.n 1),dn 0 3145792,dt 0 (p.n 10)]:=by
    unfold cy dX
    simp [a,b,show ¬(0<p.sp) by omega]
   have q:=ye p hm s0 s1 hs (by simp [a]) a2 a3 (by simp [b]) b2 b3
   rw [kN ⟨a2,a3⟩,kN ⟨b2,b3⟩] at q
   rw [e]
   exact q
theorem EC (p:ae) (hm:p.may=true) (s0:0≤p.sp) (s1:p.sp≤11):aJ Tryz.prog 19 [.agg (aP p)] (.aQ [.aq .no 8 (fX (du p)),.int .i64 0]):=by
 have w1:W3.i64.wrap (8*p.sp)=8*p.sp:=by rw [aY];omega
 have o0:=dw (ae.fb hm (i:=0) (by decide) (by decide))
 by_cases hs:p.sp>0
 ·rcases o0 with ⟨a,a2⟩|⟨a,a2⟩|⟨a,a2,a3⟩
  ·have e:du p= [dn 0 0,⟨9,64,4,0,0,0,8*p.sp,0⟩,⟨30,0,0,0,0,0,0,0⟩]:=by
    unfold du ez
    simp [a,hs]
   have q:=zq p hm s0 s1 hs (by simp [a]) (by simp [a])
   rw [w1] at q
   rw [e]
   exact q
  ·have e:du p= [⟨0,64,0,p.n 0,0,0,0,0⟩,⟨9,64,4,0,0,0,8*p.sp,0⟩,⟨30,0,0,0,0,0,0,0⟩]:=by
    unfold du ez
    simp [a,hs]
   have q:=zp p hm s0 s1 hs (by simp [a]) (by simp [a])
   rw [w1] at q
   rw [e]
   exact q
  ·have e:du p= [⟨26,64,0,0,4,8*p.n 0,0,0⟩,⟨9,64,4,0,0,0,8*p.sp,0⟩,⟨30,0,0,0,0,0,0,0⟩]:=by
    unfold du ez
    simp [a,hs]
   have q:=zo p hm s0 s1 hs (by simp [a]) a2 a3
   rw [w1,kN ⟨a2,a3⟩] at q
   rw [e]
   exact q
 ·have hs:p.sp≤0:=by omega
  rcases o0 with ⟨a,a2⟩|⟨a,a2⟩|⟨a,a2,a3⟩
  ·have e:du p= [dn 0 0,⟨30,0,0,0,0,0,0,0⟩]:=by
    unfold du ez
    simp [a,show ¬(0<p.sp) by omega]
   have q:=zn p hm s0 s1 hs (by simp [a]) (by simp [a])
   rw [e]
   exact q
  ·have e:du p= [⟨0,64,0,p.n 0,0,0,0,0⟩,⟨30,0,0,0,0,0,0,0⟩]:=by
    unfold du ez
    simp [a,show ¬(0<p.sp) by omega]
   have q:=zm p hm s0 s1 hs (by simp [a]) (by simp [a])
   rw [e]
   exact q
  ·have e:du p= [⟨26,64,0,0,4,8*p.n 0,0,0⟩,⟨30,0,0,0,0,0,0,0⟩]:=by
    unfold du ez
    simp [a,show ¬(0<p.sp) by omega]
   have q:=zl p hm s0 s1 hs (by simp [a]) a2 a3
   rw [kN ⟨a2,a3⟩] at q
   rw [e]
   exact q
theorem Db (p:ae) (hm:p.may=true) (hM:aJ Tryz.prog 23 [.agg (aP p)] (.bool true)) (hS:aJ Tryz.prog 69 [.agg (aP p)] (.int .i64 p.sp)) (s0:0≤p.sp) (s1:p.sp≤11):aJ Tryz.prog 22 [.agg (aP p)] (.aQ [.aq .no 8 (fX (cy p)),.int .i64 0]):=by
 have w1:W3.i64.wrap (8*p.sp)=8*p.sp:=by rw [aY];omega
 have o1:=dw (ae.fb hm (i:=1) (by decide) (by decide))
 have Gv:=dw (ae.fb hm (i:=10) (by decide) (by decide))
 by_cases hs:p.sp>0
 ·rcases o1 with ⟨a,a2⟩|⟨a,a2⟩|⟨a,a2,a3⟩<;>rcases Gv with ⟨b,b2⟩|⟨b,b2⟩|⟨b,b2,b3⟩
  ·have e:cy p= [⟨12,64,4,0,0,0,8*p.sp,0⟩]:=by
    unfold cy dX
    simp [a,b,hs]
   have q:=uI p hM hS s0 s1 hs (by simp [a]) (by simp [a]) (by simp [b]) (by simp [b])
   rw [w1] at q
   rw [e]
   exact q
  ·have e:cy p= [⟨12,64,4,0,0,0,8*p.sp,0⟩,dn (p.n 10) 3145792]:=by
    unfold cy dX
    simp [a,b,hs]
   have q:=uH p hM hS s0 s1 hs (by simp [a]) (by simp [a]) (by simp [b]) (by simp [b])
   rw [w1] at q
   rw [e]
   exact q
  ·have e:cy p= [⟨12,64,4,0,0,0,8*p.sp,0⟩,dn 0 3145792,dt 0 (p.n 10)]:=by
    unfold cy dX
    simp [a,b,hs]
   have q:=uG p hM hS s0 s1 hs (by simp [a]) (by simp [a]) (by simp [b]) b2 b3
   rw [w1,kN ⟨b2,b3⟩] at q
   rw [e]
   exact q
  ·have e:cy p= [⟨12,64,4,0,0,0,8*p.sp,0⟩,dn (p.n 1) 2097152]:=by
    unfold cy dX
    simp [a,b,hs]
   have q:=uF p hM hS s0 s1 hs (by simp [a]) (by simp [a]) (by simp [b]) (by simp [b])
   rw [w1] at q
   rw [e]
   exact q
  ·have e:cy p= [⟨12,64,4,0,0,0,8*p.sp,0⟩,dn (p.n 1) 2097152,dn (p.n 10) 3145792]:=by
    unfold cy dX
    simp [a,b,hs]
   have q:=uE p hM hS s0 s1 hs (by simp [a]) (by simp [a]) (by simp [b]) (by simp [b])
   rw [w1] at q
   rw [e]
   exact q
  ·have e:cy p= [⟨12,64,4,0,0,0,8*p.sp,0⟩,dn (p.n 1) 2097152,dn 0 3145792,dt 0 (p.n 10)]:=by
    unfold cy dX
    simp [a,b,hs]
   have q:=uD p hM hS s0 s1 hs (by simp [a]) (by simp [a]) (by simp [b]) b2 b3
   rw [w1,kN ⟨b2,b3⟩] at q
   rw [e]
   exact q
  ·have e:cy p= [⟨12,64,4,0,0,0,8*p.sp,0⟩,dn 0 2097152,dt 0 (p.n 1)]:=by
    unfold cy dX
    simp [a,b,hs]
   have q:=uC p hM hS s0 s1 hs (by simp [a]) a2 a3 (by simp [b]) (by simp [b])
   rw [w1,kN ⟨a2,a3⟩] at q
   rw [e]
   exact q
  ·have e:cy p= [⟨12,64,4,0,0,0,8*p.sp,0⟩,dn 0 2097152,dt 0 (p.n 1),dn (p.n 10) 3145792]:=by
    unfold cy dX
    simp [a,b,hs]
   have q:=uB p hM hS s0 s1 hs (by simp [a]) a2 a3 (by simp [b]) (by simp [b])
   rw [w1,kN ⟨a2,a3⟩] at q
   rw [e]
   exact q
  ·have e:cy p= [⟨12,64,4,0,0,0,8*p.sp,0⟩,dn 0 2097152,dt 0 (p.n 1),dn 0 3145792,dt 0 (p.n 10)]:=by
    unfold cy dX
    simp [a,b,hs]
   have q:=uA p hM hS s0 s1 hs (by simp [a]) a2 a3 (by simp [b]) b2 b3
   rw [w1,kN ⟨a2,a3⟩,kN ⟨b2,b3⟩] at q
   rw [e]
   exact q
 ·have hs:p.sp≤0:=by omega
  rcases o1 with ⟨a,a2⟩|⟨a,a2⟩|⟨a,a2,a3⟩<;>rcases Gv with ⟨b,b2⟩|⟨b,b2⟩|⟨b,b2,b3⟩
  ·have e:cy p= []:=by
    unfold cy dX
    simp [a,b,show ¬(0<p.sp) by omega]
   have q:=uz p hM hS s0 s1 hs (by simp [a]) (by simp [a]) (by simp [b]) (by simp [b])
   rw [e]
   exact q.to J4
  ·have e:cy p= [dn (p.n 10) 3145792]:=by
    unfold cy dX
    simp [a,b,show ¬(0<p.sp) by omega]
   have q:=uw p hM hS s0 s1 hs (by simp [a]) (by simp [a]) (by simp [b]) (by simp [b])
   rw [e]
   exact q
  ·have e:cy p= [dn 0 3145792,dt 0 (p.n 10)]:=by
    unfold cy dX
    simp [a,b,show ¬(0<p.sp) by omega]
   have q:=uv p hM hS s0 s1 hs (by simp [a]) (by simp [a]) (by simp [b]) b2 b3
   rw [kN ⟨b2,b3⟩] at q
   rw [e]
   exact q
  ·have e:cy p= [dn (p.n 1) 2097152]:=by
    unfold cy dX
    simp [a,b,show ¬(0<p.sp) by omega]
   have q:=ur p hM hS s0 s1 hs (by simp [a]) (by simp [a]) (by simp [b]) (by simp [b])
   rw [e]
   exact q
  ·have e:cy p= [dn (p.n 1) 2097152,dn (p.n 10) 3145792]:=by
    unfold cy dX
    simp [a,b,show ¬(0<p.sp) by omega]
   have q:=uq p hM hS s0 s1 hs (by simp [a]) (by simp [a]) (by simp [b]) (by simp [b])
   rw [e]
   exact q
  ·have e:cy p= [dn (p.n 1) 2097152,dn 0 3145792,dt 0 (p.n 10)]:=by
    unfold cy dX
    simp [a,b,show ¬(0<p.sp) by omega]
   have q:=uo p hM hS s0 s1 hs (by simp [a]) (by simp [a]) (by simp [b]) b2 b3
   rw [kN ⟨b2,b3⟩] at q
   rw [e]
   exact q
  ·have e:cy p= [dn 0 2097152,dt 0 (p.n 1)]:=by
    unfold cy dX
    simp [a,b,show ¬(0<p.sp) by omega]
   have q:=um p hM hS s0 s1 hs (by simp [a]) a2 a3 (by simp [b]) (by simp [b])
   rw [kN ⟨a2,a3⟩] at q
   rw [e]
   exact q
  ·have e:cy p= [dn 0 2097152,dt 0 (p.n 1),dn (p.n 10) 3145792]:=by
    unfold cy dX
    simp [a,b,show ¬(0<p.sp) by omega]
   have q:=uk p hM hS s0 s1 hs (by simp [a]) a2 a3 (by simp [b]) (by simp [b])
   rw [kN ⟨a2,a3⟩] at q
   rw [e]
   exact q
  ·have e:cy p= [dn 0 2097152,dt 0 (p.n 1),dn 0 3145792,dt 0 (p.n 10)]:=by
    unfold cy dX
    simp [a,b,show ¬(0<p.sp) by omega]
   have q:=uj p hM hS s0 s1 hs (by simp [a]) a2 a3 (by simp [b]) b2 b3
   rw [kN ⟨a2,a3⟩,kN ⟨b2,b3⟩] at q
   rw [e]
   exact q
theorem Ba (p:ae) (hm:p.may=true) (hM:aJ Tryz.prog 23 [.agg (aP p)] (.bool true)) (hS:aJ Tryz.prog 69 [.agg (aP p)] (.int .i64 p.sp)) (s0:0≤p.sp) (s1:p.sp≤11):aJ Tryz.prog 20 [.agg (aP p)] (.aQ [.aq .no 8 (fX (du p)),.int .i64 0]):=by
 have w1:W3.i64.wrap (8*p.sp)=8*p.sp:=by rw [aY];omega
 have o0:=dw (ae.fb hm (i:=0) (by decide) (by decide))
 by_cases hs:p.sp>0
 ·rcases o0 with ⟨a,a2⟩|⟨a,a2⟩|⟨a,a2,a3⟩
  ·have e:du p= [dn 0 0,⟨9,64,4,0,0,0,8*p.sp,0⟩,⟨30,0,0,0,0,0,0,0⟩]:=by
    unfold du ez
    simp [a,hs]
   have q:=vh p hM hS s0 s1 hs (by simp [a]) (by simp [a])
   rw [w1] at q
   rw [e]
   exact q
  ·have e:du p= [⟨0,64,0,p.n 0,0,0,0,0⟩,⟨9,64,4,0,0,0,8*p.sp,0⟩,⟨30,0,0,0,0,0,0,0⟩]:=by
    unfold du ez
    simp [a,hs]
   have q:=vg p hM hS s0 s1 hs (by simp [a]) (by simp [a])
   rw [w1] at q
   rw [e]
   exact q
  ·have e:du p= [⟨26,64,0,0,4,8*p.n 0,0,0⟩,⟨9,64,4,0,0,0,8*p.sp,0⟩,⟨30,0,0,0,0,0,0,0⟩]:=by
    unfold du ez
    simp [a,hs]
   have q:=vf p hM hS s0 s1 hs (by simp [a]) a2 a3
   rw [w1,kN ⟨a2,a3⟩] at q
   rw [e]
   exact q
 ·have hs:p.sp≤0:=by omega
  rcases o0 with ⟨a,a2⟩|⟨a,a2⟩|⟨a,a2,a3⟩
  ·have e:du p= [dn 0 0,⟨30,0,0,0,0,0,0,0⟩]:=by
    unfold du ez
    simp [a,show ¬(0<p.sp) by omega]
   have q:=ve p hM hS s0 s1 hs (by simp [a]) (by simp [a])
   rw [e]
   exact q
  ·have e:du p= [⟨0,64,0,p.n 0,0,0,0,0⟩,⟨30,0,0,0,0,0,0,0⟩]:=by
    unfold du ez
    simp [a,show ¬(0<p.sp) by omega]
   have q:=vd p hM hS s0 s1 hs (by simp [a]) (by simp [a])
   rw [e]
   exact q
  ·have e:du p= [⟨26,64,0,0,4,8*p.n 0,0,0⟩,⟨30,0,0,0,0,0,0,0⟩]:=by
    unfold du ez
    simp [a,show ¬(0<p.sp) by omega]
   have q:=uZ p hM hS s0 s1 hs (by simp [a]) a2 a3
   rw [kN ⟨a2,a3⟩] at q
   rw [e]
   exact q
theorem C7 (p:ae) (m:Int):ak Tryz.prog (aC Tryz.f69 0) ⟨[3],[0],[]⟩ 1 [uu,.ptr false 0 0,uu,.int .i64 m,.int .i64 11,uu,uu,uu,uu,uu,uu,uu,uu,uu,uu,uu,uu,uu,uu,uu,uu,uu,uu] [.box [.int .i8 (ae.k p 0),.int .i8 (ae.n p 0),.int .i8 (ae.k p 1),.int .i8 (ae.n p 1),.int .i8 (ae.k p 2),.int .i8 (ae.n p 2),.int .i8 (ae.k p 3),.int .i8 (ae.n p 3),.int .i8 (ae.k p 4),.int .i8 (ae.n p 4),.int .i8 (ae.k p 5),.int .i8 (ae.n p 5),.int .i8 (ae.k p 6),.int .i8 (ae.n p 6),.int .i8 (ae.k p 7),.int .i8 (ae.n p 7),.int .i8 (ae.k p 8),.int .i8 (ae.n p 8),.int .i8 (ae.k p 9),.int .i8 (ae.n p 9),.int .i8 (ae.k p 10),.int .i8 (ae.n p 10)]] (.exit 0) [uu,uu,uu,.int .i64 m,uu,uu,uu,uu,uu,uu,uu,uu,uu,uu,uu,uu,uu,uu,uu,uu,uu,uu,uu] ([.box [.int .i8 (ae.k p 0),.int .i8 (ae.n p 0),.int .i8 (ae.k p 1),.int .i8 (ae.n p 1),.int .i8 (ae.k p 2),.int .i8 (ae.n p 2),.int .i8 (ae.k p 3),.int .i8 (ae.n p 3),.int .i8 (ae.k p 4),.int .i8 (ae.n p 4),.int .i8 (ae.k p 5),.int .i8 (ae.n p 5),.int .i8 (ae.k p 6),.int .i8 (ae.n p 6),.int .i8 (ae.k p 7),.int .i8 (ae.n p 7),.int .i8 (ae.k p 8),.int .i8 (ae.n p 8),.int .i8 (ae.k p 9),.int .i8 (ae.n p 9),.int .i8 (ae.k p 10),.int .i8 (ae.n p 10)]]):=by
 exact (ak.ao (sp:=⟨[3],[0],[]⟩) (n0:=1) (ex:=Ex.exit (0:Nat)) (t':= [uu,uu,uu,.int .i64 m,uu,uu,uu,uu,uu,uu,uu,uu,uu,uu,uu,uu,uu,uu,uu,uu,uu,uu,uu]) (s':= [.box [.int .i8 (ae.k p 0),.int .i8 (ae.n p 0),.int .i8 (ae.k p 1),.int .i8 (ae.n p 1),.int .i8 (ae.k p 2),.int .i8 (ae.n p 2),.int .i8 (ae.k p 3),.int .i8 (ae.n p 3),.int .i8 (ae.k p 4),.int .i8 (ae.n p 4),.int .i8 (ae.k p 5),.int .i8 (ae.n p 5),.int .i8 (ae.k p 6),.int .i8 (ae.n p 6),.int .i8 (ae.k p 7),.int .i8 (ae.n p 7),.int .i8 (ae.k p 8),.int .i8 (ae.n p 8),.int .i8 (ae.k p 9),.int .i8 (ae.n p 9),.int .i8 (ae.k p 10),.int .i8 (ae.n p 10)]]) mixed [tF] (by kernel_rfl)).cast (by rfl) (by rfl)
theorem C4 (p:ae) (m:Int) (m0:0≤m) (m1:m≤11) (i:Nat) (i1:(i:Int)≤10) (ha:(p.k (i:Int)==2)=true) (hc:0≤p.n (i:Int)) (hd:p.n (i:Int)<11):ak Tryz.prog (aC Tryz.f69 0) ⟨[1,3,4],[0],[]⟩ 1 [uu,.ptr false 0 0,uu,.int .i64 m,.int .i64 (↑i:Int),uu,uu,uu,uu,uu,uu,uu,uu,uu,uu,uu,uu,uu,uu,uu,uu,uu,uu] [.box [.int .i8 (ae.k p 0),.int .i8 (ae.n p 0),.int .i8 (ae.k p 1),.int .i8 (ae.n p 1),.int .i8 (ae.k p 2),.int .i8 (ae.n p 2),.int .i8 (ae.k p 3),.int .i8 (ae.n p 3),.int .i8 (ae.k p 4),.int .i8 (ae.n p 4),.int .i8 (ae.k p 5),.int .i8 (ae.n p 5),.int .i8 (ae.k p 6),.int .i8 (ae.n p 6),.int .i8 (ae.k p 7),.int .i8 (ae.n p 7),.int .i8 (ae.k p 8),.int .i8 (ae.n p 8),.int .i8 (ae.k p 9),.int .i8 (ae.n p 9),.int .i8 (ae.k p 10),.int .i8 (ae.n p 10)]] .norm [uu,.ptr false 0 0,uu,.int .i64 (if W3.i64.wrap (W3.i64.wrap (ae.n p (↑i:Int))+1)>m then W3.i64.wrap (W3.i64.wrap (ae.n p (↑i:Int))+1) else m),.int .i64 (W3.i64.wrap ((↑i:Int)+1)),uu,uu,uu,uu,uu,uu,uu,uu,uu,uu,uu,uu,uu,uu,uu,uu,uu,uu] ([.box [.int .i8 (ae.k p 0),.int .i8 (ae.n p 0),.int .i8 (ae.k p 1),.int .i8 (ae.n p 1),.int .i8 (ae.k p 2),.int .i8 (ae.n p 2),.int .i8 (ae.k p 3),.int .i8 (ae.n p 3),.int .i8 (ae.k p 4),.int .i8 (ae.n p 4),.int .i8 (ae.k p 5),.int .i8 (ae.n p 5),.int .i8 (ae.k p 6),.int .i8 (ae.n p 6),.int .i8 (ae.k p 7),.int .i8 (ae.n p 7),.int .i8 (ae.k p 8),.int .i8 (ae.n p 8),.int .i8 (ae.k p 9),.int .i8 (ae.n p 9),.int .i8 (ae.k p 10),.int .i8 (ae.n p 10)]]):=by
 exact (ak.ao (sp:=⟨[1,3,4],[0],[]⟩) (n0:=1) (ex:=Ex.norm) (t':= [uu,.ptr false 0 0,uu,.int .i64 (if W3.i64.wrap (W3.i64.wrap (ae.n p (↑i:Int))+1)>m then W3.i64.wrap (W3.i64.wrap (ae.n p (↑i:Int))+1) else m),.int .i64 (W3.i64.wrap ((↑i:Int)+1)),uu,uu,uu,uu,uu,uu,uu,uu,uu,uu,uu,uu,uu,uu,uu,uu,uu,uu]) (s':= [.box [.int .i8 (ae.k p 0),.int .i8 (ae.n p 0),.int .i8 (ae.k p 1),.int .i8 (ae.n p 1),.int .i8 (ae.k p 2),.int .i8 (ae.n p 2),.int .i8 (ae.k p 3),.int .i8 (ae.n p 3),.int .i8 (ae.k p 4),.int .i8 (ae.n p 4),.int .i8 (ae.k p 5),.int .i8 (ae.n p 5),.int .i8 (ae.k p 6),.int .i8 (ae.n p 6),.int .i8 (ae.k p 7),.int .i8 (ae.n p 7),.int .i8 (ae.k p 8),.int .i8 (ae.n p 8),.int .i8 (ae.k p 9),.int .i8 (ae.n p 9),.int .i8 (ae.k p 10),.int .i8 (ae.n p 10)]]) mixed [tC (decide_eq_true (Vz i1)),.dM (decide (0≤(↑i:Int)∧(↑i:Int)<(↑(11:Nat):Int))) true (by ((try simp only [bm] at*);(try unfold bn at*);omega)),.get _ _ _ (@ki p ((↑i:Int)) ([]) (by ((try simp only [bm] at*);(try unfold bn at*);omega)) i1),tC (bS 2 true (eq_of_beq ha)),.dM (decide (0≤(↑i:Int)∧(↑i:Int)<(↑(11:Nat):Int))) true (by ((try simp only [bm] at*);(try unfold bn at*);omega)),.get _ _ _ (@Au p ((↑i:Int)) ([]) (by ((try simp only [bm] at*);(try unfold bn at*);omega)) i1)] (by kernel_rfl)).cast (by rfl) (by rfl)
theorem C6 (p:ae) (m:Int) (m0:0≤m) (m1:m≤11) (i:Nat) (i1:(i:Int)≤10) (ha:(p.k (i:Int)==2)=false):ak Tryz.prog (aC Tryz.f69 0) ⟨[1,3,4],[0],[]⟩ 1 [uu,.ptr false 0 0,uu,.int .i64 m,.int .i64 (↑i:Int),uu,uu,uu,uu,uu,uu,uu,uu,uu,uu,uu,uu,uu,uu,uu,uu,uu,uu] [.box [.int .i8 (ae.k p 0),.int .i8 (ae.n p 0),.int .i8 (ae.k p 1),.int .i8 (ae.n p 1),.int .i8 (ae.k p 2),.int .i8 (ae.n p 2),.int .i8 (ae.k p 3),.int .i8 (ae.n p 3),.int .i8 (ae.k p 4),.int .i8 (ae.n p 4),.int .i8 (ae.k p 5),.int .i8 (ae.n p 5),.int .i8 (ae.k p 6),.int .i8 (ae.n p 6),.int .i8 (ae.k p 7),.int .i8 (ae.n p 7),.int .i8 (ae.k p 8),.int .i8 (ae.n p 8),.int .i8 (ae.k p 9),.int .i8 (ae.n p 9),.int .i8 (ae.k p 10),.int .i8 (ae.n p 10)]] .norm [uu,.ptr false 0 0,uu,.int .i64 m,.int .i64 (W3.i64.wrap ((↑i:Int)+1)),uu,uu,uu,uu,uu,uu,uu,uu,uu,uu,uu,uu,uu,uu,uu,uu,uu,uu] ([.box [.int .i8 (ae.k p 0),.int .i8 (ae.n p 0),.int .i8 (ae.k p 1),.int .i8 (ae.n p 1),.int .i8 (ae.k p 2),.int .i8 (ae.n p 2),.int .i8 (ae.k p 3),.int .i8 (ae.n p 3),.int .i8 (ae.k p 4),.int .i8 (ae.n p 4),.int .i8 (ae.k p 5),.int .i8 (ae.n p 5),.int .i8 (ae.k p 6),.int .i8 (ae.n p 6),.int .i8 (ae.k p 7),.int .i8 (ae.n p 7),.int .i8 (ae.k p 8),.int .i8 (ae.n p 8),.int .i8 (ae.k p 9),.int .i8 (ae.n p 9),.int .i8 (ae.k p 10),.int .i8 (ae.n p 10)]]):=by
 exact (ak.ao (sp:=⟨[1,3,4],[0],[]⟩) (n0:=1) (ex:=Ex.norm) (t':= [uu,.ptr false 0 0,uu,.int .i64 m,.int .i64 (W3.i64.wrap ((↑i:Int)+1)),uu,uu,uu,uu,uu,uu,uu,uu,uu,uu,uu,uu,uu,uu,uu,uu,uu,uu]) (s':= [.box [.int .i8 (ae.k p 0),.int .i8 (ae.n p 0),.int .i8 (ae.k p 1),.int .i8 (ae.n p 1),.int .i8 (ae.k p 2),.int .i8 (ae.n p 2),.int .i8 (ae.k p 3),.int .i8 (ae.n p 3),.int .i8 (ae.k p 4),.int .i8 (ae.n p 4),.int .i8 (ae.k p 5),.int .i8 (ae.n p 5),.int .i8 (ae.k p 6),.int .i8 (ae.n p 6),.int .i8 (ae.k p 7),.int .i8 (ae.n p 7),.int .i8 (ae.k p 8),.int .i8 (ae.n p 8),.int .i8 (ae.k p 9),.int .i8 (ae.n p 9),.int .i8 (ae.k p 10),.int .i8 (ae.n p 10)]]) mixed [tC (decide_eq_true (Vz i1)),.dM (decide (0≤(↑i:Int)∧(↑i:Int)<(↑(11:Nat):Int))) true (by ((try simp only [bm] at*);(try unfold bn at*);omega)),.get _ _ _ (@ki p ((↑i:Int)) ([]) (by ((try simp only [bm] at*);(try unfold bn at*);omega)) i1),tC ha] (by kernel_rfl)).cast (by rfl) (by rfl)
abbrev Jn (m i:Int):List D:= [.undef,.ptr false 0 0,.undef,.int .i64 m,.int .i64 i,.undef,.undef,.undef,.undef,.undef,.undef,.undef,.undef,.undef,.undef,.undef,.undef,.undef,.undef,.undef,.undef,.undef,.undef]
abbrev Jo (m:Int):List D:= [.undef,.undef,.undef,.int .i64 m,.undef,.undef,.undef,.undef,.undef,.undef,.undef,.undef,.undef,.undef,.undef,.undef,.undef,.undef,.undef,.undef,.undef,.undef,.undef]
theorem nD (p:ae) (h:p.may=true):∀(m i:Nat),i+m=11→
  aA Tryz.prog (aC Tryz.f69 0) 1 (Jn (p.pX i) i) [.box (aP p)] (.exit 0) (Jo (p.pX 11)) [.box (aP p)]
 |0,i,hi=>by
  obtain rfl:i=11:=by omega
  exact aA.last (C7 p (p.pX 11)) (fun h=>by cases h)
 |m+1,i,hi=>by
  have ih:=nD p h m (i+1) (by omega)
  have i1:(i:Int)≤10:=by omega
  have hw:=rh i i1
  obtain ⟨m0,m1⟩:=ae.ri h i (by omega)
  rw [ae.pX] at ih
  by_cases hk:p.k i=2
  ·have hn:=rj (ae.fb h (i:=(i:Int)) (by omega) i1) hk
   have:=C4 p (p.pX i) m0 m1 i i1 (by simp [hk]) hn.1 hn.2
   have e:W3.i64.wrap (W3.i64.wrap (p.n i)+1)=p.n i+1:=by rw [aY,aY];omega
   rw [hw,e] at this
   rw [if_pos hk] at ih
   exact aA.bZ this ih
  ·have:=C6 p (p.pX i) m0 m1 i i1 (by simpa using hk)
   rw [hw] at this
   rw [if_neg hk] at ih
   exact aA.bZ this ih
theorem C5 (p:ae) (h:p.may=true):aI Tryz.prog 1 (.loop (aC Tryz.f69 0)) (Jn 0 0) [.box (aP p)] (.exit 0) (Jo p.sp) [.box (aP p)]:=
 aI.bf (Nat.le_refl _) (nD p h 11 0 rfl)
theorem C8 (p:ae) (h:p.may=true):aJ Tryz.prog 69 ([.agg (aP p)]) (.int .i64 p.sp):=by
 have c0:= @C5 (p) h
 exact (aJ.ao (d:= .int .i64 (ae.sp p)) mixed Tryz.func69 (by kernel_rfl) [.head ⟨[1,3,4],[0],[]⟩ _ _ _ _ _ _ _ c0] (by kernel_rfl)).to (by simp [wk,])
theorem iy (aw:Int) (h0:0≤aw) (hn:aw≤127):aJ Tryz.prog 61 ([e6 1 0 0 0 0 0 0 0 0 0 aw 0 0]) (.bool (cV aw)):=by
 rcases Bool.eq_false_or_eq_true (cV aw) with k0|k0
 ·skip
  have c1:= @jP (aw) hn
  exact (aJ.ao (d:= .bool true) mixed Tryz.func61 (by kernel_rfl) ([.inl,.inl,tT,tT,tT,tT,tT,tT,tT,tT,tT,.get ([D.fn (VE 120) [] [],D.fn (VE 117) [] [],D.fn (VE 117) [] [],D.fn (VE 123) [] [],D.fn (VE 124) [] [.ptr false 2 0],D.fn (VE 119) [] [],D.fn (VE 126) [] []]) 1 (D.fn (VE 117) [] []) rfl,tT,.inl,.inl,tT]++ [tT,tT,tT,tT,tT,tT,tT,tT,.ret _ _ _ c1,tT,tT,tC (eT k0),tC (eT k0),tC (eT k0),tC (eT k0),tC (eT k0)]++ [.flat _ _ cf,tC k0]) (by kernel_rfl)).to (by first|rfl|(simp [wk,k0];done))
 ·skip
  have c2:= @jP (aw) hn
  exact (aJ.ao (d:= .bool false) mixed Tryz.func61 (by kernel_rfl) ([.inl,.inl,tT,tT,tT,tT,tT,tT,tT,tT,tT,.get ([D.fn (VE 120) [] [],D.fn (VE 117) [] [],D.fn (VE 117) [] [],D.fn (VE 123) [] [],D.fn (VE 124) [] [.ptr false 2 0],D.fn (VE 119) [] [],D.fn (VE 126) [] []]) 1 (D.fn (VE 117) [] []) rfl,tT,.inl,.inl,tT]++ [tT,tT,tT,tT,tT,tT,tT,tT,.ret _ _ _ c2,tT,tT,tC (eT k0),tC (eT k0),tC (eT k0),tC (eT k0),tC (eT k0)]++ [tC k0]) (by kernel_rfl)).to (by first|rfl|(simp [wk,k0];done))
abbrev OV (s:Int→Int):List D:= [.int .u64 (s 0),.int .u64 (s 1),.int .u64 (s 2),.int .u64 (s 3),.int .u64 (s 4),.int .u64 (s 5),.int .u64 (s 6),.int .u64 (s 7),.int .u64 (s 8),.int .u64 (s 9),.int .u64 (s 10)]
end Go.Proofs.YtkpneibifdoecaaGreat
