import Derived.WalkKit
import Derived.IntWalk
import Derived.KernelRfl
import Derived.LoopN
import Derived.Test.YtbfpahigdpigpaaGreatQ05
import Derived.Test.YtbfpahigdpigpaaGreatQ08
import Derived.Test.YtbfpahigdpigpaaGreatQ09
open List renaming replicate→Z7,getElem?_map→aau
open BitVec renaming ofInt→Z8,toNat→aab
open Go.Proofs.Tryz renaming prog→Z9
open Bool renaming eq_iff_iff→aai
open Int renaming fdiv→aaQ
open Go renaming IntKind→abz
/- Contracts and plain laws that a statement's proof leans on (texts merged:XMay3,XMayA,XRef0,XRef1,XRef2,XRef3,XRef4,XRefA,XB0,NumA,XB1,XB2a). -/
set_option linter.unusedVariables false
set_option linter.unusedSimpArgs false
set_option maxRecDepth 100000
set_option maxHeartbeats 8000000
namespace Go.Proofs.YtbfpahigdpigpaaGreat
open Go Go.Ev
def tM (Ua:Int):Prop:= ∀(op w ab ae aa af aj cc:Int) (ho:op≤127) (h:(aA op==Ua)=true) (Ue:decide (0≤op∧op≤31)=true),aP Z9 72 ([xD op w ab ae aa af aj cc]) (ax (bC op w ab ae aa af aj cc))
theorem Ho:tM 9:=by
 intro op w ab ae aa af aj cc ho h Ue
 have c0:= @da op ho
 rw [eq_of_beq h] at c0
 generalize g2:ba op=r1 at c0
 generalize g4:bI op=r3 at c0
 have c5:= @IJ op w ab ae aa af aj cc 9 (rfl:true=true)
 let E1:EL:=([aw c0]++Z7 4 (tC (eF (nt Ue)))++ [aw c5,tC (eF (nt Ue)),tC (eF (nt Ue)),.flat _ _ cW,tC (nt Ue)])
 rcases cf (bZ [ao 0,ao 0,ao ab,ao ae,ao aa,av af,av 0,ao cc] [ao 0,ao 0,ao 0,ao 0,ao 0,av 0,av 0,ao 0]) with h6|h6
 ·have c7:= @dU ab
  generalize g9:cg ab=r8 at c7
  let E2:EL:=E1++Z7 3 (tC (eF (nt h6)))++ [aw c7,tC (eF (nt h6)),tC (nt h6)]
  cases r8
  ·exact (eg (d:= .bool false) (E2++(cr 21 1589776))).to (by clear E1 E2;(try simp only [ct,aE,sM] at*);(simp [aE,sM, *];done))
  have T7:= @dU ae
  generalize g12:cg ae=Un at T7
  let E3:EL:=E2++ [tT,tT,tT,aw T7,tT,tF]
  cases Un
  ·exact (eg (d:= .bool false) (E3++(cr 16 49680))).to (by clear E1 E2 E3;(try simp only [ct,aE,sM] at*);(simp [aE,sM, *];done))
  have Uh:= @dU aa
  generalize g15:cg aa=UD at Uh
  let E4:EL:=E3++ [tT,tT,tT,aw Uh,tT,tF]
  cases UD
  ·exact (eg (d:= .bool false) (E4++(cr 11 1552))).to (by clear E1 E2 E3 E4;(try simp only [ct,aE,sM] at*);(simp [aE,sM, *];done))
  have Ui:= @bU af (-2147483648) 2147483647
  let E5:EL:=E4++ [tT,tT,tT,aw Ui,tT,tF]
  rcases cf (decide (af<(-2147483648))) with h17|h17
  ·exact (eg (d:= .bool false) (E5++Z7 4 (tC (eF (nt (ic (y:=decide (af≤2147483647)) (bQ (-2147483648) h17)))))++ [tC (nt (ic (y:=decide (af≤2147483647)) (bQ (-2147483648) h17))),tT])).to (by clear E1 E2 E3 E4 E5;(try simp only [ct,aE,sM] at*);(simp [aE,sM, *];omega))
  rcases cf (decide (af<2147483648)) with h18|h18
  ·have U6:= @bU aj (-2147483648) 2147483647
   let E6:EL:=E5++Z7 3 (tC (eF (nt (dt (bQ (-2147483648) h17) (eH 2147483647 h18)))))++ [aw U6,tC (eF (nt (dt (bQ (-2147483648) h17) (eH 2147483647 h18)))),tC (nt (dt (bQ (-2147483648) h17) (eH 2147483647 h18)))]
   rcases cf (decide (aj<(-2147483648))) with h20|h20
   ·exact (eg (d:= .bool false) (E6++ [tC (nt (ic (y:=decide (aj≤2147483647)) (bQ (-2147483648) h20)))])).to (by clear E1 E2 E3 E4 E5 E6;(try simp only [ct,aE,sM] at*);(simp [aE,sM, *];omega))
   rcases cf (decide (aj<2147483648)) with h21|h21
   ·let E7:EL:=E6++ [tC (nt (dt (bQ (-2147483648) h20) (eH 2147483647 h21)))]
    by_cases h22:w=32
    ·subst h22
     exact (eg (d:= .bool true) (E7++(cr 10 520)++Z7 8 tF++ [tT])).to (by clear E1 E2 E3 E4 E5 E6 E7;(try simp only [ct,aE,sM] at*);(rw [aai];simp [aE,sM, *];grind))
    let E8:EL:=E7++Z7 3 (tC (eF (bc h22)))++ [tC (bc h22)]++Z7 4 (tC (eF (bc h22)))
    by_cases h23:w=8
    ·subst h23
     have Vg:= @bU aj (-128) 127
     exact (eg (d:= .bool (decide ((-128)≤aj)&&decide (aj≤127))) (E8++ [tT,tT,tT,aw Vg,tT,tT]++Z7 9 tF++ [tT])).to (by clear E1 E2 E3 E4 E5 E6 E7 E8;(try simp only [ct,aE,sM] at*);(rw [aai];simp [aE,sM, *];grind))
    exact (eg (d:= .bool false) (E8++Z7 3 (tC (eT (bc h23)))++ [tC (eF (bc h22)),tC (bc h23),tC (bc h22)]++Z7 8 tF++ [tT])).to (by clear E1 E2 E3 E4 E5 E6 E7 E8;(try simp only [ct,aE,sM] at*);(simp [aE,sM, *];done))
   exact (eg (d:= .bool false) (E6++ [tC (nt (dt (bQ (-2147483648) h20) (eH 2147483647 h21)))])).to (by clear E1 E2 E3 E4 E5 E6;(try simp only [ct,aE,sM] at*);(simp [aE,sM, *];omega))
  exact (eg (d:= .bool false) (E5++Z7 4 (tC (eF (nt (dt (bQ (-2147483648) h17) (eH 2147483647 h18)))))++ [tC (nt (dt (bQ (-2147483648) h17) (eH 2147483647 h18))),tT])).to (by clear E1 E2 E3 E4 E5;(try simp only [ct,aE,sM] at*);(simp [aE,sM, *];omega))
 exact (eg (d:= .bool false) (E1++Z7 4 (tC (eF (nt h6)))++([tC (nt h6)]++cr 21 1589776))).to (by clear E1;(try simp only [ct,aE,sM] at*);(rw [aai];simp [aE,sM, *];grind))
theorem C3:tM 10:=by
 intro op w ab ae aa af aj cc ho h Ue
 have c0:= @da op ho
 rw [eq_of_beq h] at c0
 generalize g2:ba op=r1 at c0
 generalize g4:bI op=r3 at c0
 have c5:= @El op w ab ae aa af aj cc 10 (rfl:true=true)
 let E1:EL:=([aw c0]++Z7 4 (tC (eF (nt Ue)))++ [aw c5,tC (eF (nt Ue)),tC (eF (nt Ue)),.flat _ _ cW,tC (nt Ue)])
 rcases cf (bZ [ao 0,ao 0,ao ab,ao ae,ao aa,av af,av 0,ao 0] [ao 0,ao 0,ao 0,ao 0,ao 0,av 0,av 0,ao 0]) with h6|h6
 ·have c7:= @dU ab
  generalize g9:cg ab=r8 at c7
  let E2:EL:=E1++Z7 3 (tC (eF (nt h6)))++ [aw c7,tC (eF (nt h6)),tC (nt h6)]
  cases r8
  ·exact (eg (d:= .bool false) (E2++(cr 21 1589776))).to (by clear E1 E2;(try simp only [ct,aE,sM] at*);(simp [aE,sM, *];done))
  have T7:= @dU ae
  generalize g12:cg ae=Un at T7
  let E3:EL:=E2++ [tT,tT,tT,aw T7,tT,tF]
  cases Un
  ·exact (eg (d:= .bool false) (E3++(cr 16 49680))).to (by clear E1 E2 E3;(try simp only [ct,aE,sM] at*);(simp [aE,sM, *];done))
  have Uh:= @dU aa
  generalize g15:cg aa=UD at Uh
  let E4:EL:=E3++ [tT,tT,tT,aw Uh,tT,tF]
  cases UD
  ·exact (eg (d:= .bool false) (E4++(cr 11 1552))).to (by clear E1 E2 E3 E4;(try simp only [ct,aE,sM] at*);(simp [aE,sM, *];done))
  have Ui:= @bU af (-2147483648) 2147483647
  let E5:EL:=E4++ [tT,tT,tT,aw Ui,tT,tF]
  rcases cf (decide (af<(-2147483648))) with h17|h17
  ·exact (eg (d:= .bool false) (E5++Z7 4 (tC (eF (nt (ic (y:=decide (af≤2147483647)) (bQ (-2147483648) h17)))))++ [tC (nt (ic (y:=decide (af≤2147483647)) (bQ (-2147483648) h17))),tT])).to (by clear E1 E2 E3 E4 E5;(try simp only [ct,aE,sM] at*);(simp [aE,sM, *];omega))
  rcases cf (decide (af<2147483648)) with h18|h18
  ·have U6:= @bU aj (-2147483648) 2147483647
   let E6:EL:=E5++Z7 3 (tC (eF (nt (dt (bQ (-2147483648) h17) (eH 2147483647 h18)))))++ [aw U6,tC (eF (nt (dt (bQ (-2147483648) h17) (eH 2147483647 h18)))),tC (nt (dt (bQ (-2147483648) h17) (eH 2147483647 h18)))]
   rcases cf (decide (aj<(-2147483648))) with h20|h20
   ·exact (eg (d:= .bool false) (E6++ [tC (nt (ic (y:=decide (aj≤2147483647)) (bQ (-2147483648) h20)))])).to (by clear E1 E2 E3 E4 E5 E6;(try simp only [ct,aE,sM] at*);(simp [aE,sM, *];omega))
   rcases cf (decide (aj<2147483648)) with h21|h21
   ·let E7:EL:=E6++ [tC (nt (dt (bQ (-2147483648) h20) (eH 2147483647 h21)))]
    by_cases h22:w=32
    ·subst h22
     have Vb:= @rD cc
     generalize g25:kO cc=r24 at Vb
     exact (eg (d:= .bool r24) (E7++(cr 10 520)++Z7 9 tF++ [tT,tT,tT,tT,aw Vb,tT])).to (by clear E1 E2 E3 E4 E5 E6 E7;(try simp only [ct,aE,sM] at*);(rw [aai];simp [aE,sM, *];grind))
    let E8:EL:=E7++Z7 3 (tC (eF (bc h22)))++ [tC (bc h22)]++Z7 4 (tC (eF (bc h22)))
    by_cases h26:w=8
    ·subst h26
     have UR:= @bU aj (-128) 127
     let E9:EL:=E8++ [tT,tT,tT,aw UR,tT,tT]++Z7 10 tF++ [tT]
     rcases cf (decide (aj<(-128))) with h28|h28
     ·exact (eg (d:= .bool false) (E9++Z7 3 (tC (eT (ic (y:=decide (aj≤127)) (bQ (-128) h28))))++ [tC (ic (y:=decide (aj≤127)) (bQ (-128) h28))])).to (by clear E1 E2 E3 E4 E5 E6 E7 E8 E9;(try simp only [ct,aE,sM] at*);(simp [aE,sM, *];omega))
     rcases cf (decide (aj<128)) with h29|h29
     ·have VC:= @rD cc
      generalize g32:kO cc=r31 at VC
      exact (eg (d:= .bool r31) (E9++Z7 3 (tC (eT (dt (bQ (-128) h28) (eH 127 h29))))++ [aw VC,tC (dt (bQ (-128) h28) (eH 127 h29))])).to (by clear E1 E2 E3 E4 E5 E6 E7 E8 E9;(try simp only [ct,aE,sM] at*);(rw [aai];simp [aE,sM, *];grind))
     exact (eg (d:= .bool false) (E9++Z7 3 (tC (eT (dt (bQ (-128) h28) (eH 127 h29))))++ [tC (dt (bQ (-128) h28) (eH 127 h29))])).to (by clear E1 E2 E3 E4 E5 E6 E7 E8 E9;(try simp only [ct,aE,sM] at*);(simp [aE,sM, *];omega))
    exact (eg (d:= .bool false) (E8++Z7 3 (tC (eT (bc h26)))++ [tC (eF (bc h22)),tC (bc h26),tC (bc h22)]++Z7 9 tF++ [tT,tF,tF,tF,tF])).to (by clear E1 E2 E3 E4 E5 E6 E7 E8;(try simp only [ct,aE,sM] at*);(simp [aE,sM, *];done))
   exact (eg (d:= .bool false) (E6++ [tC (nt (dt (bQ (-2147483648) h20) (eH 2147483647 h21)))])).to (by clear E1 E2 E3 E4 E5 E6;(try simp only [ct,aE,sM] at*);(simp [aE,sM, *];omega))
  exact (eg (d:= .bool false) (E5++Z7 4 (tC (eF (nt (dt (bQ (-2147483648) h17) (eH 2147483647 h18)))))++ [tC (nt (dt (bQ (-2147483648) h17) (eH 2147483647 h18))),tT])).to (by clear E1 E2 E3 E4 E5;(try simp only [ct,aE,sM] at*);(simp [aE,sM, *];omega))
 exact (eg (d:= .bool false) (E1++Z7 4 (tC (eF (nt h6)))++([tC (nt h6)]++cr 21 1589776))).to (by clear E1;(try simp only [ct,aE,sM] at*);(rw [aai];simp [aE,sM, *];grind))
theorem C2:tM 11:=by
 intro op w ab ae aa af aj cc ho h Ue
 have c0:= @da op ho
 rw [eq_of_beq h] at c0
 generalize g2:ba op=r1 at c0
 generalize g4:bI op=r3 at c0
 have c5:= @Ek op w ab ae aa af aj cc 11 (rfl:true=true)
 let E1:EL:=([aw c0]++Z7 4 (tC (eF (nt Ue)))++ [aw c5,tC (eF (nt Ue)),tC (eF (nt Ue)),.flat _ _ cW,tC (nt Ue)])
 rcases cf (bZ [ao 0,ao w,ao ab,ao ae,ao aa,av af,av aj,ao cc] [ao 0,ao 0,ao 0,ao 0,ao 0,av 0,av 0,ao 0]) with h6|h6
 ·have c7:= @dU ab
  generalize g9:cg ab=r8 at c7
  let E2:EL:=E1++Z7 3 (tC (eF (nt h6)))++ [aw c7,tC (eF (nt h6)),tC (nt h6)]
  cases r8
  ·exact (eg (d:= .bool false) (E2++(cr 21 1589776))).to (by clear E1 E2;(try simp only [ct,aE,sM] at*);(simp [aE,sM, *];done))
  have T7:= @dU ae
  generalize g12:cg ae=Un at T7
  let E3:EL:=E2++ [tT,tT,tT,aw T7,tT,tF]
  cases Un
  ·exact (eg (d:= .bool false) (E3++(cr 16 49680))).to (by clear E1 E2 E3;(try simp only [ct,aE,sM] at*);(simp [aE,sM, *];done))
  have Uh:= @dU aa
  generalize g15:cg aa=UD at Uh
  let E4:EL:=E3++ [tT,tT,tT,aw Uh,tT,tF]
  cases UD
  ·exact (eg (d:= .bool false) (E4++(cr 11 1552))).to (by clear E1 E2 E3 E4;(try simp only [ct,aE,sM] at*);(simp [aE,sM, *];done))
  have Ui:= @bU af (-2147483648) 2147483647
  let E5:EL:=E4++ [tT,tT,tT,aw Ui,tT,tF]
  rcases cf (decide (af<(-2147483648))) with h17|h17
  ·exact (eg (d:= .bool false) (E5++Z7 4 (tC (eF (nt (ic (y:=decide (af≤2147483647)) (bQ (-2147483648) h17)))))++ [tC (nt (ic (y:=decide (af≤2147483647)) (bQ (-2147483648) h17))),tT])).to (by clear E1 E2 E3 E4 E5;(try simp only [ct,aE,sM] at*);(simp [aE,sM, *];omega))
  rcases cf (decide (af<2147483648)) with h18|h18
  ·have U6:= @bU aj (-2147483648) 2147483647
   let E6:EL:=E5++Z7 3 (tC (eF (nt (dt (bQ (-2147483648) h17) (eH 2147483647 h18)))))++ [aw U6,tC (eF (nt (dt (bQ (-2147483648) h17) (eH 2147483647 h18)))),tC (nt (dt (bQ (-2147483648) h17) (eH 2147483647 h18)))]
   rcases cf (decide (aj<(-2147483648))) with h20|h20
   ·exact (eg (d:= .bool false) (E6++ [tC (nt (ic (y:=decide (aj≤2147483647)) (bQ (-2147483648) h20)))])).to (by clear E1 E2 E3 E4 E5 E6;(try simp only [ct,aE,sM] at*);(simp [aE,sM, *];omega))
   rcases cf (decide (aj<2147483648)) with h21|h21
   ·let E7:EL:=E6++ [tC (nt (dt (bQ (-2147483648) h20) (eH 2147483647 h21)))]
    by_cases h22:w=32
    ·subst h22
     exact (eg (d:= .bool true) (E7++(cr 10 520)++Z7 10 tF)).to (by clear E1 E2 E3 E4 E5 E6 E7;(try simp only [ct,aE,sM] at*);(rw [aai];simp [aE,sM, *];grind))
    let E8:EL:=E7++Z7 3 (tC (eF (bc h22)))++ [tC (bc h22)]++Z7 4 (tC (eF (bc h22)))
    by_cases h23:w=8
    ·subst h23
     have Vg:= @bU aj (-128) 127
     exact (eg (d:= .bool true) (E8++ [tT,tT,tT,aw Vg,tT,tT]++Z7 11 tF)).to (by clear E1 E2 E3 E4 E5 E6 E7 E8;(try simp only [ct,aE,sM] at*);(rw [aai];simp [aE,sM, *];grind))
    exact (eg (d:= .bool true) (E8++Z7 3 (tC (eT (bc h23)))++ [tC (eF (bc h22)),tC (bc h23),tC (bc h22)]++Z7 10 tF)).to (by clear E1 E2 E3 E4 E5 E6 E7 E8;(try simp only [ct,aE,sM] at*);(rw [aai];simp [aE,sM, *];grind))
   exact (eg (d:= .bool false) (E6++ [tC (nt (dt (bQ (-2147483648) h20) (eH 2147483647 h21)))])).to (by clear E1 E2 E3 E4 E5 E6;(try simp only [ct,aE,sM] at*);(simp [aE,sM, *];omega))
  exact (eg (d:= .bool false) (E5++Z7 4 (tC (eF (nt (dt (bQ (-2147483648) h17) (eH 2147483647 h18)))))++ [tC (nt (dt (bQ (-2147483648) h17) (eH 2147483647 h18))),tT])).to (by clear E1 E2 E3 E4 E5;(try simp only [ct,aE,sM] at*);(simp [aE,sM, *];omega))
 exact (eg (d:= .bool false) (E1++Z7 4 (tC (eF (nt h6)))++([tC (nt h6)]++cr 21 1589776))).to (by clear E1;(try simp only [ct,aE,sM] at*);(rw [aai];simp [aE,sM, *];grind))
theorem kr:∀n:Fin 32,aA (n.val:Int)=1∨aA (n.val:Int)=2∨aA (n.val:Int)=3∨aA (n.val:Int)=4∨aA (n.val:Int)=5∨aA (n.val:Int)=6∨aA (n.val:Int)=7∨aA (n.val:Int)=8∨aA (n.val:Int)=9∨aA (n.val:Int)=10∨aA (n.val:Int)=11:=by decide+kernel
theorem a9 (op w ab ae aa af aj cc:Int) (ho:op≤127):aP Z9 72 [xD op w ab ae aa af aj cc] (ax (bC op w ab ae aa af aj cc)):=by
 by_cases Ue:0≤op∧op≤31
 ·have e:op=(((⟨op.toNat,by omega⟩:Fin 32).val:Nat):Int):=by simp;omega
  have hr:=kr ⟨op.toNat,by omega⟩
  rw [← e] at hr
  have Vt:decide (0≤op∧op≤31)=true:=b8 Ue
  rcases hr with h|h|h|h|h|h|h|h|h|h|h
  ·exact Hw _ _ _ _ _ _ _ _ ho (by rw [h];rfl) Vt
  ·exact Hv _ _ _ _ _ _ _ _ ho (by rw [h];rfl) Vt
  ·exact Hu _ _ _ _ _ _ _ _ ho (by rw [h];rfl) Vt
  ·exact Ht _ _ _ _ _ _ _ _ ho (by rw [h];rfl) Vt
  ·exact Hs _ _ _ _ _ _ _ _ ho (by rw [h];rfl) Vt
  ·exact Hr _ _ _ _ _ _ _ _ ho (by rw [h];rfl) Vt
  ·exact Hq _ _ _ _ _ _ _ _ ho (by rw [h];rfl) Vt
  ·exact Hp _ _ _ _ _ _ _ _ ho (by rw [h];rfl) Vt
  ·exact Ho _ _ _ _ _ _ _ _ ho (by rw [h];rfl) Vt
  ·exact C3 _ _ _ _ _ _ _ _ ho (by rw [h];rfl) Vt
  ·exact C2 _ _ _ _ _ _ _ _ ho (by rw [h];rfl) Vt
 ·exact Hx _ _ _ _ _ _ _ _ ho (by rw [(lA (op:=op) (by omega)).1];rfl) (bF Ue)
theorem oL (op w ab ae aa af aj cc:Int) (hc:(bm op==1)=true):aP Z9 60 ([xD op w ab ae aa af aj cc]) (xD op w ab ae 0 0 0 0):=by
 have c0:= @aG op
 rw [show (bm op)=1 from (eq_of_beq hc)] at c0
 exact (L2 (d:=(xD op w ab ae 0 0 0 0)) ([aw c0]++cr 27 26851219)).to (by simp [wk,bf])
theorem w5 (op w ab ae aa af aj cc:Int) (hc:(bm op==2)=true):aP Z9 60 ([xD op w ab ae aa af aj cc]) (xD op w ab 0 0 0 aj 0):=by
 have c0:= @aG op
 rw [show (bm op)=2 from (eq_of_beq hc)] at c0
 exact (L2 (d:=(xD op w ab 0 0 0 aj 0)) ([aw c0]++cr 27 27150447)).to (by simp [wk,bf])
theorem wY (op w ab ae aa af aj cc:Int) (hc:(bm op==3)=true):aP Z9 60 ([xD op w ab ae aa af aj cc]) (xD op w ab 0 0 0 aj 0):=by
 have c0:= @aG op
 rw [show (bm op)=3 from (eq_of_beq hc)] at c0
 exact (L2 (d:=(xD op w ab 0 0 0 aj 0)) ([aw c0]++cr 27 27149935)).to (by simp [wk,bf])
theorem wX (op w ab ae aa af aj cc:Int) (hc:(bm op==4)=true):aP Z9 60 ([xD op w ab ae aa af aj cc]) (xD op w ab 0 0 0 0 0):=by
 have c0:= @aG op
 rw [show (bm op)=4 from (eq_of_beq hc)] at c0
 exact (L2 (d:=(xD op w ab 0 0 0 0 0)) ([aw c0]++cr 27 26850927)).to (by simp [wk,bf])
theorem wW (op w ab ae aa af aj cc:Int) (hc:(bm op==5)=true):aP Z9 60 ([xD op w ab ae aa af aj cc]) (xD op w ab ae 0 0 0 cc):=by
 have c0:= @aG op
 rw [show (bm op)=5 from (eq_of_beq hc)] at c0
 exact (L2 (d:=(xD op w ab ae 0 0 0 cc)) ([aw c0]++cr 27 31569807)).to (by simp [wk,bf])
theorem wV (op w ab ae aa af aj cc:Int) (hc:(bm op==6)=true):aP Z9 60 ([xD op w ab ae aa af aj cc]) (xD op w ab 0 aa af 0 0):=by
 have c0:= @aG op
 rw [show (bm op)=6 from (eq_of_beq hc)] at c0
 exact (L2 (d:=(xD op w ab 0 aa af 0 0)) ([aw c0]++cr 27 102348399)).to (by simp [wk,bf])
theorem wU (op w ab ae aa af aj cc:Int) (hc:(bm op==7)=true):aP Z9 60 ([xD op w ab ae aa af aj cc]) (xD op w 0 ae aa af 0 0):=by
 have c0:= @aG op
 rw [show (bm op)=7 from (eq_of_beq hc)] at c0
 exact (L2 (d:=(xD op w 0 ae aa af 0 0)) ([aw c0]++cr 27 93960045)).to (by simp [wk,bf])
theorem wT (op w ab ae aa af aj cc:Int) (hc:(bm op==8)=true):aP Z9 60 ([xD op w ab ae aa af aj cc]) (xD op w 0 0 0 0 aj 0):=by
 have c0:= @aG op
 rw [show (bm op)=8 from (eq_of_beq hc)] at c0
 exact (L2 (d:=(xD op w 0 0 0 0 aj 0)) ([aw c0]++cr 27 27145837)).to (by simp [wk,bf])
theorem wR (op w ab ae aa af aj cc:Int) (hc:(bm op==9)=true):aP Z9 60 ([xD op w ab ae aa af aj cc]) (xD op w 0 0 0 0 aj cc):=by
 have c0:= @aG op
 rw [show (bm op)=9 from (eq_of_beq hc)] at c0
 exact (L2 (d:=(xD op w 0 0 0 0 aj cc)) ([aw c0]++cr 27 31307373)).to (by simp [wk,bf])
theorem uh (op w ab ae aa af aj cc:Int) (hc:(bm op==10)=true):aP Z9 60 ([xD op w ab ae aa af aj cc]) (xD op 0 0 0 0 0 0 0):=by
 have c0:= @aG op
 rw [show (bm op)=10 from (eq_of_beq hc)] at c0
 exact (L2 (d:=(xD op 0 0 0 0 0 0 0)) ([aw c0]++cr 27 26850924)).to (by simp [wk,bf])
theorem Cd (op w ab ae aa af aj cc:Int) (h:(aA op==0)=true) (hc:(bm op==0)=true):aP Z9 41 ([xD op w ab ae aa af aj cc]) (ax (bC op w ab ae aa af aj cc)):=by
 have c0:= @aG op
 rw [eq_of_beq hc] at c0
 exact (gg (d:= .bool false) ([aw c0]++cr 31 1627931152)).to (by (try simp only [ct,aE,aX] at*);(simp [aE,aX, *];done))
theorem Cc (op w ab ae aa af aj cc:Int) (h:(aA op==1)=true) (hc:(bm op==1)=true):aP Z9 41 ([xD op w ab ae aa af aj cc]) (ax (bC op w ab ae aa af aj cc)):=by
 have c0:= @aG op
 rw [eq_of_beq hc] at c0
 have c1:= @oL op w ab ae aa af aj cc (cK 1 true (eq_of_beq hc))
 let E1:EL:= [aw c0,tT,tT,tT,aw c1,tT,.flat _ _ cW,tF]
 rcases cf (bZ [ao op,ao w,ao ab,ao ae,ao aa,av af,av aj,ao cc] [ao op,ao w,ao ab,ao ae,ao 0,av 0,av 0,ao 0]) with h2|h2
 ·have c3:= @dh ab
  generalize g5:cg ab=r4 at c3
  let E2:EL:=E1++Z7 3 (tC (eF (nt h2)))++ [aw c3,tC (eF (nt h2)),tC (nt h2)]
  cases r4
  ·exact (gg (d:= .bool false) (E2++(cr 21 1589776))).to (by clear E1 E2;(try simp only [ct,aE,aX] at*);(simp [aE,aX, *];done))
  have c6:= @dh ae
  generalize g8:cg ae=r7 at c6
  let E3:EL:=E2++ [tT,tT,tT,aw c6,tT,tF]
  cases r7
  ·exact (gg (d:= .bool false) (E3++(cr 16 49680))).to (by clear E1 E2 E3;(try simp only [ct,aE,aX] at*);(simp [aE,aX, *];done))
  have c9:= @dh aa
  generalize g11:cg aa=UC at c9
  let E4:EL:=E3++ [tT,tT,tT,aw c9,tT,tF]
  cases UC
  ·exact (gg (d:= .bool false) (E4++(cr 11 1552))).to (by clear E1 E2 E3 E4;(try simp only [ct,aE,aX] at*);(simp [aE,aX, *];done))
  have Uc:= @dP af
  rcases cf (decide ((-2147483648)≤af∧af≤2147483647)) with h13|h13
  ·have UP:= @dP aj
   let E5:EL:=E4++ [tT,tT,tT,aw Uc,tT,tF]++Z7 3 (tC (eF (nt h13)))++ [aw UP,tC (eF (nt h13)),tC (nt h13)]
   rcases cf (decide ((-2147483648)≤aj∧aj≤2147483647)) with h15|h15
   ·have Ui:= @k7 w
    generalize g18:bG w=r17 at Ui
    exact (gg (d:= .bool r17) (E5++ [tC (nt h15),tT,tT,aw Ui])).to (by clear E1 E2 E3 E4 E5;(try simp only [ct,aE,aX] at*);(rw [aai];simp [aE,aX, *];grind))
   exact (gg (d:= .bool false) (E5++ [tC (nt h15)])).to (by clear E1 E2 E3 E4 E5;(try simp only [ct,aE,aX] at*);(simp [aE,aX, *];done))
  exact (gg (d:= .bool false) (E4++ [tT,tT,tT,aw Uc,tT,tF]++Z7 4 (tC (eF (nt h13)))++ [tC (nt h13),tT])).to (by clear E1 E2 E3 E4;(try simp only [ct,aE,aX] at*);(simp [aE,aX, *];done))
 exact (gg (d:= .bool false) (E1++Z7 4 (tC (eF (nt h2)))++([tC (nt h2)]++cr 21 1589776))).to (by clear E1;(try simp only [ct,aE,aX] at*);(rw [aai];simp [aE,aX, *];grind))
theorem Cb (op w ab ae aa af aj cc:Int) (h:(aA op==2)=true) (hc:(bm op==1)=true):aP Z9 41 ([xD op w ab ae aa af aj cc]) (ax (bC op w ab ae aa af aj cc)):=by
 have c0:= @aG op
 rw [eq_of_beq hc] at c0
 have c1:= @oL op w ab ae aa af aj cc (cK 1 true (eq_of_beq hc))
 let E1:EL:= [aw c0,tT,tT,tT,aw c1,tT,.flat _ _ cW,tF]
 rcases cf (bZ [ao op,ao w,ao ab,ao ae,ao aa,av af,av aj,ao cc] [ao op,ao w,ao ab,ao ae,ao 0,av 0,av 0,ao 0]) with h2|h2
 ·have c3:= @dh ab
  generalize g5:cg ab=r4 at c3
  let E2:EL:=E1++Z7 3 (tC (eF (nt h2)))++ [aw c3,tC (eF (nt h2)),tC (nt h2)]
  cases r4
  ·exact (gg (d:= .bool false) (E2++(cr 21 1589776))).to (by clear E1 E2;(try simp only [ct,aE,aX] at*);(simp [aE,aX, *];done))
  have c6:= @dh ae
  generalize g8:cg ae=r7 at c6
  let E3:EL:=E2++ [tT,tT,tT,aw c6,tT,tF]
  cases r7
  ·exact (gg (d:= .bool false) (E3++(cr 16 49680))).to (by clear E1 E2 E3;(try simp only [ct,aE,aX] at*);(simp [aE,aX, *];done))
  have c9:= @dh aa
  generalize g11:cg aa=UC at c9
  let E4:EL:=E3++ [tT,tT,tT,aw c9,tT,tF]
  cases UC
  ·exact (gg (d:= .bool false) (E4++(cr 11 1552))).to (by clear E1 E2 E3 E4;(try simp only [ct,aE,aX] at*);(simp [aE,aX, *];done))
  have Uc:= @dP af
  rcases cf (decide ((-2147483648)≤af∧af≤2147483647)) with h13|h13
  ·have UP:= @dP aj
   let E5:EL:=E4++ [tT,tT,tT,aw Uc,tT,tF]++Z7 3 (tC (eF (nt h13)))++ [aw UP,tC (eF (nt h13)),tC (nt h13)]
   rcases cf (decide ((-2147483648)≤aj∧aj≤2147483647)) with h15|h15
   ·have Ui:= @k7 w
    generalize g18:bG w=r17 at Ui
    exact (gg (d:= .bool r17) (E5++ [tC (nt h15),tT,tT,aw Ui])).to (by clear E1 E2 E3 E4 E5;(try simp only [ct,aE,aX] at*);(rw [aai];simp [aE,aX, *];grind))
   exact (gg (d:= .bool false) (E5++ [tC (nt h15)])).to (by clear E1 E2 E3 E4 E5;(try simp only [ct,aE,aX] at*);(simp [aE,aX, *];done))
  exact (gg (d:= .bool false) (E4++ [tT,tT,tT,aw Uc,tT,tF]++Z7 4 (tC (eF (nt h13)))++ [tC (nt h13),tT])).to (by clear E1 E2 E3 E4;(try simp only [ct,aE,aX] at*);(simp [aE,aX, *];done))
 exact (gg (d:= .bool false) (E1++Z7 4 (tC (eF (nt h2)))++([tC (nt h2)]++cr 21 1589776))).to (by clear E1;(try simp only [ct,aE,aX] at*);(rw [aai];simp [aE,aX, *];grind))
theorem Ca (op w ab ae aa af aj cc:Int) (h:(aA op==3)=true) (hc:(bm op==2)=true):aP Z9 41 ([xD op w ab ae aa af aj cc]) (ax (bC op w ab ae aa af aj cc)):=by
 have c0:= @aG op
 rw [eq_of_beq hc] at c0
 have c1:= @w5 op w ab ae aa af aj cc (cK 2 true (eq_of_beq hc))
 let E1:EL:= [aw c0,tT,tT,tT,aw c1,tT,.flat _ _ cW,tF]
 rcases cf (bZ [ao op,ao w,ao ab,ao ae,ao aa,av af,av aj,ao cc] [ao op,ao w,ao ab,ao 0,ao 0,av 0,av aj,ao 0]) with h2|h2
 ·have c3:= @dh ab
  generalize g5:cg ab=r4 at c3
  let E2:EL:=E1++Z7 3 (tC (eF (nt h2)))++ [aw c3,tC (eF (nt h2)),tC (nt h2)]
  cases r4
  ·exact (gg (d:= .bool false) (E2++(cr 21 1589776))).to (by clear E1 E2;(try simp only [ct,aE,aX,aN] at*);(simp [aE,aX,aN, *];done))
  have c6:= @dh ae
  generalize g8:cg ae=r7 at c6
  let E3:EL:=E2++ [tT,tT,tT,aw c6,tT,tF]
  cases r7
  ·exact (gg (d:= .bool false) (E3++(cr 16 49680))).to (by clear E1 E2 E3;(try simp only [ct,aE,aX,aN] at*);(simp [aE,aX,aN, *];done))
  have c9:= @dh aa
  generalize g11:cg aa=UC at c9
  let E4:EL:=E3++ [tT,tT,tT,aw c9,tT,tF]
  cases UC
  ·exact (gg (d:= .bool false) (E4++(cr 11 1552))).to (by clear E1 E2 E3 E4;(try simp only [ct,aE,aX,aN] at*);(simp [aE,aX,aN, *];done))
  have Uc:= @dP af
  rcases cf (decide ((-2147483648)≤af∧af≤2147483647)) with h13|h13
  ·have UP:= @dP aj
   let E5:EL:=E4++ [tT,tT,tT,aw Uc,tT,tF]++Z7 3 (tC (eF (nt h13)))++ [aw UP,tC (eF (nt h13)),tC (nt h13)]
   rcases cf (decide ((-2147483648)≤aj∧aj≤2147483647)) with h15|h15
   ·have Ui:= @k7 w
    generalize g18:bG w=r17 at Ui
    exact (gg (d:= .bool r17) (E5++ [tC (nt h15),tF,tT,tT,aw Ui])).to (by clear E1 E2 E3 E4 E5;(try simp only [ct,aE,aX,aN] at*);(rw [aai];simp [aE,aX,aN, *];grind))
   exact (gg (d:= .bool false) (E5++ [tC (nt h15)])).to (by clear E1 E2 E3 E4 E5;(try simp only [ct,aE,aX,aN] at*);(simp [aE,aX,aN, *];done))
  exact (gg (d:= .bool false) (E4++ [tT,tT,tT,aw Uc,tT,tF]++Z7 4 (tC (eF (nt h13)))++ [tC (nt h13),tT])).to (by clear E1 E2 E3 E4;(try simp only [ct,aE,aX,aN] at*);(simp [aE,aX,aN, *];done))
 exact (gg (d:= .bool false) (E1++Z7 4 (tC (eF (nt h2)))++([tC (nt h2)]++cr 21 1589776))).to (by clear E1;(try simp only [ct,aE,aX,aN] at*);(rw [aai];simp [aE,aX,aN, *];grind))
theorem B9 (op w ab ae aa af aj cc:Int) (h:(aA op==4)=true) (hc:(bm op==3)=true):aP Z9 41 ([xD op w ab ae aa af aj cc]) (ax (bC op w ab ae aa af aj cc)):=by
 have c0:= @aG op
 rw [eq_of_beq hc] at c0
 have c1:= @wY op w ab ae aa af aj cc (cK 3 true (eq_of_beq hc))
 let E1:EL:= [aw c0,tT,tT,tT,aw c1,tT,.flat _ _ cW,tF]
 rcases cf (bZ [ao op,ao w,ao ab,ao ae,ao aa,av af,av aj,ao cc] [ao op,ao w,ao ab,ao 0,ao 0,av 0,av aj,ao 0]) with h2|h2
 ·have c3:= @dh ab
  generalize g5:cg ab=r4 at c3
  let E2:EL:=E1++Z7 3 (tC (eF (nt h2)))++ [aw c3,tC (eF (nt h2)),tC (nt h2)]
  cases r4
  ·exact (gg (d:= .bool false) (E2++(cr 21 1589776))).to (by clear E1 E2;(try simp only [ct,aE,aX,aN] at*);(simp [aE,aX,aN, *];done))
  have c6:= @dh ae
  generalize g8:cg ae=r7 at c6
  let E3:EL:=E2++ [tT,tT,tT,aw c6,tT,tF]
  cases r7
  ·exact (gg (d:= .bool false) (E3++(cr 16 49680))).to (by clear E1 E2 E3;(try simp only [ct,aE,aX,aN] at*);(simp [aE,aX,aN, *];done))
  have c9:= @dh aa
  generalize g11:cg aa=UC at c9
  let E4:EL:=E3++ [tT,tT,tT,aw c9,tT,tF]
  cases UC
  ·exact (gg (d:= .bool false) (E4++(cr 11 1552))).to (by clear E1 E2 E3 E4;(try simp only [ct,aE,aX,aN] at*);(simp [aE,aX,aN, *];done))
  have Uc:= @dP af
  let E5:EL:=E4++ [tT,tT,tT,aw Uc,tT,tF]
  rcases cf (decide ((-2147483648)≤af∧af≤2147483647)) with h13|h13
  ·have UP:= @dP aj
   let E6:EL:=E5++Z7 3 (tC (eF (nt h13)))++ [aw UP,tC (eF (nt h13)),tC (nt h13)]
   rcases cf (decide ((-2147483648)≤aj∧aj≤2147483647)) with h15|h15
   ·have Ui:= @k7 w
    generalize g18:bG w=r17 at Ui
    let E7:EL:=E6++ [tC (nt h15),tF,tF,tF,tT,aw Ui]
    cases r17
    ·exact (gg (d:= .bool false) (E7++Z7 11 tF)).to (by clear E1 E2 E3 E4 E5 E6 E7;(try simp only [ct,aE,aX,aN] at*);(simp [aE,aX,aN, *];done))
    rcases cf (decide (aj<0)) with h19|h19
    ·exact (gg (d:= .bool false) (E7++ [tT,tT,tT,tT]++Z7 6 (tC (eT (bQ 0 h19)))++ [tC (bQ 0 h19)])).to (by clear E1 E2 E3 E4 E5 E6 E7;(try simp only [ct,aE,aX,aN] at*);(simp [aE,aX,aN, *];omega))
    exact (gg (d:= .bool (decide (aj<abz.wrap abz.i64 w))) (E7++ [tT,tT,tT,tT]++Z7 6 (tC (eT (bQ 0 h19)))++ [tC (bQ 0 h19)])).to (by clear E1 E2 E3 E4 E5 E6 E7;(try simp only [ct,aE,aX,aN] at*);(rw [aai];simp [aE,aX,aN, *];grind))
   exact (gg (d:= .bool false) (E6++ [tC (nt h15)])).to (by clear E1 E2 E3 E4 E5 E6;(try simp only [ct,aE,aX,aN] at*);(simp [aE,aX,aN, *];done))
  exact (gg (d:= .bool false) (E5++Z7 4 (tC (eF (nt h13)))++ [tC (nt h13),tT])).to (by clear E1 E2 E3 E4 E5;(try simp only [ct,aE,aX,aN] at*);(simp [aE,aX,aN, *];done))
 exact (gg (d:= .bool false) (E1++Z7 4 (tC (eF (nt h2)))++([tC (nt h2)]++cr 21 1589776))).to (by clear E1;(try simp only [ct,aE,aX,aN] at*);(rw [aai];simp [aE,aX,aN, *];grind))
theorem B8 (op w ab ae aa af aj cc:Int) (h:(aA op==5)=true) (hc:(bm op==4)=true):aP Z9 41 ([xD op w ab ae aa af aj cc]) (ax (bC op w ab ae aa af aj cc)):=by
 have c0:= @aG op
 rw [eq_of_beq hc] at c0
 have c1:= @wX op w ab ae aa af aj cc (cK 4 true (eq_of_beq hc))
 let E1:EL:= [aw c0,tT,tT,tT,aw c1,tT,.flat _ _ cW,tF]
 rcases cf (bZ [ao op,ao w,ao ab,ao ae,ao aa,av af,av aj,ao cc] [ao op,ao w,ao ab,ao 0,ao 0,av 0,av 0,ao 0]) with h2|h2
 ·have c3:= @dh ab
  generalize g5:cg ab=r4 at c3
  let E2:EL:=E1++Z7 3 (tC (eF (nt h2)))++ [aw c3,tC (eF (nt h2)),tC (nt h2)]
  cases r4
  ·exact (gg (d:= .bool false) (E2++(cr 21 1589776))).to (by clear E1 E2;(try simp only [ct,aE,aX,aN] at*);(simp [aE,aX,aN, *];done))
  have c6:= @dh ae
  generalize g8:cg ae=r7 at c6
  let E3:EL:=E2++ [tT,tT,tT,aw c6,tT,tF]
  cases r7
  ·exact (gg (d:= .bool false) (E3++(cr 16 49680))).to (by clear E1 E2 E3;(try simp only [ct,aE,aX,aN] at*);(simp [aE,aX,aN, *];done))
  have c9:= @dh aa
  generalize g11:cg aa=UC at c9
  let E4:EL:=E3++ [tT,tT,tT,aw c9,tT,tF]
  cases UC
  ·exact (gg (d:= .bool false) (E4++(cr 11 1552))).to (by clear E1 E2 E3 E4;(try simp only [ct,aE,aX,aN] at*);(simp [aE,aX,aN, *];done))
  have Uc:= @dP af
  rcases cf (decide ((-2147483648)≤af∧af≤2147483647)) with h13|h13
  ·have UP:= @dP aj
   let E5:EL:=E4++ [tT,tT,tT,aw Uc,tT,tF]++Z7 3 (tC (eF (nt h13)))++ [aw UP,tC (eF (nt h13)),tC (nt h13)]
   rcases cf (decide ((-2147483648)≤aj∧aj≤2147483647)) with h15|h15
   ·have Ui:= @k7 w
    generalize g18:bG w=r17 at Ui
    exact (gg (d:= .bool r17) (E5++ [tC (nt h15),tF,tF,tT,aw Ui])).to (by clear E1 E2 E3 E4 E5;(try simp only [ct,aE,aX,aN] at*);(rw [aai];simp [aE,aX,aN, *];grind))
   exact (gg (d:= .bool false) (E5++ [tC (nt h15)])).to (by clear E1 E2 E3 E4 E5;(try simp only [ct,aE,aX,aN] at*);(simp [aE,aX,aN, *];done))
  exact (gg (d:= .bool false) (E4++ [tT,tT,tT,aw Uc,tT,tF]++Z7 4 (tC (eF (nt h13)))++ [tC (nt h13),tT])).to (by clear E1 E2 E3 E4;(try simp only [ct,aE,aX,aN] at*);(simp [aE,aX,aN, *];done))
 exact (gg (d:= .bool false) (E1++Z7 4 (tC (eF (nt h2)))++([tC (nt h2)]++cr 21 1589776))).to (by clear E1;(try simp only [ct,aE,aX,aN] at*);(rw [aai];simp [aE,aX,aN, *];grind))
theorem B7 (op w ab ae aa af aj cc:Int) (h:(aA op==6)=true) (hc:(bm op==5)=true):aP Z9 41 ([xD op w ab ae aa af aj cc]) (ax (bC op w ab ae aa af aj cc)):=by
 have c0:= @aG op
 rw [eq_of_beq hc] at c0
 have c1:= @wW op w ab ae aa af aj cc (cK 5 true (eq_of_beq hc))
 let E1:EL:= [aw c0,tT,tT,tT,aw c1,tT,.flat _ _ cW,tF]
 rcases cf (bZ [ao op,ao w,ao ab,ao ae,ao aa,av af,av aj,ao cc] [ao op,ao w,ao ab,ao ae,ao 0,av 0,av 0,ao cc]) with h2|h2
 ·have c3:= @dh ab
  generalize g5:cg ab=r4 at c3
  let E2:EL:=E1++Z7 3 (tC (eF (nt h2)))++ [aw c3,tC (eF (nt h2)),tC (nt h2)]
  cases r4
  ·exact (gg (d:= .bool false) (E2++(cr 21 1589776))).to (by clear E1 E2;(try simp only [ct,aE,aX] at*);(simp [aE,aX, *];done))
  have c6:= @dh ae
  generalize g8:cg ae=r7 at c6
  let E3:EL:=E2++ [tT,tT,tT,aw c6,tT,tF]
  cases r7
  ·exact (gg (d:= .bool false) (E3++(cr 16 49680))).to (by clear E1 E2 E3;(try simp only [ct,aE,aX] at*);(simp [aE,aX, *];done))
  have c9:= @dh aa
  generalize g11:cg aa=UC at c9
  let E4:EL:=E3++ [tT,tT,tT,aw c9,tT,tF]
  cases UC
  ·exact (gg (d:= .bool false) (E4++(cr 11 1552))).to (by clear E1 E2 E3 E4;(try simp only [ct,aE,aX] at*);(simp [aE,aX, *];done))
  have Uc:= @dP af
  let E5:EL:=E4++ [tT,tT,tT,aw Uc,tT,tF]
  rcases cf (decide ((-2147483648)≤af∧af≤2147483647)) with h13|h13
  ·have UP:= @dP aj
   let E6:EL:=E5++Z7 3 (tC (eF (nt h13)))++ [aw UP,tC (eF (nt h13)),tC (nt h13)]
   rcases cf (decide ((-2147483648)≤aj∧aj≤2147483647)) with h15|h15
   ·have Ui:= @k7 w
    generalize g18:bG w=r17 at Ui
    cases r17
    ·exact (gg (d:= .bool false) (E6++ [tC (nt h15),tF,tF,tF,tF,tT,aw Ui,tF,tF,tF,tF])).to (by clear E1 E2 E3 E4 E5 E6;(try simp only [ct,aE,aX] at*);(simp [aE,aX, *];done))
    have U6:= @Cx cc
    generalize g21:kO cc=r20 at U6
    exact (gg (d:= .bool r20) (E6++ [tC (nt h15),tF,tF,tF,tF,tT,aw Ui,tT,tT,tT,aw U6,tT])).to (by clear E1 E2 E3 E4 E5 E6;(try simp only [ct,aE,aX] at*);(rw [aai];simp [aE,aX, *];grind))
   exact (gg (d:= .bool false) (E6++ [tC (nt h15)])).to (by clear E1 E2 E3 E4 E5 E6;(try simp only [ct,aE,aX] at*);(simp [aE,aX, *];done))
  exact (gg (d:= .bool false) (E5++Z7 4 (tC (eF (nt h13)))++ [tC (nt h13),tT])).to (by clear E1 E2 E3 E4 E5;(try simp only [ct,aE,aX] at*);(simp [aE,aX, *];done))
 exact (gg (d:= .bool false) (E1++Z7 4 (tC (eF (nt h2)))++([tC (nt h2)]++cr 21 1589776))).to (by clear E1;(try simp only [ct,aE,aX] at*);(rw [aai];simp [aE,aX, *];grind))
theorem B6 (op w ab ae aa af aj cc:Int) (h:(aA op==7)=true) (hc:(bm op==6)=true):aP Z9 41 ([xD op w ab ae aa af aj cc]) (ax (bC op w ab ae aa af aj cc)):=by
 have c0:= @aG op
 rw [eq_of_beq hc] at c0
 have c1:= @wV op w ab ae aa af aj cc (cK 6 true (eq_of_beq hc))
 let E1:EL:= [aw c0,tT,tT,tT,aw c1,tT,.flat _ _ cW,tF]
 rcases cf (bZ [ao op,ao w,ao ab,ao ae,ao aa,av af,av aj,ao cc] [ao op,ao w,ao ab,ao 0,ao aa,av af,av 0,ao 0]) with h2|h2
 ·have c3:= @dh ab
  generalize g5:cg ab=r4 at c3
  let E2:EL:=E1++Z7 3 (tC (eF (nt h2)))++ [aw c3,tC (eF (nt h2)),tC (nt h2)]
  cases r4
  ·exact (gg (d:= .bool false) (E2++(cr 21 1589776))).to (by clear E1 E2;(try simp only [ct,aE,aX] at*);(simp [aE,aX, *];done))
  have c6:= @dh ae
  generalize g8:cg ae=r7 at c6
  let E3:EL:=E2++ [tT,tT,tT,aw c6,tT,tF]
  cases r7
  ·exact (gg (d:= .bool false) (E3++(cr 16 49680))).to (by clear E1 E2 E3;(try simp only [ct,aE,aX] at*);(simp [aE,aX, *];done))
  have c9:= @dh aa
  generalize g11:cg aa=UC at c9
  let E4:EL:=E3++ [tT,tT,tT,aw c9,tT,tF]
  cases UC
  ·exact (gg (d:= .bool false) (E4++(cr 11 1552))).to (by clear E1 E2 E3 E4;(try simp only [ct,aE,aX] at*);(simp [aE,aX, *];done))
  have Uc:= @dP af
  rcases cf (decide ((-2147483648)≤af∧af≤2147483647)) with h13|h13
  ·have UP:= @dP aj
   let E5:EL:=E4++ [tT,tT,tT,aw Uc,tT,tF]++Z7 3 (tC (eF (nt h13)))++ [aw UP,tC (eF (nt h13)),tC (nt h13)]
   rcases cf (decide ((-2147483648)≤aj∧aj≤2147483647)) with h15|h15
   ·have Ui:= @ig w
    generalize g18:fS w=r17 at Ui
    exact (gg (d:= .bool r17) (E5++ [tC (nt h15),tF,tF,tF,tF,tF,tT,tT,aw Ui])).to (by clear E1 E2 E3 E4 E5;(try simp only [ct,aE,aX] at*);(rw [aai];simp [aE,aX, *];grind))
   exact (gg (d:= .bool false) (E5++ [tC (nt h15)])).to (by clear E1 E2 E3 E4 E5;(try simp only [ct,aE,aX] at*);(simp [aE,aX, *];done))
  exact (gg (d:= .bool false) (E4++ [tT,tT,tT,aw Uc,tT,tF]++Z7 4 (tC (eF (nt h13)))++ [tC (nt h13),tT])).to (by clear E1 E2 E3 E4;(try simp only [ct,aE,aX] at*);(simp [aE,aX, *];done))
 exact (gg (d:= .bool false) (E1++Z7 4 (tC (eF (nt h2)))++([tC (nt h2)]++cr 21 1589776))).to (by clear E1;(try simp only [ct,aE,aX] at*);(rw [aai];simp [aE,aX, *];grind))
theorem B5 (op w ab ae aa af aj cc:Int) (h:(aA op==8)=true) (hc:(bm op==7)=true):aP Z9 41 ([xD op w ab ae aa af aj cc]) (ax (bC op w ab ae aa af aj cc)):=by
 have c0:= @aG op
 rw [eq_of_beq hc] at c0
 have c1:= @wU op w ab ae aa af aj cc (cK 7 true (eq_of_beq hc))
 let E1:EL:= [aw c0,tT,tT,tT,aw c1,tT,.flat _ _ cW,tF]
 rcases cf (bZ [ao op,ao w,ao ab,ao ae,ao aa,av af,av aj,ao cc] [ao op,ao w,ao 0,ao ae,ao aa,av af,av 0,ao 0]) with h2|h2
 ·have c3:= @dh ab
  generalize g5:cg ab=r4 at c3
  let E2:EL:=E1++Z7 3 (tC (eF (nt h2)))++ [aw c3,tC (eF (nt h2)),tC (nt h2)]
  cases r4
  ·exact (gg (d:= .bool false) (E2++(cr 21 1589776))).to (by clear E1 E2;(try simp only [ct,aE,aX] at*);(simp [aE,aX, *];done))
  have c6:= @dh ae
  generalize g8:cg ae=r7 at c6
  let E3:EL:=E2++ [tT,tT,tT,aw c6,tT,tF]
  cases r7
  ·exact (gg (d:= .bool false) (E3++(cr 16 49680))).to (by clear E1 E2 E3;(try simp only [ct,aE,aX] at*);(simp [aE,aX, *];done))
  have c9:= @dh aa
  generalize g11:cg aa=UC at c9
  let E4:EL:=E3++ [tT,tT,tT,aw c9,tT,tF]
  cases UC
  ·exact (gg (d:= .bool false) (E4++(cr 11 1552))).to (by clear E1 E2 E3 E4;(try simp only [ct,aE,aX] at*);(simp [aE,aX, *];done))
  have Uc:= @dP af
  rcases cf (decide ((-2147483648)≤af∧af≤2147483647)) with h13|h13
  ·have UP:= @dP aj
   let E5:EL:=E4++ [tT,tT,tT,aw Uc,tT,tF]++Z7 3 (tC (eF (nt h13)))++ [aw UP,tC (eF (nt h13)),tC (nt h13)]
   rcases cf (decide ((-2147483648)≤aj∧aj≤2147483647)) with h15|h15
   ·have Ui:= @ig w
    generalize g18:fS w=r17 at Ui
    exact (gg (d:= .bool r17) (E5++ [tC (nt h15),tF,tF,tF,tF,tF,tF,tT,aw Ui])).to (by clear E1 E2 E3 E4 E5;(try simp only [ct,aE,aX] at*);(rw [aai];simp [aE,aX, *];grind))
   exact (gg (d:= .bool false) (E5++ [tC (nt h15)])).to (by clear E1 E2 E3 E4 E5;(try simp only [ct,aE,aX] at*);(simp [aE,aX, *];done))
  exact (gg (d:= .bool false) (E4++ [tT,tT,tT,aw Uc,tT,tF]++Z7 4 (tC (eF (nt h13)))++ [tC (nt h13),tT])).to (by clear E1 E2 E3 E4;(try simp only [ct,aE,aX] at*);(simp [aE,aX, *];done))
 exact (gg (d:= .bool false) (E1++Z7 4 (tC (eF (nt h2)))++([tC (nt h2)]++cr 21 1589776))).to (by clear E1;(try simp only [ct,aE,aX] at*);(rw [aai];simp [aE,aX, *];grind))
theorem B4 (op w ab ae aa af aj cc:Int) (h:(aA op==9)=true) (hc:(bm op==8)=true):aP Z9 41 ([xD op w ab ae aa af aj cc]) (ax (bC op w ab ae aa af aj cc)):=by
 have c0:= @aG op
 rw [eq_of_beq hc] at c0
 have c1:= @wT op w ab ae aa af aj cc (cK 8 true (eq_of_beq hc))
 let E1:EL:= [aw c0,tT,tT,tT,aw c1,tT,.flat _ _ cW,tF]
 rcases cf (bZ [ao op,ao w,ao ab,ao ae,ao aa,av af,av aj,ao cc] [ao op,ao w,ao 0,ao 0,ao 0,av 0,av aj,ao 0]) with h2|h2
 ·have c3:= @dh ab
  generalize g5:cg ab=r4 at c3
  let E2:EL:=E1++Z7 3 (tC (eF (nt h2)))++ [aw c3,tC (eF (nt h2)),tC (nt h2)]
  cases r4
  ·exact (gg (d:= .bool false) (E2++(cr 21 1589776))).to (by clear E1 E2;(try simp only [ct,aE,aX] at*);(simp [aE,aX, *];done))
  have c6:= @dh ae
  generalize g8:cg ae=r7 at c6
  let E3:EL:=E2++ [tT,tT,tT,aw c6,tT,tF]
  cases r7
  ·exact (gg (d:= .bool false) (E3++(cr 16 49680))).to (by clear E1 E2 E3;(try simp only [ct,aE,aX] at*);(simp [aE,aX, *];done))
  have c9:= @dh aa
  generalize g11:cg aa=UC at c9
  let E4:EL:=E3++ [tT,tT,tT,aw c9,tT,tF]
  cases UC
  ·exact (gg (d:= .bool false) (E4++(cr 11 1552))).to (by clear E1 E2 E3 E4;(try simp only [ct,aE,aX] at*);(simp [aE,aX, *];done))
  have Uc:= @dP af
  let E5:EL:=E4++ [tT,tT,tT,aw Uc,tT,tF]
  rcases cf (decide ((-2147483648)≤af∧af≤2147483647)) with h13|h13
  ·have UP:= @dP aj
   let E6:EL:=E5++Z7 3 (tC (eF (nt h13)))++ [aw UP,tC (eF (nt h13)),tC (nt h13)]
   rcases cf (decide ((-2147483648)≤aj∧aj≤2147483647)) with h15|h15
   ·let E7:EL:=E6++([tC (nt h15)]++cr 8 128)
    by_cases h16:w=32
    ·subst h16
     exact (gg (d:= .bool true) (E7++ [tF,tF,tF,tF,tF,tT])).to (by clear E1 E2 E3 E4 E5 E6 E7;(try simp only [ct,aE,aX] at*);(rw [aai];simp [aE,aX, *];grind))
    by_cases h17:w=8
    ·subst h17
     have Xd:= @EK aj
     exact (gg (d:= .bool (decide ((-128)≤aj∧aj≤127))) (E7++Z7 4 (tC (eF (bc h16)))++ [tT,tT,tT,aw Xd,tT,tT,tF])).to (by clear E1 E2 E3 E4 E5 E6 E7;(try simp only [ct,aE,aX] at*);(rw [aai];simp [aE,aX, *];grind))
    exact (gg (d:= .bool false) (E7++Z7 4 (tC (eF (bc h16)))++Z7 3 (tC (eT (bc h17)))++ [tC (eF (bc h16)),tC (bc h17),tC (bc h16)])).to (by clear E1 E2 E3 E4 E5 E6 E7;(try simp only [ct,aE,aX] at*);(simp [aE,aX, *];done))
   exact (gg (d:= .bool false) (E6++ [tC (nt h15)])).to (by clear E1 E2 E3 E4 E5 E6;(try simp only [ct,aE,aX] at*);(simp [aE,aX, *];done))
  exact (gg (d:= .bool false) (E5++Z7 4 (tC (eF (nt h13)))++ [tC (nt h13),tT])).to (by clear E1 E2 E3 E4 E5;(try simp only [ct,aE,aX] at*);(simp [aE,aX, *];done))
 exact (gg (d:= .bool false) (E1++Z7 4 (tC (eF (nt h2)))++([tC (nt h2)]++cr 21 1589776))).to (by clear E1;(try simp only [ct,aE,aX] at*);(rw [aai];simp [aE,aX, *];grind))
theorem zw (op w ab ae aa af aj cc:Int) (h:(aA op==10)=true) (hc:(bm op==9)=true):aP Z9 41 ([xD op w ab ae aa af aj cc]) (ax (bC op w ab ae aa af aj cc)):=by
 have c0:= @aG op
 rw [eq_of_beq hc] at c0
 have c1:= @wR op w ab ae aa af aj cc (cK 9 true (eq_of_beq hc))
 let E1:EL:= [aw c0,tT,tT,tT,aw c1,tT,.flat _ _ cW,tF]
 rcases cf (bZ [ao op,ao w,ao ab,ao ae,ao aa,av af,av aj,ao cc] [ao op,ao w,ao 0,ao 0,ao 0,av 0,av aj,ao cc]) with h2|h2
 ·have c3:= @dh ab
  generalize g5:cg ab=r4 at c3
  let E2:EL:=E1++Z7 3 (tC (eF (nt h2)))++ [aw c3,tC (eF (nt h2)),tC (nt h2)]
  cases r4
  ·exact (gg (d:= .bool false) (E2++(cr 21 1589776))).to (by clear E1 E2;(try simp only [ct,aE,aX] at*);(simp [aE,aX, *];done))
  have c6:= @dh ae
  generalize g8:cg ae=r7 at c6
  let E3:EL:=E2++ [tT,tT,tT,aw c6,tT,tF]
  cases r7
  ·exact (gg (d:= .bool false) (E3++(cr 16 49680))).to (by clear E1 E2 E3;(try simp only [ct,aE,aX] at*);(simp [aE,aX, *];done))
  have c9:= @dh aa
  generalize g11:cg aa=UC at c9
  let E4:EL:=E3++ [tT,tT,tT,aw c9,tT,tF]
  cases UC
  ·exact (gg (d:= .bool false) (E4++(cr 11 1552))).to (by clear E1 E2 E3 E4;(try simp only [ct,aE,aX] at*);(simp [aE,aX, *];done))
  have Uc:= @dP af
  let E5:EL:=E4++ [tT,tT,tT,aw Uc,tT,tF]
  rcases cf (decide ((-2147483648)≤af∧af≤2147483647)) with h13|h13
  ·have UP:= @dP aj
   let E6:EL:=E5++Z7 3 (tC (eF (nt h13)))++ [aw UP,tC (eF (nt h13)),tC (nt h13)]
   rcases cf (decide ((-2147483648)≤aj∧aj≤2147483647)) with h15|h15
   ·let E7:EL:=E6++ [tC (nt h15)]++Z7 8 tF++ [tT]
    by_cases h16:w=32
    ·subst h16
     have XF:= @Cx cc
     generalize g19:kO cc=r18 at XF
     exact (gg (d:= .bool r18) (E7++(cr 9 480++ [aw XF,tT]))).to (by clear E1 E2 E3 E4 E5 E6 E7;(try simp only [ct,aE,aX] at*);(rw [aai];simp [aE,aX, *];grind))
    let E8:EL:=E7++Z7 4 (tC (eF (bc h16)))
    by_cases h20:w=8
    ·subst h20
     have XO:= @EK aj
     rcases cf (decide ((-128)≤aj∧aj≤127)) with h22|h22
     ·have Vb:= @Cx cc
      generalize g25:kO cc=r24 at Vb
      exact (gg (d:= .bool r24) (E8++ [tT,tT,tT,aw XO,tT,tT,tF,tC (eT h22),tC (eT h22),tC (eT h22),aw Vb,tC h22])).to (by clear E1 E2 E3 E4 E5 E6 E7 E8;(try simp only [ct,aE,aX] at*);(rw [aai];simp [aE,aX, *];grind))
     exact (gg (d:= .bool false) (E8++ [tT,tT,tT,aw XO,tT,tT,tF,tC (eT h22),tC (eT h22),tC (eT h22),tC h22])).to (by clear E1 E2 E3 E4 E5 E6 E7 E8;(try simp only [ct,aE,aX] at*);(simp [aE,aX, *];done))
    exact (gg (d:= .bool false) (E8++Z7 3 (tC (eT (bc h20)))++ [tC (eF (bc h16)),tC (bc h20),tC (bc h16),tF,tF,tF,tF])).to (by clear E1 E2 E3 E4 E5 E6 E7 E8;(try simp only [ct,aE,aX] at*);(simp [aE,aX, *];done))
   exact (gg (d:= .bool false) (E6++ [tC (nt h15)])).to (by clear E1 E2 E3 E4 E5 E6;(try simp only [ct,aE,aX] at*);(simp [aE,aX, *];done))
  exact (gg (d:= .bool false) (E5++Z7 4 (tC (eF (nt h13)))++ [tC (nt h13),tT])).to (by clear E1 E2 E3 E4 E5;(try simp only [ct,aE,aX] at*);(simp [aE,aX, *];done))
 exact (gg (d:= .bool false) (E1++Z7 4 (tC (eF (nt h2)))++([tC (nt h2)]++cr 21 1589776))).to (by clear E1;(try simp only [ct,aE,aX] at*);(rw [aai];simp [aE,aX, *];grind))
theorem zu (op w ab ae aa af aj cc:Int) (h:(aA op==11)=true) (hc:(bm op==10)=true):aP Z9 41 ([xD op w ab ae aa af aj cc]) (ax (bC op w ab ae aa af aj cc)):=by
 have c0:= @aG op
 rw [eq_of_beq hc] at c0
 have c1:= @uh op w ab ae aa af aj cc (cK 10 true (eq_of_beq hc))
 let E1:EL:= [aw c0,tT,tT,tT,aw c1,tT,.flat _ _ cW,tF]
 rcases cf (bZ [ao op,ao w,ao ab,ao ae,ao aa,av af,av aj,ao cc] [ao op,ao 0,ao 0,ao 0,ao 0,av 0,av 0,ao 0]) with h2|h2
 ·have c3:= @dh ab
  generalize g5:cg ab=r4 at c3
  let E2:EL:=E1++Z7 3 (tC (eF (nt h2)))++ [aw c3,tC (eF (nt h2)),tC (nt h2)]
  cases r4
  ·exact (gg (d:= .bool false) (E2++(cr 21 1589776))).to (by clear E1 E2;(try simp only [ct,aE,aX] at*);(simp [aE,aX, *];done))
  have c6:= @dh ae
  generalize g8:cg ae=r7 at c6
  let E3:EL:=E2++ [tT,tT,tT,aw c6,tT,tF]
  cases r7
  ·exact (gg (d:= .bool false) (E3++(cr 16 49680))).to (by clear E1 E2 E3;(try simp only [ct,aE,aX] at*);(simp [aE,aX, *];done))
  have c9:= @dh aa
  generalize g11:cg aa=UC at c9
  let E4:EL:=E3++ [tT,tT,tT,aw c9,tT,tF]
  cases UC
  ·exact (gg (d:= .bool false) (E4++(cr 11 1552))).to (by clear E1 E2 E3 E4;(try simp only [ct,aE,aX] at*);(simp [aE,aX, *];done))
  have Uc:= @dP af
  rcases cf (decide ((-2147483648)≤af∧af≤2147483647)) with h13|h13
  ·have UP:= @dP aj
   let E5:EL:=E4++ [tT,tT,tT,aw Uc,tT,tF]++Z7 3 (tC (eF (nt h13)))++ [aw UP,tC (eF (nt h13)),tC (nt h13)]
   rcases cf (decide ((-2147483648)≤aj∧aj≤2147483647)) with h15|h15
   ·exact (gg (d:= .bool true) (E5++ [tC (nt h15)]++Z7 9 tF)).to (by clear E1 E2 E3 E4 E5;(try simp only [ct,aE,aX] at*);(rw [aai];simp [aE,aX, *];grind))
   exact (gg (d:= .bool false) (E5++ [tC (nt h15)])).to (by clear E1 E2 E3 E4 E5;(try simp only [ct,aE,aX] at*);(simp [aE,aX, *];done))
  exact (gg (d:= .bool false) (E4++ [tT,tT,tT,aw Uc,tT,tF]++Z7 4 (tC (eF (nt h13)))++ [tC (nt h13),tT])).to (by clear E1 E2 E3 E4;(try simp only [ct,aE,aX] at*);(simp [aE,aX, *];done))
 exact (gg (d:= .bool false) (E1++Z7 4 (tC (eF (nt h2)))++([tC (nt h2)]++cr 21 1589776))).to (by clear E1;(try simp only [ct,aE,aX] at*);(rw [aai];simp [aE,aX, *];grind))
theorem wA:∀n:Fin 32,aA (n.val:Int)=1∨aA (n.val:Int)=2∨aA (n.val:Int)=3∨aA (n.val:Int)=4∨aA (n.val:Int)=5∨aA (n.val:Int)=6∨aA (n.val:Int)=7∨aA (n.val:Int)=8∨aA (n.val:Int)=9∨aA (n.val:Int)=10∨aA (n.val:Int)=11:=by decide+kernel
theorem a8 (op w ab ae aa af aj cc:Int):aP Z9 41 [xD op w ab ae aa af aj cc] (ax (bC op w ab ae aa af aj cc)):=by
 by_cases Ue:0≤op∧op≤31
 ·have e:op=(((⟨op.toNat,by omega⟩:Fin 32).val:Nat):Int):=by simp;omega
  have hr:=wA ⟨op.toNat,by omega⟩
  rw [← e] at hr
  rcases hr with h|h|h|h|h|h|h|h|h|h|h
  ·exact Cc _ _ _ _ _ _ _ _ (by rw [h];rfl) (by simp [bm,h])
  ·exact Cb _ _ _ _ _ _ _ _ (by rw [h];rfl) (by simp [bm,h])
  ·exact Ca _ _ _ _ _ _ _ _ (by rw [h];rfl) (by simp [bm,h])
  ·exact B9 _ _ _ _ _ _ _ _ (by rw [h];rfl) (by simp [bm,h])
  ·exact B8 _ _ _ _ _ _ _ _ (by rw [h];rfl) (by simp [bm,h])
  ·exact B7 _ _ _ _ _ _ _ _ (by rw [h];rfl) (by simp [bm,h])
  ·exact B6 _ _ _ _ _ _ _ _ (by rw [h];rfl) (by simp [bm,h])
  ·exact B5 _ _ _ _ _ _ _ _ (by rw [h];rfl) (by simp [bm,h])
  ·exact B4 _ _ _ _ _ _ _ _ (by rw [h];rfl) (by simp [bm,h])
  ·exact zw _ _ _ _ _ _ _ _ (by rw [h];rfl) (by simp [bm,h])
  ·exact zu _ _ _ _ _ _ _ _ (by rw [h];rfl) (by simp [bm,h])
 ·exact Cd _ _ _ _ _ _ _ _ (by rw [(lA (op:=op) (by omega)).1];rfl) (by simp [bm,(lA (op:=op) (by omega)).1])
theorem dH (r:Int):aP Z9 136 ([ao r]) (ax (cg r)):=by
 rcases cf (decide (r<0)) with h0|h0
 ·exact (QD (d:= .bool false) [tC (eT (bQ 0 h0)),tC (eT (bQ 0 h0)),tC (bQ 0 h0)]).to (by (try simp only [ct,aE,cg] at*);first|(simp [aE,cg, *];done)|(simp [aE,cg, *];omega)|(rw [aai];simp [aE,cg, *];done)|(rw [aai];simp [aE,cg, *];omega)|(rw [aai];simp [aE,cg, *];grind)|(subst_vars;rw [aai];simp;grind))
 exact (QD (d:= .bool (decide (r<16))) [tC (eT (bQ 0 h0)),tC (eT (bQ 0 h0)),tC (bQ 0 h0)]).to (by (try simp only [ct,aE,cg] at*);first|(simp [aE,cg, *];done)|(simp [aE,cg, *];omega)|(rw [aai];simp [aE,cg, *];done)|(rw [aai];simp [aE,cg, *];omega)|(rw [aai];simp [aE,cg, *];grind)|(subst_vars;rw [aai];simp;grind))
theorem vf (r:Int) (r0:0≤r) (r1:r≤15):aP Z9 137 ([ao r,au 0]) (aC (r / 8)):=(QC (d:= .int .u8 (abz.wrap abz.u8 (abz.wrap abz.u8 (↑(aab (Z8 (8:Nat) (aaQ (abz.wrap abz.u8 r) 8)&&&Z8 (8:Nat) 1)):Int)*1))) [tT]).to (by simp only [wk,D.int.injEq,fm];obtain ⟨n,rfl⟩:=iC r0 r1;clear r0 r1;revert n;decide+kernel)
theorem ve (r:Int) (r0:0≤r) (r1:r≤15):aP Z9 137 ([ao r,au 2]) (aC (4*(r / 8))):=(QC (d:= .int .u8 (abz.wrap abz.u8 (abz.wrap abz.u8 (↑(aab (Z8 (8:Nat) (aaQ (abz.wrap abz.u8 r) 8)&&&Z8 (8:Nat) 1)):Int)*4))) [tT]).to (by simp only [wk,D.int.injEq,fm];obtain ⟨n,rfl⟩:=iC r0 r1;clear r0 r1;revert n;decide+kernel)
theorem CZ (r m:Int) (r0:0≤r) (r1:r≤15) (m0:0≤m) (m1:m≤15):aP Z9 138 ([aC 192,ao r,ao m]) (aC (bk r m)):=(QB (d:= .int .u8 (abz.wrap abz.u8 (↑(aab (Z8 (8:Nat) (abz.wrap abz.u8 (↑(aab (Z8 (8:Nat) 192|||Z8 (8:Nat) (abz.wrap abz.u8 (abz.wrap abz.u8 (↑(aab (Z8 (8:Nat) (abz.wrap abz.u8 r)&&&Z8 (8:Nat) 7)):Int)*8)))):Int))|||Z8 (8:Nat) (abz.wrap abz.u8 (↑(aab (Z8 (8:Nat) (abz.wrap abz.u8 m)&&&Z8 (8:Nat) 7)):Int)))):Int))) []).to (by simp only [wk,D.int.injEq,fm];obtain ⟨n,rfl⟩:=iC r0 r1;obtain ⟨k,rfl⟩:=iC m0 m1;clear r0 r1 m0 m1;revert n k;decide+kernel)
theorem sJ (r m:Int) (r0:0≤r) (r1:r≤15) (m0:0≤m) (m1:m≤15):aP Z9 138 ([aC 128,ao r,ao m]) (aC (128+8*(r%8)+m%8)):=(QB (d:= .int .u8 (abz.wrap abz.u8 (↑(aab (Z8 (8:Nat) (abz.wrap abz.u8 (↑(aab (Z8 (8:Nat) 128|||Z8 (8:Nat) (abz.wrap abz.u8 (abz.wrap abz.u8 (↑(aab (Z8 (8:Nat) (abz.wrap abz.u8 r)&&&Z8 (8:Nat) 7)):Int)*8)))):Int))|||Z8 (8:Nat) (abz.wrap abz.u8 (↑(aab (Z8 (8:Nat) (abz.wrap abz.u8 m)&&&Z8 (8:Nat) 7)):Int)))):Int))) []).to (by simp only [wk,D.int.injEq,fm];obtain ⟨n,rfl⟩:=iC r0 r1;obtain ⟨k,rfl⟩:=iC m0 m1;clear r0 r1 m0 m1;revert n k;decide+kernel)
theorem bh (r m:Int) (r0:0≤r) (r1:r≤15) (m0:0≤m) (m1:m≤15):aP Z9 68 ([ao r,ao m]) (aC (bk r m)):=(Tq (d:= .int .u8 (abz.wrap abz.u8 (abz.i64.wrap (abz.i64.wrap (192+abz.i64.wrap (8*abz.i64.wrap (abz.wrap abz.i8 (↑(aab (Z8 (8:Nat) r&&&Z8 (8:Nat) 7)):Int))))+abz.i64.wrap (abz.wrap abz.i8 (↑(aab (Z8 (8:Nat) m&&&Z8 (8:Nat) 7)):Int)))))) []).to (by simp only [wk,D.int.injEq,fm];obtain ⟨n,rfl⟩:=iC r0 r1;obtain ⟨k,rfl⟩:=iC m0 m1;clear r0 r1 m0 m1;revert n k;decide+kernel)
theorem AO (r m:Int) (r0:0≤r) (r1:r≤15) (m0:0≤m) (m1:m≤15) (hn:decide (8≤r∨8≤m)=true):aP Z9 104 ([ao r,ao m]) (ax true):=by
 have c0:= @dH r
 rw [show (cg r)=true from (@hH r r0 r1)] at c0
 have c1:= @dH m
 rw [show (cg m)=true from (@hH m m0 m1)] at c1
 exact (QJ (d:= .bool (abz.wrap abz.i8 (↑(aab (Z8 (8:Nat) (abz.wrap abz.i8 (↑(aab (Z8 (8:Nat) r|||Z8 (8:Nat) m)):Int))&&&Z8 (8:Nat) 8)):Int) !=0)) [aw c0,tT,tT,aw c1,tT,tT,tT,tT,tT,tT,tT]).to (by simp only [wk,D.bool.injEq];rw [Fo r0 r1 m0 m1];exact hn)
theorem AP (r m:Int) (r0:0≤r) (r1:r≤15) (m0:0≤m) (m1:m≤15) (hn:decide (8≤r∨8≤m)=false):aP Z9 104 ([ao r,ao m]) (ax false):=by
 have c0:= @dH r
 rw [show (cg r)=true from (@hH r r0 r1)] at c0
 have c1:= @dH m
 rw [show (cg m)=true from (@hH m m0 m1)] at c1
 exact (QJ (d:= .bool (abz.wrap abz.i8 (↑(aab (Z8 (8:Nat) (abz.wrap abz.i8 (↑(aab (Z8 (8:Nat) r|||Z8 (8:Nat) m)):Int))&&&Z8 (8:Nat) 8)):Int) !=0)) [aw c0,tT,tT,aw c1,tT,tT,tT,tT,tT,tT,tT]).to (by simp only [wk,D.bool.injEq];rw [Fo r0 r1 m0 m1];exact hn)
open Go Go.RowKit Go.Ev
set_option maxHeartbeats 4000000 in
theorem G4 (v:Int) (h0: -2147483648≤v) (h1:v≤2147483647) (w:World):
  Calls Z9 139 #[.int .i64 v,.int .i64 4] w fun e w'=>e= .returned (.tuple #[.slice (some ⟨w.heap.size,0,none⟩) 4 4,.int .i64 0])∧
   w'=w.alloc (.cells #[.int .u8 (v%256),.int .u8 (v / 256%256),.int .u8 (v / 65536%256),.int .u8 (v / 16777216%256)] 5):=by
 have Wd:∀w,(Instr.makeSlice 22 (.int .i64 4) (.int .i64 4)).run Z9 w= .ok (.slice (some ⟨w.heap.size,0,none⟩) 4 4) (w.alloc (.cells #[.int .u8 0,.int .u8 0,.int .u8 0,.int .u8 0] 5)):=fun _=>by kernel_rfl
 go_enter Tryz.func139,Tryz.ntmps139
 go_wp2
 refine wp_loop_rounds 5 ?_
 rw [rounds_succ];go_wp2
 rw [rounds_succ];go_wp2
 rw [rounds_succ];go_wp2
 rw [rounds_succ];go_wp2
 rw [rounds_succ];go_wp2
 go_ret2
 exact ⟨rfl,rfl⟩
theorem HZ {C:Nat→Nat→Option Value} {w:World} (hC:∀b o v,C b o=some v→w.cell? ⟨b,o,none⟩=some v) (cells:Array Value) (ty:TypeId):
  Ext (gr C) w (gr fun b o=>if b=w.heap.size then cells[o]? else C b o) (w.alloc (.cells cells ty)):=by
 have T1:∀b o v,C b o=some v→b<w.heap.size:=fun b o v h=>World.block_lt_of_cell? w _ (hC b o v h)
 refine ⟨(Below.refl _ _).alloc (Nat.le_refl _) _,?_,?_,?_⟩
 ·intro b o v h
  have:=T1 b o v h
  show (if b=w.heap.size then cells[o]? else C b o)=some v
  rw [if_neg (by omega)]
  exact h
 ·intro b o v h hb
  have h':(if b=w.heap.size then cells[o]? else C b o)=some v:=h
  rw [if_neg (by omega)] at h'
  exact h'
 ·intro b o v h
  have h':(if b=w.heap.size then cells[o]? else C b o)=some v:=h
  split at h'
  ·rename_i e
   subst e
   have hh:(w.alloc (.cells cells ty)).heap[w.heap.size]? =some (.cells cells ty):=by
    show (w.heap.push _)[w.heap.size]? =_
    simp
   simp only [World.cell?,hh]
   exact h'
  ·have hb:=T1 b o v h'
   rw [World.cell?_alloc_lt _ _ _ hb]
   exact hC b o v h'
theorem Mp {C:Nat→Nat→Option Value} {b:Nat} {k:abz} (xs:List Int) (cells:Array Value) (hc:cells=(xs.map fun n=>Value.int k n).toArray):
  b7 (gr fun b' o=>if b'=b then cells[o]? else C b' o) (.aY .tight 1 (xs.map fun n=> .int k n)) (.slice (some ⟨b,0,none⟩) xs.length xs.length):=by
 subst hc
 have key:∀(i:Nat) (x:D) (cs:List D) (j:Nat) (c:D),(xs.map fun n=>D.int k n)[i]? =some x→x.cells=some cs→cs[j]? =some c→∃n,xs[i]? =some n∧c= .int k n∧j=0:=by
  intro i x cs j c h1 h2 h3
  rw [aau,Option.map_eq_some_iff] at h1
  obtain ⟨n,hn,rfl⟩:=h1
  simp only [D.cells,Option.some.injEq] at h2
  subst h2
  cases j with
  |zero=>simp at h3;exact ⟨n,hn,h3.symm,rfl⟩
  |succ j=>simp at h3
 refine .aY b 0 (fun i _=> .int k (xs.getD i 0)) (by simp) (Nat.le_refl _) (fun _=>rfl) ?_ ?_ ?_ ?_ rfl
 ·intro i x hx
  rw [aau,Option.map_eq_some_iff] at hx
  obtain ⟨n,hn,rfl⟩:=hx
  exact ⟨[.int k n],rfl,rfl⟩
 ·intro i x cs j c h1 h2 h3
  obtain ⟨n,hn,rfl,rfl⟩:=key i x cs j c h1 h2 h3
  simp [gr,hn]
 ·intro i x cs j c h1 h2 h3
  obtain ⟨n,hn,rfl,rfl⟩:=key i x cs j c h1 h2 h3
  simp only [List.getD_eq_getElem?_getD,hn,Option.getD_some]
  exact .int k n
 ·intro i x cs c h1 h2 h3
  rw [aau,Option.map_eq_some_iff] at h1
  obtain ⟨n,hn,rfl⟩:=h1
  simp only [D.cells,Option.some.injEq] at h2
  subst h2
  simp at h3
  subst h3
  rfl
theorem Fl (v:Int) (h0: -2147483648≤v) (h1:v≤2147483647):aP Z9 139 [av v,av 4] (.aL [.aY .tight 1 [aC (v%256),aC (v / 256%256),aC (v / 65536%256),aC (v / 16777216%256)],av 0]):=by
 refine ⟨⟨_,_,Tryz.func139,rfl,by kernel_rfl⟩,fun w C vs hC ha=> ?_⟩
 obtain ⟨hl,hr⟩:=ha
 obtain ⟨a,b,rfl⟩:∃a b,vs= #[a,b]:=by
  rcases vs with ⟨l⟩
  match l,hl with
  | [a,b],_=>exact ⟨a,b,rfl⟩
 have ra:=hr 0 _ a rfl rfl
 have rb:=hr 1 _ b rfl rfl
 cases ra
 cases rb
 refine Calls.mono (G4 v h0 h1 w) ?_
 rintro e w' ⟨rfl,rfl⟩
 have rl:=Mp (C:=C) (b:=w.heap.size) (k:= .u8) [v%256,v / 256%256,v / 65536%256,v / 16777216%256] _ rfl
 refine ⟨_,_,rfl,HZ hC _ _,.aL rfl ?_,?_⟩
 ·intro i d u p q
  match i,p,q with
  |0,p,q=>simp at p q;subst p q;exact rl
  |1,p,q=>simp at p q;subst p q;exact .int _ _
 ·refine ⟨fun sz Ug xs h=>(by cases h),?_⟩
  intro ds vs hd hv i sz Ug xs hi
  simp only [D.aL.injEq] at hd
  subst hd
  match i,hi with
  |0,hi=>simp at hi
  |1,hi=>simp at hi
theorem p4 (r m:Int) (r0:0≤r) (r1:r≤15) (m0:0≤m) (m1:m≤15):aP Z9 105 ([ax false,ao r,ao m]) (.aL [aC (cV false r m),av 0]):=by
 have c0:= @dH r
 rw [show (cg r)=true from (@hH r r0 r1)] at c0
 have c1:= @dH m
 rw [show (cg m)=true from (@hH m m0 m1)] at c1
 have c2:= @ve r r0 r1
 have c3:= @vf m m0 m1
 exact (QI (d:= .aL [aC (abz.wrap abz.u8 (↑(aab (Z8 (8:Nat) (abz.wrap abz.u8 (↑(aab (Z8 (8:Nat) 64|||Z8 (8:Nat) (4*(r / 8)))):Int))|||Z8 (8:Nat) (m / 8))):Int)),av 0]) [aw c0,tT,tT,aw c1,tT,tF,tF,aw c2,aw c3,tF]).to (by simp only [wk,bf,D.int.injEq,fm,ey];exact JS r0 r1 m0 m1)
theorem vh (r m:Int) (r0:0≤r) (r1:r≤15) (m0:0≤m) (m1:m≤15):aP Z9 105 ([ax true,ao r,ao m]) (.aL [aC (cV true r m),av 0]):=by
 have c0:= @dH r
 rw [show (cg r)=true from (@hH r r0 r1)] at c0
 have c1:= @dH m
 rw [show (cg m)=true from (@hH m m0 m1)] at c1
 have c2:= @ve r r0 r1
 have c3:= @vf m m0 m1
 exact (QI (d:= .aL [aC (abz.wrap abz.u8 (↑(aab (Z8 (8:Nat) (abz.wrap abz.u8 (↑(aab (Z8 (8:Nat) (abz.wrap abz.u8 (↑(aab (Z8 (8:Nat) 64|||Z8 (8:Nat) (4*(r / 8)))):Int))|||Z8 (8:Nat) (m / 8))):Int))|||Z8 (8:Nat) 8)):Int)),av 0]) [aw c0,tT,tT,aw c1,tT,tF,tF,aw c2,aw c3,tT]).to (by simp only [wk,bf,D.int.injEq,fm,ey];exact JR r0 r1 m0 m1)
theorem KM (r m:Int) (r0:0≤r) (r1:r≤15) (m0:0≤m) (m1:m≤15):aP Z9 106 ([ao r,ao m]) (.aL [.aY .tight 1 [aC (bk r m)],av 0]):=by
 have c0:= @dH r
 rw [show (cg r)=true from (@hH r r0 r1)] at c0
 have c1:= @dH m
 rw [show (cg m)=true from (@hH m m0 m1)] at c1
 have c2:= @CZ r m r0 r1 m0 m1
 generalize g4:bk r m=r3 at c2
 exact (R6 (d:= .aL [.aY .tight 1 [aC r3],av 0]) [aw c0,tT,tT,aw c1,tT,tF,tF,aw c2]).to (by subst_vars;simp [wk,bf,cB])
theorem gq (r b af:Int) (r0:0≤r) (r1:r≤15) (m0:0≤b) (m1:b≤15) (h0: -2147483648≤af) (h1:af≤2147483647) (hb:decide (b%8=4)=true):aP Z9 108 ([ao r,ao b,av af]) (.aL [aZ 1 [aC (128+8*(r%8)+b%8),aC 36,aC (af%256),aC (af / 256%256),aC (af / 65536%256),aC (af / 16777216%256)],av 0]):=by
 have c0:= @Fl af h0 h1
 have c1:= @dH r
 rw [show (cg r)=true from (@hH r r0 r1)] at c1
 have c2:= @dH b
 rw [show (cg b)=true from (@hH b m0 m1)] at c2
 have c3:= @sJ r b r0 r1 m0 m1
 exact (QH (d:= .aL [.aY (.fresh 1) 1 [aC (128+8*(r%8)+b%8),aC 36,aC (af%256),aC (af / 256%256),aC (af / 65536%256),aC (af / 16777216%256)],av 0]) [aw c0,tT,tT,aw c1,tT,tF,tT,tT,aw c2,tT,tF,tF,tC (cK 4 true (eq_of_beq (@NM b hb))),aw c3,aO,.go 64,tT,tT,bH 1,tT,tT,bH 2,tT,tT,bH 6,tF]).to (by subst_vars;simp [wk,bf,cB])
theorem gp (r b af:Int) (r0:0≤r) (r1:r≤15) (m0:0≤b) (m1:b≤15) (h0: -2147483648≤af) (h1:af≤2147483647) (hb:decide (b%8=4)=false):aP Z9 108 ([ao r,ao b,av af]) (.aL [aZ 1 [aC (128+8*(r%8)+b%8),aC (af%256),aC (af / 256%256),aC (af / 65536%256),aC (af / 16777216%256)],av 0]):=by
 have c0:= @Fl af h0 h1
 have c1:= @dH r
 rw [show (cg r)=true from (@hH r r0 r1)] at c1
 have c2:= @dH b
 rw [show (cg b)=true from (@hH b m0 m1)] at c2
 have c3:= @sJ r b r0 r1 m0 m1
 exact (QH (d:= .aL [.aY (.fresh 1) 1 [aC (128+8*(r%8)+b%8),aC (af%256),aC (af / 256%256),aC (af / 65536%256),aC (af / 16777216%256)],av 0]) [aw c0,tT,tT,aw c1,tT,tF,tT,tT,aw c2,tT,tF,tF,tC (@NN b hb),aw c3,aO,.go 64,tT,tT,bH 1,tT,tT,bH 1,tT,tT,bH 5,tF]).to (by subst_vars;simp [wk,bf,cB])
theorem fL (r m:Int) (r0:0≤r) (r1:r≤15) (m0:0≤m) (m1:m≤15) (wide al:Bool) (hn:bP wide r m al=false):aP Z9 75 ([ax wide,ao r,ao m,ax al]) (.aY .tight 1 []):=by
 cases wide
 ·cases al
  ·have c0:= @AP r m r0 r1 m0 m1 hn
   exact (PY (d:= .aY .tight 0 []) [tT,tT,tT,tT,tT,tT,aw c0,tT,tT,tT]).to (by first|(simp [wk,bf,cB];done)|(exfalso;simp [bP] at hn))
  have c1:= @p4 r m r0 r1 m0 m1
  generalize g3:cV false r m=r2 at c1
  exact (PY (d:= .aY .tight 1 [aC r2]) (cr 9 7++ [aw c1])).to (by first|(simp [wk,bf,cB];done)|(exfalso;simp [bP] at hn))
 have c4:= @vh r m r0 r1 m0 m1
 generalize g6:cV true r m=r5 at c4
 exact (PY (d:= .aY .tight 1 [aC r5]) (Z7 9 tF++ [aw c4])).to (by first|(simp [wk,bf,cB];done)|(exfalso;simp [bP] at hn))
theorem eG (r m:Int) (r0:0≤r) (r1:r≤15) (m0:0≤m) (m1:m≤15) (wide al:Bool) (hn:bP wide r m al=true):aP Z9 75 ([ax wide,ao r,ao m,ax al]) (.aY .tight 1 [aC (cV wide r m)]):=by
 cases wide
 ·cases al
  ·have c0:= @AO r m r0 r1 m0 m1 hn
   have c1:= @p4 r m r0 r1 m0 m1
   generalize g3:cV false r m=r2 at c1
   exact (PY (d:= .aY .tight 1 [aC r2]) [tT,tT,tT,tT,tT,tT,aw c0,tT,tT,tF,aw c1]).to (by subst_vars;first|(simp [wk,bf,cB];done)|(exfalso;simp [bP] at hn;omega))
  have c4:= @p4 r m r0 r1 m0 m1
  generalize g6:cV false r m=r5 at c4
  exact (PY (d:= .aY .tight 1 [aC r5]) (cr 9 7++ [aw c4])).to (by subst_vars;first|(simp [wk,bf,cB];done)|(exfalso;simp [bP] at hn;omega))
 have c7:= @vh r m r0 r1 m0 m1
 generalize g9:cV true r m=r8 at c7
 exact (PY (d:= .aY .tight 1 [aC r8]) (Z7 9 tF++ [aw c7])).to (by subst_vars;first|(simp [wk,bf,cB];done)|(exfalso;simp [bP] at hn;omega))
theorem jg (r m:Int) (r0:0≤r) (r1:r≤15) (m0:0≤m) (m1:m≤15):aP Z9 76 ([ao r,ao m]) (.aY .tight 1 [aC (bk r m)]):=by
 have c0:= @KM r m r0 r1 m0 m1
 generalize g2:bk r m=r1 at c0
 exact (Tn (d:= .aY .tight 1 [aC r1]) [aw c0]).to (by subst_vars;simp [wk,bf,cB])
theorem lQ (n:Int):aP Z9 77 ([av n]) (aZ 1 [aC (n%256),aC (n / 256%256),aC (n / 65536%256),aC (n / 16777216%256)]):=(Tm (d:= .aY (.fresh 1) 1 [aC (abz.wrap abz.u8 (abz.wrap abz.u64 n)),aC (abz.wrap abz.u8 (aaQ (abz.wrap abz.u64 n) 256)),aC (abz.wrap abz.u8 (aaQ (aaQ (abz.wrap abz.u64 n) 256) 256)),aC (abz.wrap abz.u8 (aaQ (aaQ (aaQ (abz.wrap abz.u64 n) 256) 256) 256))]) [aO,.go 64,tT,bH 1,tT,bH 2,tT,bH 3,tT,bH 4,tF]).to (by simp only [wk,bf,cB,D.int.injEq,D.aY.injEq,List.cons.injEq,fm,ey,bo,bN,true_or,SU,N6,FG,tq];first|done|omega|(simp;omega))
theorem dQ (n:Int):aP Z9 69 ([au (n%18446744073709551616),av 4]) (aZ 1 [aC (n%256),aC (n / 256%256),aC (n / 65536%256),aC (n / 16777216%256)]):=(Tp (d:= .aY (.fresh 1) 1 [aC (abz.wrap abz.u8 (aaQ (n%18446744073709551616) 1)),aC (abz.wrap abz.u8 (aaQ (n%18446744073709551616) 256)),aC (abz.wrap abz.u8 (aaQ (n%18446744073709551616) 65536)),aC (abz.wrap abz.u8 (aaQ (n%18446744073709551616) 16777216))]) [.go 64,tT,tT,bH 1,tT,tT,bH 2,tT,tT,bH 3,tT,tT,bH 4,tF]).to (by simp only [wk,bf,cB,D.int.injEq,D.aY.injEq,List.cons.injEq,fm,ey,bo,bN,true_or,SU,N6,FG,tq];first|done|omega|(simp;omega))
theorem Ed (op w ab ae aa af aj cc:Int) (ho:op≤127) (d0:0≤ab) (d1:ab≤15) (s0:0≤ae) (s1:ae≤15) (b0:0≤aa) (b1:aa≤15) (p0: -2147483648≤af) (p1:af≤2147483647) (i0: -2147483648≤aj) (i1:aj≤2147483647) (c0:0≤cc) (c1:cc≤15) (n0:0≤bI op) (n1:bI op≤7) (h:(aA op==1)=true) (Ue:decide (0≤op∧op≤31)=true) (hm:bC op w ab ae aa af aj cc=true):aP Z9 43 ([xD op w ab ae aa af aj cc]) (.aL [aZ 1 (bD (aD op w ab ae aa af aj cc)),av 0]):=by
 have c0:= @a9 op w ab ae aa af aj cc ho
 rw [hm] at c0
 have c1:= @da op ho
 rw [eq_of_beq h] at c1
 generalize g3:ba op=r2 at c1
 generalize g5:bI op=r4 at c1
 rcases cf (bP (w==64) ae ab false) with h6|h6
 ·have c7:= @eG ae ab s0 s1 d0 d1 (w==64) false h6
  generalize g9:cV (w==64) ae ab=r8 at c7
  have T7:= @jg ae ab s0 s1 d0 d1
  generalize g12:bk ae ab=Un at T7
  exact (kA (d:= .aL [.aY (.fresh 1) 1 [aC r8,aC r2,aC Un],av 0]) [aw c0,tF,aw c1,tT,aw c7,aw T7,aO,.go 64,tT,tT,bH 1,tT,tT,bH 2,tT,tT,bH 3,tF]).to (by subst_vars;(try simp only [aV] at*);(try simp only [cz] at h);(try simp only [bS,cI] at*);simp_all [wk,bf,cB,aD,bD,bl,bq,aW,bo])
 have Uh:= @fL ae ab s0 s1 d0 d1 (w==64) false h6
 have UP:= @jg ae ab s0 s1 d0 d1
 generalize g16:bk ae ab=V6 at UP
 exact (kA (d:= .aL [.aY (.fresh 1) 1 [aC r2,aC V6],av 0]) [aw c0,tF,aw c1,tT,aw Uh,aw UP,aO,.go 64,tT,tT,bH 0,tT,tT,bH 1,tT,tT,bH 2,tF]).to (by subst_vars;(try simp only [aV] at*);(try simp only [cz] at h);(try simp only [bS,cI] at*);simp_all [wk,bf,cB,aD,bD,bl,bq,aW,bo])
theorem yC (w ab ae aa af aj cc:Int) (d0:0≤ab) (d1:ab≤15) (s0:0≤ae) (s1:ae≤15) (b0:0≤aa) (b1:aa≤15) (p0: -2147483648≤af) (p1:af≤2147483647) (i0: -2147483648≤aj) (i1:aj≤2147483647) (c0:0≤cc) (c1:cc≤15) (hm:bC 16 w ab ae aa af aj cc=true):aP Z9 43 ([xD 16 w ab ae aa af aj cc]) (.aL [aZ 1 (bD (aD 16 w ab ae aa af aj cc)),av 0]):=by
 have c0:= @a9 16 w ab ae aa af aj cc (by decide)
 rw [hm] at c0
 have c1:= @da 16 (by decide)
 rcases cf (bP (w==64) ab ae false) with h2|h2
 ·have c3:= @eG ab ae d0 d1 s0 s1 (w==64) false h2
  generalize g5:cV (w==64) ab ae=r4 at c3
  have c6:= @jg ab ae d0 d1 s0 s1
  generalize g8:bk ab ae=r7 at c6
  exact (kA (d:= .aL [.aY (.fresh 1) 1 [aC r4,aC 15,aC 175,aC r7],av 0]) [aw c0,tF,aw c1,tF,tT,aw c3,aw c6,aO,.go 64,tT,tT,bH 1,tT,tT,bH 2,tT,tT,bH 3,tT,tT,bH 4,tF]).to (by subst_vars;(try simp only [aV] at*);(try simp only [cz] at h);(try simp only [bS,cI] at*);simp_all [wk,bf,cB,aD,show aA 16=2 from rfl,ba,bD,bl,bq,aW,bo])
 have c9:= @fL ab ae d0 d1 s0 s1 (w==64) false h2
 have T7:= @jg ab ae d0 d1 s0 s1
 generalize g12:bk ab ae=Un at T7
 exact (kA (d:= .aL [.aY (.fresh 1) 1 [aC 15,aC 175,aC Un],av 0]) [aw c0,tF,aw c1,tF,tT,aw c9,aw T7,aO,.go 64,tT,tT,bH 0,tT,tT,bH 1,tT,tT,bH 2,tT,tT,bH 3,tF]).to (by subst_vars;(try simp only [aV] at*);(try simp only [cz] at h);(try simp only [bS,cI] at*);simp_all [wk,bf,cB,aD,show aA 16=2 from rfl,ba,bD,bl,bq,aW,bo])
theorem Ea (op w ab ae aa af aj cc:Int) (ho:op≤127) (d0:0≤ab) (d1:ab≤15) (s0:0≤ae) (s1:ae≤15) (b0:0≤aa) (b1:aa≤15) (p0: -2147483648≤af) (p1:af≤2147483647) (i0: -2147483648≤aj) (i1:aj≤2147483647) (c0:0≤cc) (c1:cc≤15) (n0:0≤bI op) (n1:bI op≤7) (h:(aA op==5)=true) (Ue:decide (0≤op∧op≤31)=true) (hm:bC op w ab ae aa af aj cc=true):aP Z9 43 ([xD op w ab ae aa af aj cc]) (.aL [aZ 1 (bD (aD op w ab ae aa af aj cc)),av 0]):=by
 have c0:= @a9 op w ab ae aa af aj cc ho
 rw [hm] at c0
 have c1:= @da op ho
 rw [eq_of_beq h] at c1
 generalize g3:ba op=r2 at c1
 generalize g5:bI op=r4 at c1
 rcases cf (bP (w==64) 0 ab false) with h6|h6
 ·have c7:= @eG 0 ab (by decide) (by decide) d0 d1 (w==64) false h6
  generalize g9:cV (w==64) 0 ab=r8 at c7
  have T7:= @jg r4 ab (by (simp only [cH] at*;omega)) (by (simp only [cH] at*;omega)) d0 d1
  generalize g12:bk r4 ab=Un at T7
  exact (kA (d:= .aL [.aY (.fresh 1) 1 [aC r8,aC r2,aC Un],av 0]) [aw c0,tF,aw c1,tF,tF,tF,tF,tF,tT,aw c7,aw T7,aO,.go 64,tT,tT,bH 1,tT,tT,bH 2,tT,tT,bH 3,tF]).to (by subst_vars;(try simp only [aV] at*);(try simp only [cz] at h);(try simp only [bS,cI] at*);simp_all [wk,bf,cB,aD,bD,bl,bq,aW,bo])
 have Uh:= @fL 0 ab (by decide) (by decide) d0 d1 (w==64) false h6
 have UP:= @jg r4 ab (by (simp only [cH] at*;omega)) (by (simp only [cH] at*;omega)) d0 d1
 generalize g16:bk r4 ab=V6 at UP
 exact (kA (d:= .aL [.aY (.fresh 1) 1 [aC r2,aC V6],av 0]) [aw c0,tF,aw c1,tF,tF,tF,tF,tF,tT,aw Uh,aw UP,aO,.go 64,tT,tT,bH 0,tT,tT,bH 1,tT,tT,bH 2,tF]).to (by subst_vars;(try simp only [aV] at*);(try simp only [cz] at h);(try simp only [bS,cI] at*);simp_all [wk,bf,cB,aD,bD,bl,bq,aW,bo])
end Go.Proofs.YtbfpahigdpigpaaGreat
