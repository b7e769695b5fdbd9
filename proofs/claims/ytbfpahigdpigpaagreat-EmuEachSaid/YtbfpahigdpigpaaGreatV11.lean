import Derived.WalkKit
import Derived.IntWalk
import Derived.KernelRfl
import Derived.LoopN
import Derived.Test.YtbfpahigdpigpaaGreatV05
import Derived.Test.YtbfpahigdpigpaaGreatV08
import Derived.Test.YtbfpahigdpigpaaGreatV10
open BitVec renaming ofInt→Zw,toNat→Zz
open List renaming replicate→Zx,getElem?_map→ZU
open Go.Proofs.Tryz renaming prog→Zy
open Bool renaming eq_iff_iff→ZB
open Int renaming fdiv→aad
open Go renaming IntKind→aaY
/- Contracts and plain laws that a statement's proof leans on (texts merged:XMay3,XMayA,XRef0,XRef1,XRef2,XRef3,XRef4,XRefA,XB0,NumA,XB1,XB2a). -/
set_option linter.unusedVariables false
set_option linter.unusedSimpArgs false
set_option maxRecDepth 100000
set_option maxHeartbeats 8000000
namespace Go.Proofs.YtbfpahigdpigpaaGreat
open Go Go.Ev
def tR (Tz:Int):Prop:= ∀(op w ab ae aa af ai cc:Int) (ho:op≤127) (h:(aC op==Tz)=true) (TD:decide (0≤op∧op≤31)=true),aQ Zy 72 ([xD op w ab ae aa af ai cc]) (ax (bL op w ab ae aa af ai cc))
theorem Ho:tR 9:=by
 intro op w ab ae aa af ai cc ho h TD
 have c0:= @dg op ho
 rw [eq_of_beq h] at c0
 generalize g2:bh op=r1 at c0
 generalize g4:bO op=r3 at c0
 have c5:= @II op w ab ae aa af ai cc 9 (rfl:true=true)
 let E1:EL:=([aw c0]++Zx 4 (tC (eF (nt TD)))++ [aw c5,tC (eF (nt TD)),tC (eF (nt TD)),.flat _ _ ep,tC (nt TD)])
 rcases cI (br [ak 0,ak 0,ak ab,ak ae,ak aa,aq af,aq 0,ak cc] [ak 0,ak 0,ak 0,ak 0,ak 0,aq 0,aq 0,ak 0]) with h6|h6
 ·have c7:= @eg ab
  generalize g9:ba ab=r8 at c7
  let E2:EL:=E1++Zx 3 (tC (eF (nt h6)))++ [aw c7,tC (eF (nt h6)),tC (nt h6)]
  cases r8
  ·exact (eE (d:= .bool false) (E2++(cr 21 1589776))).to (by clear E1 E2;(try simp only [cf,aB,sM] at*);(simp [aB,sM, *];done))
  have Tp:= @eg ae
  generalize g12:ba ae=TN at Tp
  let E3:EL:=E2++ [tT,tT,tT,aw Tp,tT,tF]
  cases TN
  ·exact (eE (d:= .bool false) (E3++(cr 16 49680))).to (by clear E1 E2 E3;(try simp only [cf,aB,sM] at*);(simp [aB,sM, *];done))
  have TF:= @eg aa
  generalize g15:ba aa=T4 at TF
  let E4:EL:=E3++ [tT,tT,tT,aw TF,tT,tF]
  cases T4
  ·exact (eE (d:= .bool false) (E4++(cr 11 1552))).to (by clear E1 E2 E3 E4;(try simp only [cf,aB,sM] at*);(simp [aB,sM, *];done))
  have TG:= @b6 af (-2147483648) 2147483647
  let E5:EL:=E4++ [tT,tT,tT,aw TG,tT,tF]
  rcases cI (decide (af<(-2147483648))) with h17|h17
  ·exact (eE (d:= .bool false) (E5++Zx 4 (tC (eF (nt (dy (y:=decide (af≤2147483647)) (bK (-2147483648) h17)))))++ [tC (nt (dy (y:=decide (af≤2147483647)) (bK (-2147483648) h17))),tT])).to (by clear E1 E2 E3 E4 E5;(try simp only [cf,aB,sM] at*);(simp [aB,sM, *];omega))
  rcases cI (decide (af<2147483648)) with h18|h18
  ·have T9:= @b6 ai (-2147483648) 2147483647
   let E6:EL:=E5++Zx 3 (tC (eF (nt (aZ (bK (-2147483648) h17) (eH 2147483647 h18)))))++ [aw T9,tC (eF (nt (aZ (bK (-2147483648) h17) (eH 2147483647 h18)))),tC (nt (aZ (bK (-2147483648) h17) (eH 2147483647 h18)))]
   rcases cI (decide (ai<(-2147483648))) with h20|h20
   ·exact (eE (d:= .bool false) (E6++ [tC (nt (dy (y:=decide (ai≤2147483647)) (bK (-2147483648) h20)))])).to (by clear E1 E2 E3 E4 E5 E6;(try simp only [cf,aB,sM] at*);(simp [aB,sM, *];omega))
   rcases cI (decide (ai<2147483648)) with h21|h21
   ·let E7:EL:=E6++ [tC (nt (aZ (bK (-2147483648) h20) (eH 2147483647 h21)))]
    by_cases h22:w=32
    ·subst h22
     exact (eE (d:= .bool true) (E7++(cr 10 520)++Zx 8 tF++ [tT])).to (by clear E1 E2 E3 E4 E5 E6 E7;(try simp only [cf,aB,sM] at*);(rw [ZB];simp [aB,sM, *];grind))
    let E8:EL:=E7++Zx 3 (tC (eF (aR h22)))++ [tC (aR h22)]++Zx 4 (tC (eF (aR h22)))
    by_cases h23:w=8
    ·subst h23
     have UG:= @b6 ai (-128) 127
     exact (eE (d:= .bool (decide ((-128)≤ai)&&decide (ai≤127))) (E8++ [tT,tT,tT,aw UG,tT,tT]++Zx 9 tF++ [tT])).to (by clear E1 E2 E3 E4 E5 E6 E7 E8;(try simp only [cf,aB,sM] at*);(rw [ZB];simp [aB,sM, *];grind))
    exact (eE (d:= .bool false) (E8++Zx 3 (tC (eT (aR h23)))++ [tC (eF (aR h22)),tC (aR h23),tC (aR h22)]++Zx 8 tF++ [tT])).to (by clear E1 E2 E3 E4 E5 E6 E7 E8;(try simp only [cf,aB,sM] at*);(simp [aB,sM, *];done))
   exact (eE (d:= .bool false) (E6++ [tC (nt (aZ (bK (-2147483648) h20) (eH 2147483647 h21)))])).to (by clear E1 E2 E3 E4 E5 E6;(try simp only [cf,aB,sM] at*);(simp [aB,sM, *];omega))
  exact (eE (d:= .bool false) (E5++Zx 4 (tC (eF (nt (aZ (bK (-2147483648) h17) (eH 2147483647 h18)))))++ [tC (nt (aZ (bK (-2147483648) h17) (eH 2147483647 h18))),tT])).to (by clear E1 E2 E3 E4 E5;(try simp only [cf,aB,sM] at*);(simp [aB,sM, *];omega))
 exact (eE (d:= .bool false) (E1++Zx 4 (tC (eF (nt h6)))++([tC (nt h6)]++cr 21 1589776))).to (by clear E1;(try simp only [cf,aB,sM] at*);(rw [ZB];simp [aB,sM, *];grind))
theorem CM:tR 10:=by
 intro op w ab ae aa af ai cc ho h TD
 have c0:= @dg op ho
 rw [eq_of_beq h] at c0
 generalize g2:bh op=r1 at c0
 generalize g4:bO op=r3 at c0
 have c5:= @D4 op w ab ae aa af ai cc 10 (rfl:true=true)
 let E1:EL:=([aw c0]++Zx 4 (tC (eF (nt TD)))++ [aw c5,tC (eF (nt TD)),tC (eF (nt TD)),.flat _ _ ep,tC (nt TD)])
 rcases cI (br [ak 0,ak 0,ak ab,ak ae,ak aa,aq af,aq 0,ak 0] [ak 0,ak 0,ak 0,ak 0,ak 0,aq 0,aq 0,ak 0]) with h6|h6
 ·have c7:= @eg ab
  generalize g9:ba ab=r8 at c7
  let E2:EL:=E1++Zx 3 (tC (eF (nt h6)))++ [aw c7,tC (eF (nt h6)),tC (nt h6)]
  cases r8
  ·exact (eE (d:= .bool false) (E2++(cr 21 1589776))).to (by clear E1 E2;(try simp only [cf,aB,sM] at*);(simp [aB,sM, *];done))
  have Tp:= @eg ae
  generalize g12:ba ae=TN at Tp
  let E3:EL:=E2++ [tT,tT,tT,aw Tp,tT,tF]
  cases TN
  ·exact (eE (d:= .bool false) (E3++(cr 16 49680))).to (by clear E1 E2 E3;(try simp only [cf,aB,sM] at*);(simp [aB,sM, *];done))
  have TF:= @eg aa
  generalize g15:ba aa=T4 at TF
  let E4:EL:=E3++ [tT,tT,tT,aw TF,tT,tF]
  cases T4
  ·exact (eE (d:= .bool false) (E4++(cr 11 1552))).to (by clear E1 E2 E3 E4;(try simp only [cf,aB,sM] at*);(simp [aB,sM, *];done))
  have TG:= @b6 af (-2147483648) 2147483647
  let E5:EL:=E4++ [tT,tT,tT,aw TG,tT,tF]
  rcases cI (decide (af<(-2147483648))) with h17|h17
  ·exact (eE (d:= .bool false) (E5++Zx 4 (tC (eF (nt (dy (y:=decide (af≤2147483647)) (bK (-2147483648) h17)))))++ [tC (nt (dy (y:=decide (af≤2147483647)) (bK (-2147483648) h17))),tT])).to (by clear E1 E2 E3 E4 E5;(try simp only [cf,aB,sM] at*);(simp [aB,sM, *];omega))
  rcases cI (decide (af<2147483648)) with h18|h18
  ·have T9:= @b6 ai (-2147483648) 2147483647
   let E6:EL:=E5++Zx 3 (tC (eF (nt (aZ (bK (-2147483648) h17) (eH 2147483647 h18)))))++ [aw T9,tC (eF (nt (aZ (bK (-2147483648) h17) (eH 2147483647 h18)))),tC (nt (aZ (bK (-2147483648) h17) (eH 2147483647 h18)))]
   rcases cI (decide (ai<(-2147483648))) with h20|h20
   ·exact (eE (d:= .bool false) (E6++ [tC (nt (dy (y:=decide (ai≤2147483647)) (bK (-2147483648) h20)))])).to (by clear E1 E2 E3 E4 E5 E6;(try simp only [cf,aB,sM] at*);(simp [aB,sM, *];omega))
   rcases cI (decide (ai<2147483648)) with h21|h21
   ·let E7:EL:=E6++ [tC (nt (aZ (bK (-2147483648) h20) (eH 2147483647 h21)))]
    by_cases h22:w=32
    ·subst h22
     have Ua:= @rD cc
     generalize g25:cT cc=r24 at Ua
     exact (eE (d:= .bool r24) (E7++(cr 10 520)++Zx 9 tF++ [tT,tT,tT,tT,aw Ua,tT])).to (by clear E1 E2 E3 E4 E5 E6 E7;(try simp only [cf,aB,sM] at*);(rw [ZB];simp [aB,sM, *];grind))
    let E8:EL:=E7++Zx 3 (tC (eF (aR h22)))++ [tC (aR h22)]++Zx 4 (tC (eF (aR h22)))
    by_cases h26:w=8
    ·subst h26
     have Uj:= @b6 ai (-128) 127
     let E9:EL:=E8++ [tT,tT,tT,aw Uj,tT,tT]++Zx 10 tF++ [tT]
     rcases cI (decide (ai<(-128))) with h28|h28
     ·exact (eE (d:= .bool false) (E9++Zx 3 (tC (eT (dy (y:=decide (ai≤127)) (bK (-128) h28))))++ [tC (dy (y:=decide (ai≤127)) (bK (-128) h28))])).to (by clear E1 E2 E3 E4 E5 E6 E7 E8 E9;(try simp only [cf,aB,sM] at*);(simp [aB,sM, *];omega))
     rcases cI (decide (ai<128)) with h29|h29
     ·have UX:= @rD cc
      generalize g32:cT cc=r31 at UX
      exact (eE (d:= .bool r31) (E9++Zx 3 (tC (eT (aZ (bK (-128) h28) (eH 127 h29))))++ [aw UX,tC (aZ (bK (-128) h28) (eH 127 h29))])).to (by clear E1 E2 E3 E4 E5 E6 E7 E8 E9;(try simp only [cf,aB,sM] at*);(rw [ZB];simp [aB,sM, *];grind))
     exact (eE (d:= .bool false) (E9++Zx 3 (tC (eT (aZ (bK (-128) h28) (eH 127 h29))))++ [tC (aZ (bK (-128) h28) (eH 127 h29))])).to (by clear E1 E2 E3 E4 E5 E6 E7 E8 E9;(try simp only [cf,aB,sM] at*);(simp [aB,sM, *];omega))
    exact (eE (d:= .bool false) (E8++Zx 3 (tC (eT (aR h26)))++ [tC (eF (aR h22)),tC (aR h26),tC (aR h22)]++Zx 9 tF++ [tT,tF,tF,tF,tF])).to (by clear E1 E2 E3 E4 E5 E6 E7 E8;(try simp only [cf,aB,sM] at*);(simp [aB,sM, *];done))
   exact (eE (d:= .bool false) (E6++ [tC (nt (aZ (bK (-2147483648) h20) (eH 2147483647 h21)))])).to (by clear E1 E2 E3 E4 E5 E6;(try simp only [cf,aB,sM] at*);(simp [aB,sM, *];omega))
  exact (eE (d:= .bool false) (E5++Zx 4 (tC (eF (nt (aZ (bK (-2147483648) h17) (eH 2147483647 h18)))))++ [tC (nt (aZ (bK (-2147483648) h17) (eH 2147483647 h18))),tT])).to (by clear E1 E2 E3 E4 E5;(try simp only [cf,aB,sM] at*);(simp [aB,sM, *];omega))
 exact (eE (d:= .bool false) (E1++Zx 4 (tC (eF (nt h6)))++([tC (nt h6)]++cr 21 1589776))).to (by clear E1;(try simp only [cf,aB,sM] at*);(rw [ZB];simp [aB,sM, *];grind))
theorem CL:tR 11:=by
 intro op w ab ae aa af ai cc ho h TD
 have c0:= @dg op ho
 rw [eq_of_beq h] at c0
 generalize g2:bh op=r1 at c0
 generalize g4:bO op=r3 at c0
 have c5:= @D3 op w ab ae aa af ai cc 11 (rfl:true=true)
 let E1:EL:=([aw c0]++Zx 4 (tC (eF (nt TD)))++ [aw c5,tC (eF (nt TD)),tC (eF (nt TD)),.flat _ _ ep,tC (nt TD)])
 rcases cI (br [ak 0,ak w,ak ab,ak ae,ak aa,aq af,aq ai,ak cc] [ak 0,ak 0,ak 0,ak 0,ak 0,aq 0,aq 0,ak 0]) with h6|h6
 ·have c7:= @eg ab
  generalize g9:ba ab=r8 at c7
  let E2:EL:=E1++Zx 3 (tC (eF (nt h6)))++ [aw c7,tC (eF (nt h6)),tC (nt h6)]
  cases r8
  ·exact (eE (d:= .bool false) (E2++(cr 21 1589776))).to (by clear E1 E2;(try simp only [cf,aB,sM] at*);(simp [aB,sM, *];done))
  have Tp:= @eg ae
  generalize g12:ba ae=TN at Tp
  let E3:EL:=E2++ [tT,tT,tT,aw Tp,tT,tF]
  cases TN
  ·exact (eE (d:= .bool false) (E3++(cr 16 49680))).to (by clear E1 E2 E3;(try simp only [cf,aB,sM] at*);(simp [aB,sM, *];done))
  have TF:= @eg aa
  generalize g15:ba aa=T4 at TF
  let E4:EL:=E3++ [tT,tT,tT,aw TF,tT,tF]
  cases T4
  ·exact (eE (d:= .bool false) (E4++(cr 11 1552))).to (by clear E1 E2 E3 E4;(try simp only [cf,aB,sM] at*);(simp [aB,sM, *];done))
  have TG:= @b6 af (-2147483648) 2147483647
  let E5:EL:=E4++ [tT,tT,tT,aw TG,tT,tF]
  rcases cI (decide (af<(-2147483648))) with h17|h17
  ·exact (eE (d:= .bool false) (E5++Zx 4 (tC (eF (nt (dy (y:=decide (af≤2147483647)) (bK (-2147483648) h17)))))++ [tC (nt (dy (y:=decide (af≤2147483647)) (bK (-2147483648) h17))),tT])).to (by clear E1 E2 E3 E4 E5;(try simp only [cf,aB,sM] at*);(simp [aB,sM, *];omega))
  rcases cI (decide (af<2147483648)) with h18|h18
  ·have T9:= @b6 ai (-2147483648) 2147483647
   let E6:EL:=E5++Zx 3 (tC (eF (nt (aZ (bK (-2147483648) h17) (eH 2147483647 h18)))))++ [aw T9,tC (eF (nt (aZ (bK (-2147483648) h17) (eH 2147483647 h18)))),tC (nt (aZ (bK (-2147483648) h17) (eH 2147483647 h18)))]
   rcases cI (decide (ai<(-2147483648))) with h20|h20
   ·exact (eE (d:= .bool false) (E6++ [tC (nt (dy (y:=decide (ai≤2147483647)) (bK (-2147483648) h20)))])).to (by clear E1 E2 E3 E4 E5 E6;(try simp only [cf,aB,sM] at*);(simp [aB,sM, *];omega))
   rcases cI (decide (ai<2147483648)) with h21|h21
   ·let E7:EL:=E6++ [tC (nt (aZ (bK (-2147483648) h20) (eH 2147483647 h21)))]
    by_cases h22:w=32
    ·subst h22
     exact (eE (d:= .bool true) (E7++(cr 10 520)++Zx 10 tF)).to (by clear E1 E2 E3 E4 E5 E6 E7;(try simp only [cf,aB,sM] at*);(rw [ZB];simp [aB,sM, *];grind))
    let E8:EL:=E7++Zx 3 (tC (eF (aR h22)))++ [tC (aR h22)]++Zx 4 (tC (eF (aR h22)))
    by_cases h23:w=8
    ·subst h23
     have UG:= @b6 ai (-128) 127
     exact (eE (d:= .bool true) (E8++ [tT,tT,tT,aw UG,tT,tT]++Zx 11 tF)).to (by clear E1 E2 E3 E4 E5 E6 E7 E8;(try simp only [cf,aB,sM] at*);(rw [ZB];simp [aB,sM, *];grind))
    exact (eE (d:= .bool true) (E8++Zx 3 (tC (eT (aR h23)))++ [tC (eF (aR h22)),tC (aR h23),tC (aR h22)]++Zx 10 tF)).to (by clear E1 E2 E3 E4 E5 E6 E7 E8;(try simp only [cf,aB,sM] at*);(rw [ZB];simp [aB,sM, *];grind))
   exact (eE (d:= .bool false) (E6++ [tC (nt (aZ (bK (-2147483648) h20) (eH 2147483647 h21)))])).to (by clear E1 E2 E3 E4 E5 E6;(try simp only [cf,aB,sM] at*);(simp [aB,sM, *];omega))
  exact (eE (d:= .bool false) (E5++Zx 4 (tC (eF (nt (aZ (bK (-2147483648) h17) (eH 2147483647 h18)))))++ [tC (nt (aZ (bK (-2147483648) h17) (eH 2147483647 h18))),tT])).to (by clear E1 E2 E3 E4 E5;(try simp only [cf,aB,sM] at*);(simp [aB,sM, *];omega))
 exact (eE (d:= .bool false) (E1++Zx 4 (tC (eF (nt h6)))++([tC (nt h6)]++cr 21 1589776))).to (by clear E1;(try simp only [cf,aB,sM] at*);(rw [ZB];simp [aB,sM, *];grind))
theorem kO:∀n:Fin 32,aC (n.val:Int)=1∨aC (n.val:Int)=2∨aC (n.val:Int)=3∨aC (n.val:Int)=4∨aC (n.val:Int)=5∨aC (n.val:Int)=6∨aC (n.val:Int)=7∨aC (n.val:Int)=8∨aC (n.val:Int)=9∨aC (n.val:Int)=10∨aC (n.val:Int)=11:=by decide+kernel
theorem bg (op w ab ae aa af ai cc:Int) (ho:op≤127):aQ Zy 72 [xD op w ab ae aa af ai cc] (ax (bL op w ab ae aa af ai cc)):=by
 by_cases TD:0≤op∧op≤31
 ·have e:op=(((⟨op.toNat,by omega⟩:Fin 32).val:Nat):Int):=by simp;omega
  have hr:=kO ⟨op.toNat,by omega⟩
  rw [← e] at hr
  have UN:decide (0≤op∧op≤31)=true:=cq TD
  rcases hr with h|h|h|h|h|h|h|h|h|h|h
  ·exact Hw _ _ _ _ _ _ _ _ ho (by rw [h];rfl) UN
  ·exact Hv _ _ _ _ _ _ _ _ ho (by rw [h];rfl) UN
  ·exact Hu _ _ _ _ _ _ _ _ ho (by rw [h];rfl) UN
  ·exact Ht _ _ _ _ _ _ _ _ ho (by rw [h];rfl) UN
  ·exact Hs _ _ _ _ _ _ _ _ ho (by rw [h];rfl) UN
  ·exact Hr _ _ _ _ _ _ _ _ ho (by rw [h];rfl) UN
  ·exact Hq _ _ _ _ _ _ _ _ ho (by rw [h];rfl) UN
  ·exact Hp _ _ _ _ _ _ _ _ ho (by rw [h];rfl) UN
  ·exact Ho _ _ _ _ _ _ _ _ ho (by rw [h];rfl) UN
  ·exact CM _ _ _ _ _ _ _ _ ho (by rw [h];rfl) UN
  ·exact CL _ _ _ _ _ _ _ _ ho (by rw [h];rfl) UN
 ·exact Hx _ _ _ _ _ _ _ _ ho (by rw [(kl (op:=op) (by omega)).1];rfl) (bM TD)
theorem oX (op w ab ae aa af ai cc:Int) (hc:(bq op==1)=true):aQ Zy 60 ([xD op w ab ae aa af ai cc]) (xD op w ab ae 0 0 0 0):=by
 have c0:= @aH op
 rw [show (bq op)=1 from (eq_of_beq hc)] at c0
 exact (L4 (d:=(xD op w ab ae 0 0 0 0)) ([aw c0]++cr 27 26851219)).to (by simp [wk,a7])
theorem wP (op w ab ae aa af ai cc:Int) (hc:(bq op==2)=true):aQ Zy 60 ([xD op w ab ae aa af ai cc]) (xD op w ab 0 0 0 ai 0):=by
 have c0:= @aH op
 rw [show (bq op)=2 from (eq_of_beq hc)] at c0
 exact (L4 (d:=(xD op w ab 0 0 0 ai 0)) ([aw c0]++cr 27 27150447)).to (by simp [wk,a7])
theorem wO (op w ab ae aa af ai cc:Int) (hc:(bq op==3)=true):aQ Zy 60 ([xD op w ab ae aa af ai cc]) (xD op w ab 0 0 0 ai 0):=by
 have c0:= @aH op
 rw [show (bq op)=3 from (eq_of_beq hc)] at c0
 exact (L4 (d:=(xD op w ab 0 0 0 ai 0)) ([aw c0]++cr 27 27149935)).to (by simp [wk,a7])
theorem wN (op w ab ae aa af ai cc:Int) (hc:(bq op==4)=true):aQ Zy 60 ([xD op w ab ae aa af ai cc]) (xD op w ab 0 0 0 0 0):=by
 have c0:= @aH op
 rw [show (bq op)=4 from (eq_of_beq hc)] at c0
 exact (L4 (d:=(xD op w ab 0 0 0 0 0)) ([aw c0]++cr 27 26850927)).to (by simp [wk,a7])
theorem wM (op w ab ae aa af ai cc:Int) (hc:(bq op==5)=true):aQ Zy 60 ([xD op w ab ae aa af ai cc]) (xD op w ab ae 0 0 0 cc):=by
 have c0:= @aH op
 rw [show (bq op)=5 from (eq_of_beq hc)] at c0
 exact (L4 (d:=(xD op w ab ae 0 0 0 cc)) ([aw c0]++cr 27 31569807)).to (by simp [wk,a7])
theorem wL (op w ab ae aa af ai cc:Int) (hc:(bq op==6)=true):aQ Zy 60 ([xD op w ab ae aa af ai cc]) (xD op w ab 0 aa af 0 0):=by
 have c0:= @aH op
 rw [show (bq op)=6 from (eq_of_beq hc)] at c0
 exact (L4 (d:=(xD op w ab 0 aa af 0 0)) ([aw c0]++cr 27 102348399)).to (by simp [wk,a7])
theorem wK (op w ab ae aa af ai cc:Int) (hc:(bq op==7)=true):aQ Zy 60 ([xD op w ab ae aa af ai cc]) (xD op w 0 ae aa af 0 0):=by
 have c0:= @aH op
 rw [show (bq op)=7 from (eq_of_beq hc)] at c0
 exact (L4 (d:=(xD op w 0 ae aa af 0 0)) ([aw c0]++cr 27 93960045)).to (by simp [wk,a7])
theorem wJ (op w ab ae aa af ai cc:Int) (hc:(bq op==8)=true):aQ Zy 60 ([xD op w ab ae aa af ai cc]) (xD op w 0 0 0 0 ai 0):=by
 have c0:= @aH op
 rw [show (bq op)=8 from (eq_of_beq hc)] at c0
 exact (L4 (d:=(xD op w 0 0 0 0 ai 0)) ([aw c0]++cr 27 27145837)).to (by simp [wk,a7])
theorem wI (op w ab ae aa af ai cc:Int) (hc:(bq op==9)=true):aQ Zy 60 ([xD op w ab ae aa af ai cc]) (xD op w 0 0 0 0 ai cc):=by
 have c0:= @aH op
 rw [show (bq op)=9 from (eq_of_beq hc)] at c0
 exact (L4 (d:=(xD op w 0 0 0 0 ai cc)) ([aw c0]++cr 27 31307373)).to (by simp [wk,a7])
theorem uj (op w ab ae aa af ai cc:Int) (hc:(bq op==10)=true):aQ Zy 60 ([xD op w ab ae aa af ai cc]) (xD op 0 0 0 0 0 0 0):=by
 have c0:= @aH op
 rw [show (bq op)=10 from (eq_of_beq hc)] at c0
 exact (L4 (d:=(xD op 0 0 0 0 0 0 0)) ([aw c0]++cr 27 26850924)).to (by simp [wk,a7])
theorem BW (op w ab ae aa af ai cc:Int) (h:(aC op==0)=true) (hc:(bq op==0)=true):aQ Zy 41 ([xD op w ab ae aa af ai cc]) (ax (bL op w ab ae aa af ai cc)):=by
 have c0:= @aH op
 rw [eq_of_beq hc] at c0
 exact (gl (d:= .bool false) ([aw c0]++cr 31 1627931152)).to (by (try simp only [cf,aB,a9] at*);(simp [aB,a9, *];done))
theorem BV (op w ab ae aa af ai cc:Int) (h:(aC op==1)=true) (hc:(bq op==1)=true):aQ Zy 41 ([xD op w ab ae aa af ai cc]) (ax (bL op w ab ae aa af ai cc)):=by
 have c0:= @aH op
 rw [eq_of_beq hc] at c0
 have c1:= @oX op w ab ae aa af ai cc (cD 1 true (eq_of_beq hc))
 let E1:EL:= [aw c0,tT,tT,tT,aw c1,tT,.flat _ _ ep,tF]
 rcases cI (br [ak op,ak w,ak ab,ak ae,ak aa,aq af,aq ai,ak cc] [ak op,ak w,ak ab,ak ae,ak 0,aq 0,aq 0,ak 0]) with h2|h2
 ·have c3:= @dq ab
  generalize g5:ba ab=r4 at c3
  let E2:EL:=E1++Zx 3 (tC (eF (nt h2)))++ [aw c3,tC (eF (nt h2)),tC (nt h2)]
  cases r4
  ·exact (gl (d:= .bool false) (E2++(cr 21 1589776))).to (by clear E1 E2;(try simp only [cf,aB,a9] at*);(simp [aB,a9, *];done))
  have c6:= @dq ae
  generalize g8:ba ae=r7 at c6
  let E3:EL:=E2++ [tT,tT,tT,aw c6,tT,tF]
  cases r7
  ·exact (gl (d:= .bool false) (E3++(cr 16 49680))).to (by clear E1 E2 E3;(try simp only [cf,aB,a9] at*);(simp [aB,a9, *];done))
  have c9:= @dq aa
  generalize g11:ba aa=T2 at c9
  let E4:EL:=E3++ [tT,tT,tT,aw c9,tT,tF]
  cases T2
  ·exact (gl (d:= .bool false) (E4++(cr 11 1552))).to (by clear E1 E2 E3 E4;(try simp only [cf,aB,a9] at*);(simp [aB,a9, *];done))
  have Tx:= @dX af
  rcases cI (decide ((-2147483648)≤af∧af≤2147483647)) with h13|h13
  ·have T0:= @dX ai
   let E5:EL:=E4++ [tT,tT,tT,aw Tx,tT,tF]++Zx 3 (tC (eF (nt h13)))++ [aw T0,tC (eF (nt h13)),tC (nt h13)]
   rcases cI (decide ((-2147483648)≤ai∧ai≤2147483647)) with h15|h15
   ·have TG:= @lF w
    generalize g18:aP w=r17 at TG
    exact (gl (d:= .bool r17) (E5++ [tC (nt h15),tT,tT,aw TG])).to (by clear E1 E2 E3 E4 E5;(try simp only [cf,aB,a9] at*);(rw [ZB];simp [aB,a9, *];grind))
   exact (gl (d:= .bool false) (E5++ [tC (nt h15)])).to (by clear E1 E2 E3 E4 E5;(try simp only [cf,aB,a9] at*);(simp [aB,a9, *];done))
  exact (gl (d:= .bool false) (E4++ [tT,tT,tT,aw Tx,tT,tF]++Zx 4 (tC (eF (nt h13)))++ [tC (nt h13),tT])).to (by clear E1 E2 E3 E4;(try simp only [cf,aB,a9] at*);(simp [aB,a9, *];done))
 exact (gl (d:= .bool false) (E1++Zx 4 (tC (eF (nt h2)))++([tC (nt h2)]++cr 21 1589776))).to (by clear E1;(try simp only [cf,aB,a9] at*);(rw [ZB];simp [aB,a9, *];grind))
theorem BU (op w ab ae aa af ai cc:Int) (h:(aC op==2)=true) (hc:(bq op==1)=true):aQ Zy 41 ([xD op w ab ae aa af ai cc]) (ax (bL op w ab ae aa af ai cc)):=by
 have c0:= @aH op
 rw [eq_of_beq hc] at c0
 have c1:= @oX op w ab ae aa af ai cc (cD 1 true (eq_of_beq hc))
 let E1:EL:= [aw c0,tT,tT,tT,aw c1,tT,.flat _ _ ep,tF]
 rcases cI (br [ak op,ak w,ak ab,ak ae,ak aa,aq af,aq ai,ak cc] [ak op,ak w,ak ab,ak ae,ak 0,aq 0,aq 0,ak 0]) with h2|h2
 ·have c3:= @dq ab
  generalize g5:ba ab=r4 at c3
  let E2:EL:=E1++Zx 3 (tC (eF (nt h2)))++ [aw c3,tC (eF (nt h2)),tC (nt h2)]
  cases r4
  ·exact (gl (d:= .bool false) (E2++(cr 21 1589776))).to (by clear E1 E2;(try simp only [cf,aB,a9] at*);(simp [aB,a9, *];done))
  have c6:= @dq ae
  generalize g8:ba ae=r7 at c6
  let E3:EL:=E2++ [tT,tT,tT,aw c6,tT,tF]
  cases r7
  ·exact (gl (d:= .bool false) (E3++(cr 16 49680))).to (by clear E1 E2 E3;(try simp only [cf,aB,a9] at*);(simp [aB,a9, *];done))
  have c9:= @dq aa
  generalize g11:ba aa=T2 at c9
  let E4:EL:=E3++ [tT,tT,tT,aw c9,tT,tF]
  cases T2
  ·exact (gl (d:= .bool false) (E4++(cr 11 1552))).to (by clear E1 E2 E3 E4;(try simp only [cf,aB,a9] at*);(simp [aB,a9, *];done))
  have Tx:= @dX af
  rcases cI (decide ((-2147483648)≤af∧af≤2147483647)) with h13|h13
  ·have T0:= @dX ai
   let E5:EL:=E4++ [tT,tT,tT,aw Tx,tT,tF]++Zx 3 (tC (eF (nt h13)))++ [aw T0,tC (eF (nt h13)),tC (nt h13)]
   rcases cI (decide ((-2147483648)≤ai∧ai≤2147483647)) with h15|h15
   ·have TG:= @lF w
    generalize g18:aP w=r17 at TG
    exact (gl (d:= .bool r17) (E5++ [tC (nt h15),tT,tT,aw TG])).to (by clear E1 E2 E3 E4 E5;(try simp only [cf,aB,a9] at*);(rw [ZB];simp [aB,a9, *];grind))
   exact (gl (d:= .bool false) (E5++ [tC (nt h15)])).to (by clear E1 E2 E3 E4 E5;(try simp only [cf,aB,a9] at*);(simp [aB,a9, *];done))
  exact (gl (d:= .bool false) (E4++ [tT,tT,tT,aw Tx,tT,tF]++Zx 4 (tC (eF (nt h13)))++ [tC (nt h13),tT])).to (by clear E1 E2 E3 E4;(try simp only [cf,aB,a9] at*);(simp [aB,a9, *];done))
 exact (gl (d:= .bool false) (E1++Zx 4 (tC (eF (nt h2)))++([tC (nt h2)]++cr 21 1589776))).to (by clear E1;(try simp only [cf,aB,a9] at*);(rw [ZB];simp [aB,a9, *];grind))
theorem BT (op w ab ae aa af ai cc:Int) (h:(aC op==3)=true) (hc:(bq op==2)=true):aQ Zy 41 ([xD op w ab ae aa af ai cc]) (ax (bL op w ab ae aa af ai cc)):=by
 have c0:= @aH op
 rw [eq_of_beq hc] at c0
 have c1:= @wP op w ab ae aa af ai cc (cD 2 true (eq_of_beq hc))
 let E1:EL:= [aw c0,tT,tT,tT,aw c1,tT,.flat _ _ ep,tF]
 rcases cI (br [ak op,ak w,ak ab,ak ae,ak aa,aq af,aq ai,ak cc] [ak op,ak w,ak ab,ak 0,ak 0,aq 0,aq ai,ak 0]) with h2|h2
 ·have c3:= @dq ab
  generalize g5:ba ab=r4 at c3
  let E2:EL:=E1++Zx 3 (tC (eF (nt h2)))++ [aw c3,tC (eF (nt h2)),tC (nt h2)]
  cases r4
  ·exact (gl (d:= .bool false) (E2++(cr 21 1589776))).to (by clear E1 E2;(try simp only [cf,aB,a9,aX] at*);(simp [aB,a9,aX, *];done))
  have c6:= @dq ae
  generalize g8:ba ae=r7 at c6
  let E3:EL:=E2++ [tT,tT,tT,aw c6,tT,tF]
  cases r7
  ·exact (gl (d:= .bool false) (E3++(cr 16 49680))).to (by clear E1 E2 E3;(try simp only [cf,aB,a9,aX] at*);(simp [aB,a9,aX, *];done))
  have c9:= @dq aa
  generalize g11:ba aa=T2 at c9
  let E4:EL:=E3++ [tT,tT,tT,aw c9,tT,tF]
  cases T2
  ·exact (gl (d:= .bool false) (E4++(cr 11 1552))).to (by clear E1 E2 E3 E4;(try simp only [cf,aB,a9,aX] at*);(simp [aB,a9,aX, *];done))
  have Tx:= @dX af
  rcases cI (decide ((-2147483648)≤af∧af≤2147483647)) with h13|h13
  ·have T0:= @dX ai
   let E5:EL:=E4++ [tT,tT,tT,aw Tx,tT,tF]++Zx 3 (tC (eF (nt h13)))++ [aw T0,tC (eF (nt h13)),tC (nt h13)]
   rcases cI (decide ((-2147483648)≤ai∧ai≤2147483647)) with h15|h15
   ·have TG:= @lF w
    generalize g18:aP w=r17 at TG
    exact (gl (d:= .bool r17) (E5++ [tC (nt h15),tF,tT,tT,aw TG])).to (by clear E1 E2 E3 E4 E5;(try simp only [cf,aB,a9,aX] at*);(rw [ZB];simp [aB,a9,aX, *];grind))
   exact (gl (d:= .bool false) (E5++ [tC (nt h15)])).to (by clear E1 E2 E3 E4 E5;(try simp only [cf,aB,a9,aX] at*);(simp [aB,a9,aX, *];done))
  exact (gl (d:= .bool false) (E4++ [tT,tT,tT,aw Tx,tT,tF]++Zx 4 (tC (eF (nt h13)))++ [tC (nt h13),tT])).to (by clear E1 E2 E3 E4;(try simp only [cf,aB,a9,aX] at*);(simp [aB,a9,aX, *];done))
 exact (gl (d:= .bool false) (E1++Zx 4 (tC (eF (nt h2)))++([tC (nt h2)]++cr 21 1589776))).to (by clear E1;(try simp only [cf,aB,a9,aX] at*);(rw [ZB];simp [aB,a9,aX, *];grind))
theorem BS (op w ab ae aa af ai cc:Int) (h:(aC op==4)=true) (hc:(bq op==3)=true):aQ Zy 41 ([xD op w ab ae aa af ai cc]) (ax (bL op w ab ae aa af ai cc)):=by
 have c0:= @aH op
 rw [eq_of_beq hc] at c0
 have c1:= @wO op w ab ae aa af ai cc (cD 3 true (eq_of_beq hc))
 let E1:EL:= [aw c0,tT,tT,tT,aw c1,tT,.flat _ _ ep,tF]
 rcases cI (br [ak op,ak w,ak ab,ak ae,ak aa,aq af,aq ai,ak cc] [ak op,ak w,ak ab,ak 0,ak 0,aq 0,aq ai,ak 0]) with h2|h2
 ·have c3:= @dq ab
  generalize g5:ba ab=r4 at c3
  let E2:EL:=E1++Zx 3 (tC (eF (nt h2)))++ [aw c3,tC (eF (nt h2)),tC (nt h2)]
  cases r4
  ·exact (gl (d:= .bool false) (E2++(cr 21 1589776))).to (by clear E1 E2;(try simp only [cf,aB,a9,aX] at*);(simp [aB,a9,aX, *];done))
  have c6:= @dq ae
  generalize g8:ba ae=r7 at c6
  let E3:EL:=E2++ [tT,tT,tT,aw c6,tT,tF]
  cases r7
  ·exact (gl (d:= .bool false) (E3++(cr 16 49680))).to (by clear E1 E2 E3;(try simp only [cf,aB,a9,aX] at*);(simp [aB,a9,aX, *];done))
  have c9:= @dq aa
  generalize g11:ba aa=T2 at c9
  let E4:EL:=E3++ [tT,tT,tT,aw c9,tT,tF]
  cases T2
  ·exact (gl (d:= .bool false) (E4++(cr 11 1552))).to (by clear E1 E2 E3 E4;(try simp only [cf,aB,a9,aX] at*);(simp [aB,a9,aX, *];done))
  have Tx:= @dX af
  let E5:EL:=E4++ [tT,tT,tT,aw Tx,tT,tF]
  rcases cI (decide ((-2147483648)≤af∧af≤2147483647)) with h13|h13
  ·have T0:= @dX ai
   let E6:EL:=E5++Zx 3 (tC (eF (nt h13)))++ [aw T0,tC (eF (nt h13)),tC (nt h13)]
   rcases cI (decide ((-2147483648)≤ai∧ai≤2147483647)) with h15|h15
   ·have TG:= @lF w
    generalize g18:aP w=r17 at TG
    let E7:EL:=E6++ [tC (nt h15),tF,tF,tF,tT,aw TG]
    cases r17
    ·exact (gl (d:= .bool false) (E7++Zx 11 tF)).to (by clear E1 E2 E3 E4 E5 E6 E7;(try simp only [cf,aB,a9,aX] at*);(simp [aB,a9,aX, *];done))
    rcases cI (decide (ai<0)) with h19|h19
    ·exact (gl (d:= .bool false) (E7++ [tT,tT,tT,tT]++Zx 6 (tC (eT (bK 0 h19)))++ [tC (bK 0 h19)])).to (by clear E1 E2 E3 E4 E5 E6 E7;(try simp only [cf,aB,a9,aX] at*);(simp [aB,a9,aX, *];omega))
    exact (gl (d:= .bool (decide (ai<aaY.wrap aaY.i64 w))) (E7++ [tT,tT,tT,tT]++Zx 6 (tC (eT (bK 0 h19)))++ [tC (bK 0 h19)])).to (by clear E1 E2 E3 E4 E5 E6 E7;(try simp only [cf,aB,a9,aX] at*);(rw [ZB];simp [aB,a9,aX, *];grind))
   exact (gl (d:= .bool false) (E6++ [tC (nt h15)])).to (by clear E1 E2 E3 E4 E5 E6;(try simp only [cf,aB,a9,aX] at*);(simp [aB,a9,aX, *];done))
  exact (gl (d:= .bool false) (E5++Zx 4 (tC (eF (nt h13)))++ [tC (nt h13),tT])).to (by clear E1 E2 E3 E4 E5;(try simp only [cf,aB,a9,aX] at*);(simp [aB,a9,aX, *];done))
 exact (gl (d:= .bool false) (E1++Zx 4 (tC (eF (nt h2)))++([tC (nt h2)]++cr 21 1589776))).to (by clear E1;(try simp only [cf,aB,a9,aX] at*);(rw [ZB];simp [aB,a9,aX, *];grind))
theorem BR (op w ab ae aa af ai cc:Int) (h:(aC op==5)=true) (hc:(bq op==4)=true):aQ Zy 41 ([xD op w ab ae aa af ai cc]) (ax (bL op w ab ae aa af ai cc)):=by
 have c0:= @aH op
 rw [eq_of_beq hc] at c0
 have c1:= @wN op w ab ae aa af ai cc (cD 4 true (eq_of_beq hc))
 let E1:EL:= [aw c0,tT,tT,tT,aw c1,tT,.flat _ _ ep,tF]
 rcases cI (br [ak op,ak w,ak ab,ak ae,ak aa,aq af,aq ai,ak cc] [ak op,ak w,ak ab,ak 0,ak 0,aq 0,aq 0,ak 0]) with h2|h2
 ·have c3:= @dq ab
  generalize g5:ba ab=r4 at c3
  let E2:EL:=E1++Zx 3 (tC (eF (nt h2)))++ [aw c3,tC (eF (nt h2)),tC (nt h2)]
  cases r4
  ·exact (gl (d:= .bool false) (E2++(cr 21 1589776))).to (by clear E1 E2;(try simp only [cf,aB,a9,aX] at*);(simp [aB,a9,aX, *];done))
  have c6:= @dq ae
  generalize g8:ba ae=r7 at c6
  let E3:EL:=E2++ [tT,tT,tT,aw c6,tT,tF]
  cases r7
  ·exact (gl (d:= .bool false) (E3++(cr 16 49680))).to (by clear E1 E2 E3;(try simp only [cf,aB,a9,aX] at*);(simp [aB,a9,aX, *];done))
  have c9:= @dq aa
  generalize g11:ba aa=T2 at c9
  let E4:EL:=E3++ [tT,tT,tT,aw c9,tT,tF]
  cases T2
  ·exact (gl (d:= .bool false) (E4++(cr 11 1552))).to (by clear E1 E2 E3 E4;(try simp only [cf,aB,a9,aX] at*);(simp [aB,a9,aX, *];done))
  have Tx:= @dX af
  rcases cI (decide ((-2147483648)≤af∧af≤2147483647)) with h13|h13
  ·have T0:= @dX ai
   let E5:EL:=E4++ [tT,tT,tT,aw Tx,tT,tF]++Zx 3 (tC (eF (nt h13)))++ [aw T0,tC (eF (nt h13)),tC (nt h13)]
   rcases cI (decide ((-2147483648)≤ai∧ai≤2147483647)) with h15|h15
   ·have TG:= @lF w
    generalize g18:aP w=r17 at TG
    exact (gl (d:= .bool r17) (E5++ [tC (nt h15),tF,tF,tT,aw TG])).to (by clear E1 E2 E3 E4 E5;(try simp only [cf,aB,a9,aX] at*);(rw [ZB];simp [aB,a9,aX, *];grind))
   exact (gl (d:= .bool false) (E5++ [tC (nt h15)])).to (by clear E1 E2 E3 E4 E5;(try simp only [cf,aB,a9,aX] at*);(simp [aB,a9,aX, *];done))
  exact (gl (d:= .bool false) (E4++ [tT,tT,tT,aw Tx,tT,tF]++Zx 4 (tC (eF (nt h13)))++ [tC (nt h13),tT])).to (by clear E1 E2 E3 E4;(try simp only [cf,aB,a9,aX] at*);(simp [aB,a9,aX, *];done))
 exact (gl (d:= .bool false) (E1++Zx 4 (tC (eF (nt h2)))++([tC (nt h2)]++cr 21 1589776))).to (by clear E1;(try simp only [cf,aB,a9,aX] at*);(rw [ZB];simp [aB,a9,aX, *];grind))
theorem BQ (op w ab ae aa af ai cc:Int) (h:(aC op==6)=true) (hc:(bq op==5)=true):aQ Zy 41 ([xD op w ab ae aa af ai cc]) (ax (bL op w ab ae aa af ai cc)):=by
 have c0:= @aH op
 rw [eq_of_beq hc] at c0
 have c1:= @wM op w ab ae aa af ai cc (cD 5 true (eq_of_beq hc))
 let E1:EL:= [aw c0,tT,tT,tT,aw c1,tT,.flat _ _ ep,tF]
 rcases cI (br [ak op,ak w,ak ab,ak ae,ak aa,aq af,aq ai,ak cc] [ak op,ak w,ak ab,ak ae,ak 0,aq 0,aq 0,ak cc]) with h2|h2
 ·have c3:= @dq ab
  generalize g5:ba ab=r4 at c3
  let E2:EL:=E1++Zx 3 (tC (eF (nt h2)))++ [aw c3,tC (eF (nt h2)),tC (nt h2)]
  cases r4
  ·exact (gl (d:= .bool false) (E2++(cr 21 1589776))).to (by clear E1 E2;(try simp only [cf,aB,a9] at*);(simp [aB,a9, *];done))
  have c6:= @dq ae
  generalize g8:ba ae=r7 at c6
  let E3:EL:=E2++ [tT,tT,tT,aw c6,tT,tF]
  cases r7
  ·exact (gl (d:= .bool false) (E3++(cr 16 49680))).to (by clear E1 E2 E3;(try simp only [cf,aB,a9] at*);(simp [aB,a9, *];done))
  have c9:= @dq aa
  generalize g11:ba aa=T2 at c9
  let E4:EL:=E3++ [tT,tT,tT,aw c9,tT,tF]
  cases T2
  ·exact (gl (d:= .bool false) (E4++(cr 11 1552))).to (by clear E1 E2 E3 E4;(try simp only [cf,aB,a9] at*);(simp [aB,a9, *];done))
  have Tx:= @dX af
  let E5:EL:=E4++ [tT,tT,tT,aw Tx,tT,tF]
  rcases cI (decide ((-2147483648)≤af∧af≤2147483647)) with h13|h13
  ·have T0:= @dX ai
   let E6:EL:=E5++Zx 3 (tC (eF (nt h13)))++ [aw T0,tC (eF (nt h13)),tC (nt h13)]
   rcases cI (decide ((-2147483648)≤ai∧ai≤2147483647)) with h15|h15
   ·have TG:= @lF w
    generalize g18:aP w=r17 at TG
    cases r17
    ·exact (gl (d:= .bool false) (E6++ [tC (nt h15),tF,tF,tF,tF,tT,aw TG,tF,tF,tF,tF])).to (by clear E1 E2 E3 E4 E5 E6;(try simp only [cf,aB,a9] at*);(simp [aB,a9, *];done))
    have T9:= @Ch cc
    generalize g21:cT cc=r20 at T9
    exact (gl (d:= .bool r20) (E6++ [tC (nt h15),tF,tF,tF,tF,tT,aw TG,tT,tT,tT,aw T9,tT])).to (by clear E1 E2 E3 E4 E5 E6;(try simp only [cf,aB,a9] at*);(rw [ZB];simp [aB,a9, *];grind))
   exact (gl (d:= .bool false) (E6++ [tC (nt h15)])).to (by clear E1 E2 E3 E4 E5 E6;(try simp only [cf,aB,a9] at*);(simp [aB,a9, *];done))
  exact (gl (d:= .bool false) (E5++Zx 4 (tC (eF (nt h13)))++ [tC (nt h13),tT])).to (by clear E1 E2 E3 E4 E5;(try simp only [cf,aB,a9] at*);(simp [aB,a9, *];done))
 exact (gl (d:= .bool false) (E1++Zx 4 (tC (eF (nt h2)))++([tC (nt h2)]++cr 21 1589776))).to (by clear E1;(try simp only [cf,aB,a9] at*);(rw [ZB];simp [aB,a9, *];grind))
theorem BP (op w ab ae aa af ai cc:Int) (h:(aC op==7)=true) (hc:(bq op==6)=true):aQ Zy 41 ([xD op w ab ae aa af ai cc]) (ax (bL op w ab ae aa af ai cc)):=by
 have c0:= @aH op
 rw [eq_of_beq hc] at c0
 have c1:= @wL op w ab ae aa af ai cc (cD 6 true (eq_of_beq hc))
 let E1:EL:= [aw c0,tT,tT,tT,aw c1,tT,.flat _ _ ep,tF]
 rcases cI (br [ak op,ak w,ak ab,ak ae,ak aa,aq af,aq ai,ak cc] [ak op,ak w,ak ab,ak 0,ak aa,aq af,aq 0,ak 0]) with h2|h2
 ·have c3:= @dq ab
  generalize g5:ba ab=r4 at c3
  let E2:EL:=E1++Zx 3 (tC (eF (nt h2)))++ [aw c3,tC (eF (nt h2)),tC (nt h2)]
  cases r4
  ·exact (gl (d:= .bool false) (E2++(cr 21 1589776))).to (by clear E1 E2;(try simp only [cf,aB,a9] at*);(simp [aB,a9, *];done))
  have c6:= @dq ae
  generalize g8:ba ae=r7 at c6
  let E3:EL:=E2++ [tT,tT,tT,aw c6,tT,tF]
  cases r7
  ·exact (gl (d:= .bool false) (E3++(cr 16 49680))).to (by clear E1 E2 E3;(try simp only [cf,aB,a9] at*);(simp [aB,a9, *];done))
  have c9:= @dq aa
  generalize g11:ba aa=T2 at c9
  let E4:EL:=E3++ [tT,tT,tT,aw c9,tT,tF]
  cases T2
  ·exact (gl (d:= .bool false) (E4++(cr 11 1552))).to (by clear E1 E2 E3 E4;(try simp only [cf,aB,a9] at*);(simp [aB,a9, *];done))
  have Tx:= @dX af
  rcases cI (decide ((-2147483648)≤af∧af≤2147483647)) with h13|h13
  ·have T0:= @dX ai
   let E5:EL:=E4++ [tT,tT,tT,aw Tx,tT,tF]++Zx 3 (tC (eF (nt h13)))++ [aw T0,tC (eF (nt h13)),tC (nt h13)]
   rcases cI (decide ((-2147483648)≤ai∧ai≤2147483647)) with h15|h15
   ·have TG:= @iv w
    generalize g18:aU w=r17 at TG
    exact (gl (d:= .bool r17) (E5++ [tC (nt h15),tF,tF,tF,tF,tF,tT,tT,aw TG])).to (by clear E1 E2 E3 E4 E5;(try simp only [cf,aB,a9] at*);(rw [ZB];simp [aB,a9, *];grind))
   exact (gl (d:= .bool false) (E5++ [tC (nt h15)])).to (by clear E1 E2 E3 E4 E5;(try simp only [cf,aB,a9] at*);(simp [aB,a9, *];done))
  exact (gl (d:= .bool false) (E4++ [tT,tT,tT,aw Tx,tT,tF]++Zx 4 (tC (eF (nt h13)))++ [tC (nt h13),tT])).to (by clear E1 E2 E3 E4;(try simp only [cf,aB,a9] at*);(simp [aB,a9, *];done))
 exact (gl (d:= .bool false) (E1++Zx 4 (tC (eF (nt h2)))++([tC (nt h2)]++cr 21 1589776))).to (by clear E1;(try simp only [cf,aB,a9] at*);(rw [ZB];simp [aB,a9, *];grind))
theorem BO (op w ab ae aa af ai cc:Int) (h:(aC op==8)=true) (hc:(bq op==7)=true):aQ Zy 41 ([xD op w ab ae aa af ai cc]) (ax (bL op w ab ae aa af ai cc)):=by
 have c0:= @aH op
 rw [eq_of_beq hc] at c0
 have c1:= @wK op w ab ae aa af ai cc (cD 7 true (eq_of_beq hc))
 let E1:EL:= [aw c0,tT,tT,tT,aw c1,tT,.flat _ _ ep,tF]
 rcases cI (br [ak op,ak w,ak ab,ak ae,ak aa,aq af,aq ai,ak cc] [ak op,ak w,ak 0,ak ae,ak aa,aq af,aq 0,ak 0]) with h2|h2
 ·have c3:= @dq ab
  generalize g5:ba ab=r4 at c3
  let E2:EL:=E1++Zx 3 (tC (eF (nt h2)))++ [aw c3,tC (eF (nt h2)),tC (nt h2)]
  cases r4
  ·exact (gl (d:= .bool false) (E2++(cr 21 1589776))).to (by clear E1 E2;(try simp only [cf,aB,a9] at*);(simp [aB,a9, *];done))
  have c6:= @dq ae
  generalize g8:ba ae=r7 at c6
  let E3:EL:=E2++ [tT,tT,tT,aw c6,tT,tF]
  cases r7
  ·exact (gl (d:= .bool false) (E3++(cr 16 49680))).to (by clear E1 E2 E3;(try simp only [cf,aB,a9] at*);(simp [aB,a9, *];done))
  have c9:= @dq aa
  generalize g11:ba aa=T2 at c9
  let E4:EL:=E3++ [tT,tT,tT,aw c9,tT,tF]
  cases T2
  ·exact (gl (d:= .bool false) (E4++(cr 11 1552))).to (by clear E1 E2 E3 E4;(try simp only [cf,aB,a9] at*);(simp [aB,a9, *];done))
  have Tx:= @dX af
  rcases cI (decide ((-2147483648)≤af∧af≤2147483647)) with h13|h13
  ·have T0:= @dX ai
   let E5:EL:=E4++ [tT,tT,tT,aw Tx,tT,tF]++Zx 3 (tC (eF (nt h13)))++ [aw T0,tC (eF (nt h13)),tC (nt h13)]
   rcases cI (decide ((-2147483648)≤ai∧ai≤2147483647)) with h15|h15
   ·have TG:= @iv w
    generalize g18:aU w=r17 at TG
    exact (gl (d:= .bool r17) (E5++ [tC (nt h15),tF,tF,tF,tF,tF,tF,tT,aw TG])).to (by clear E1 E2 E3 E4 E5;(try simp only [cf,aB,a9] at*);(rw [ZB];simp [aB,a9, *];grind))
   exact (gl (d:= .bool false) (E5++ [tC (nt h15)])).to (by clear E1 E2 E3 E4 E5;(try simp only [cf,aB,a9] at*);(simp [aB,a9, *];done))
  exact (gl (d:= .bool false) (E4++ [tT,tT,tT,aw Tx,tT,tF]++Zx 4 (tC (eF (nt h13)))++ [tC (nt h13),tT])).to (by clear E1 E2 E3 E4;(try simp only [cf,aB,a9] at*);(simp [aB,a9, *];done))
 exact (gl (d:= .bool false) (E1++Zx 4 (tC (eF (nt h2)))++([tC (nt h2)]++cr 21 1589776))).to (by clear E1;(try simp only [cf,aB,a9] at*);(rw [ZB];simp [aB,a9, *];grind))
theorem BN (op w ab ae aa af ai cc:Int) (h:(aC op==9)=true) (hc:(bq op==8)=true):aQ Zy 41 ([xD op w ab ae aa af ai cc]) (ax (bL op w ab ae aa af ai cc)):=by
 have c0:= @aH op
 rw [eq_of_beq hc] at c0
 have c1:= @wJ op w ab ae aa af ai cc (cD 8 true (eq_of_beq hc))
 let E1:EL:= [aw c0,tT,tT,tT,aw c1,tT,.flat _ _ ep,tF]
 rcases cI (br [ak op,ak w,ak ab,ak ae,ak aa,aq af,aq ai,ak cc] [ak op,ak w,ak 0,ak 0,ak 0,aq 0,aq ai,ak 0]) with h2|h2
 ·have c3:= @dq ab
  generalize g5:ba ab=r4 at c3
  let E2:EL:=E1++Zx 3 (tC (eF (nt h2)))++ [aw c3,tC (eF (nt h2)),tC (nt h2)]
  cases r4
  ·exact (gl (d:= .bool false) (E2++(cr 21 1589776))).to (by clear E1 E2;(try simp only [cf,aB,a9] at*);(simp [aB,a9, *];done))
  have c6:= @dq ae
  generalize g8:ba ae=r7 at c6
  let E3:EL:=E2++ [tT,tT,tT,aw c6,tT,tF]
  cases r7
  ·exact (gl (d:= .bool false) (E3++(cr 16 49680))).to (by clear E1 E2 E3;(try simp only [cf,aB,a9] at*);(simp [aB,a9, *];done))
  have c9:= @dq aa
  generalize g11:ba aa=T2 at c9
  let E4:EL:=E3++ [tT,tT,tT,aw c9,tT,tF]
  cases T2
  ·exact (gl (d:= .bool false) (E4++(cr 11 1552))).to (by clear E1 E2 E3 E4;(try simp only [cf,aB,a9] at*);(simp [aB,a9, *];done))
  have Tx:= @dX af
  let E5:EL:=E4++ [tT,tT,tT,aw Tx,tT,tF]
  rcases cI (decide ((-2147483648)≤af∧af≤2147483647)) with h13|h13
  ·have T0:= @dX ai
   let E6:EL:=E5++Zx 3 (tC (eF (nt h13)))++ [aw T0,tC (eF (nt h13)),tC (nt h13)]
   rcases cI (decide ((-2147483648)≤ai∧ai≤2147483647)) with h15|h15
   ·let E7:EL:=E6++([tC (nt h15)]++cr 8 128)
    by_cases h16:w=32
    ·subst h16
     exact (gl (d:= .bool true) (E7++ [tF,tF,tF,tF,tF,tT])).to (by clear E1 E2 E3 E4 E5 E6 E7;(try simp only [cf,aB,a9] at*);(rw [ZB];simp [aB,a9, *];grind))
    by_cases h17:w=8
    ·subst h17
     have Vi:= @Ez ai
     exact (gl (d:= .bool (decide ((-128)≤ai∧ai≤127))) (E7++Zx 4 (tC (eF (aR h16)))++ [tT,tT,tT,aw Vi,tT,tT,tF])).to (by clear E1 E2 E3 E4 E5 E6 E7;(try simp only [cf,aB,a9] at*);(rw [ZB];simp [aB,a9, *];grind))
    exact (gl (d:= .bool false) (E7++Zx 4 (tC (eF (aR h16)))++Zx 3 (tC (eT (aR h17)))++ [tC (eF (aR h16)),tC (aR h17),tC (aR h16)])).to (by clear E1 E2 E3 E4 E5 E6 E7;(try simp only [cf,aB,a9] at*);(simp [aB,a9, *];done))
   exact (gl (d:= .bool false) (E6++ [tC (nt h15)])).to (by clear E1 E2 E3 E4 E5 E6;(try simp only [cf,aB,a9] at*);(simp [aB,a9, *];done))
  exact (gl (d:= .bool false) (E5++Zx 4 (tC (eF (nt h13)))++ [tC (nt h13),tT])).to (by clear E1 E2 E3 E4 E5;(try simp only [cf,aB,a9] at*);(simp [aB,a9, *];done))
 exact (gl (d:= .bool false) (E1++Zx 4 (tC (eF (nt h2)))++([tC (nt h2)]++cr 21 1589776))).to (by clear E1;(try simp only [cf,aB,a9] at*);(rw [ZB];simp [aB,a9, *];grind))
theorem zj (op w ab ae aa af ai cc:Int) (h:(aC op==10)=true) (hc:(bq op==9)=true):aQ Zy 41 ([xD op w ab ae aa af ai cc]) (ax (bL op w ab ae aa af ai cc)):=by
 have c0:= @aH op
 rw [eq_of_beq hc] at c0
 have c1:= @wI op w ab ae aa af ai cc (cD 9 true (eq_of_beq hc))
 let E1:EL:= [aw c0,tT,tT,tT,aw c1,tT,.flat _ _ ep,tF]
 rcases cI (br [ak op,ak w,ak ab,ak ae,ak aa,aq af,aq ai,ak cc] [ak op,ak w,ak 0,ak 0,ak 0,aq 0,aq ai,ak cc]) with h2|h2
 ·have c3:= @dq ab
  generalize g5:ba ab=r4 at c3
  let E2:EL:=E1++Zx 3 (tC (eF (nt h2)))++ [aw c3,tC (eF (nt h2)),tC (nt h2)]
  cases r4
  ·exact (gl (d:= .bool false) (E2++(cr 21 1589776))).to (by clear E1 E2;(try simp only [cf,aB,a9] at*);(simp [aB,a9, *];done))
  have c6:= @dq ae
  generalize g8:ba ae=r7 at c6
  let E3:EL:=E2++ [tT,tT,tT,aw c6,tT,tF]
  cases r7
  ·exact (gl (d:= .bool false) (E3++(cr 16 49680))).to (by clear E1 E2 E3;(try simp only [cf,aB,a9] at*);(simp [aB,a9, *];done))
  have c9:= @dq aa
  generalize g11:ba aa=T2 at c9
  let E4:EL:=E3++ [tT,tT,tT,aw c9,tT,tF]
  cases T2
  ·exact (gl (d:= .bool false) (E4++(cr 11 1552))).to (by clear E1 E2 E3 E4;(try simp only [cf,aB,a9] at*);(simp [aB,a9, *];done))
  have Tx:= @dX af
  let E5:EL:=E4++ [tT,tT,tT,aw Tx,tT,tF]
  rcases cI (decide ((-2147483648)≤af∧af≤2147483647)) with h13|h13
  ·have T0:= @dX ai
   let E6:EL:=E5++Zx 3 (tC (eF (nt h13)))++ [aw T0,tC (eF (nt h13)),tC (nt h13)]
   rcases cI (decide ((-2147483648)≤ai∧ai≤2147483647)) with h15|h15
   ·let E7:EL:=E6++ [tC (nt h15)]++Zx 8 tF++ [tT]
    by_cases h16:w=32
    ·subst h16
     have Vs:= @Ch cc
     generalize g19:cT cc=r18 at Vs
     exact (gl (d:= .bool r18) (E7++(cr 9 480++ [aw Vs,tT]))).to (by clear E1 E2 E3 E4 E5 E6 E7;(try simp only [cf,aB,a9] at*);(rw [ZB];simp [aB,a9, *];grind))
    let E8:EL:=E7++Zx 4 (tC (eF (aR h16)))
    by_cases h20:w=8
    ·subst h20
     have Vt:= @Ez ai
     rcases cI (decide ((-128)≤ai∧ai≤127)) with h22|h22
     ·have Ua:= @Ch cc
      generalize g25:cT cc=r24 at Ua
      exact (gl (d:= .bool r24) (E8++ [tT,tT,tT,aw Vt,tT,tT,tF,tC (eT h22),tC (eT h22),tC (eT h22),aw Ua,tC h22])).to (by clear E1 E2 E3 E4 E5 E6 E7 E8;(try simp only [cf,aB,a9] at*);(rw [ZB];simp [aB,a9, *];grind))
     exact (gl (d:= .bool false) (E8++ [tT,tT,tT,aw Vt,tT,tT,tF,tC (eT h22),tC (eT h22),tC (eT h22),tC h22])).to (by clear E1 E2 E3 E4 E5 E6 E7 E8;(try simp only [cf,aB,a9] at*);(simp [aB,a9, *];done))
    exact (gl (d:= .bool false) (E8++Zx 3 (tC (eT (aR h20)))++ [tC (eF (aR h16)),tC (aR h20),tC (aR h16),tF,tF,tF,tF])).to (by clear E1 E2 E3 E4 E5 E6 E7 E8;(try simp only [cf,aB,a9] at*);(simp [aB,a9, *];done))
   exact (gl (d:= .bool false) (E6++ [tC (nt h15)])).to (by clear E1 E2 E3 E4 E5 E6;(try simp only [cf,aB,a9] at*);(simp [aB,a9, *];done))
  exact (gl (d:= .bool false) (E5++Zx 4 (tC (eF (nt h13)))++ [tC (nt h13),tT])).to (by clear E1 E2 E3 E4 E5;(try simp only [cf,aB,a9] at*);(simp [aB,a9, *];done))
 exact (gl (d:= .bool false) (E1++Zx 4 (tC (eF (nt h2)))++([tC (nt h2)]++cr 21 1589776))).to (by clear E1;(try simp only [cf,aB,a9] at*);(rw [ZB];simp [aB,a9, *];grind))
theorem zh (op w ab ae aa af ai cc:Int) (h:(aC op==11)=true) (hc:(bq op==10)=true):aQ Zy 41 ([xD op w ab ae aa af ai cc]) (ax (bL op w ab ae aa af ai cc)):=by
 have c0:= @aH op
 rw [eq_of_beq hc] at c0
 have c1:= @uj op w ab ae aa af ai cc (cD 10 true (eq_of_beq hc))
 let E1:EL:= [aw c0,tT,tT,tT,aw c1,tT,.flat _ _ ep,tF]
 rcases cI (br [ak op,ak w,ak ab,ak ae,ak aa,aq af,aq ai,ak cc] [ak op,ak 0,ak 0,ak 0,ak 0,aq 0,aq 0,ak 0]) with h2|h2
 ·have c3:= @dq ab
  generalize g5:ba ab=r4 at c3
  let E2:EL:=E1++Zx 3 (tC (eF (nt h2)))++ [aw c3,tC (eF (nt h2)),tC (nt h2)]
  cases r4
  ·exact (gl (d:= .bool false) (E2++(cr 21 1589776))).to (by clear E1 E2;(try simp only [cf,aB,a9] at*);(simp [aB,a9, *];done))
  have c6:= @dq ae
  generalize g8:ba ae=r7 at c6
  let E3:EL:=E2++ [tT,tT,tT,aw c6,tT,tF]
  cases r7
  ·exact (gl (d:= .bool false) (E3++(cr 16 49680))).to (by clear E1 E2 E3;(try simp only [cf,aB,a9] at*);(simp [aB,a9, *];done))
  have c9:= @dq aa
  generalize g11:ba aa=T2 at c9
  let E4:EL:=E3++ [tT,tT,tT,aw c9,tT,tF]
  cases T2
  ·exact (gl (d:= .bool false) (E4++(cr 11 1552))).to (by clear E1 E2 E3 E4;(try simp only [cf,aB,a9] at*);(simp [aB,a9, *];done))
  have Tx:= @dX af
  rcases cI (decide ((-2147483648)≤af∧af≤2147483647)) with h13|h13
  ·have T0:= @dX ai
   let E5:EL:=E4++ [tT,tT,tT,aw Tx,tT,tF]++Zx 3 (tC (eF (nt h13)))++ [aw T0,tC (eF (nt h13)),tC (nt h13)]
   rcases cI (decide ((-2147483648)≤ai∧ai≤2147483647)) with h15|h15
   ·exact (gl (d:= .bool true) (E5++ [tC (nt h15)]++Zx 9 tF)).to (by clear E1 E2 E3 E4 E5;(try simp only [cf,aB,a9] at*);(rw [ZB];simp [aB,a9, *];grind))
   exact (gl (d:= .bool false) (E5++ [tC (nt h15)])).to (by clear E1 E2 E3 E4 E5;(try simp only [cf,aB,a9] at*);(simp [aB,a9, *];done))
  exact (gl (d:= .bool false) (E4++ [tT,tT,tT,aw Tx,tT,tF]++Zx 4 (tC (eF (nt h13)))++ [tC (nt h13),tT])).to (by clear E1 E2 E3 E4;(try simp only [cf,aB,a9] at*);(simp [aB,a9, *];done))
 exact (gl (d:= .bool false) (E1++Zx 4 (tC (eF (nt h2)))++([tC (nt h2)]++cr 21 1589776))).to (by clear E1;(try simp only [cf,aB,a9] at*);(rw [ZB];simp [aB,a9, *];grind))
theorem wj:∀n:Fin 32,aC (n.val:Int)=1∨aC (n.val:Int)=2∨aC (n.val:Int)=3∨aC (n.val:Int)=4∨aC (n.val:Int)=5∨aC (n.val:Int)=6∨aC (n.val:Int)=7∨aC (n.val:Int)=8∨aC (n.val:Int)=9∨aC (n.val:Int)=10∨aC (n.val:Int)=11:=by decide+kernel
theorem bf (op w ab ae aa af ai cc:Int):aQ Zy 41 [xD op w ab ae aa af ai cc] (ax (bL op w ab ae aa af ai cc)):=by
 by_cases TD:0≤op∧op≤31
 ·have e:op=(((⟨op.toNat,by omega⟩:Fin 32).val:Nat):Int):=by simp;omega
  have hr:=wj ⟨op.toNat,by omega⟩
  rw [← e] at hr
  rcases hr with h|h|h|h|h|h|h|h|h|h|h
  ·exact BV _ _ _ _ _ _ _ _ (by rw [h];rfl) (by simp [bq,h])
  ·exact BU _ _ _ _ _ _ _ _ (by rw [h];rfl) (by simp [bq,h])
  ·exact BT _ _ _ _ _ _ _ _ (by rw [h];rfl) (by simp [bq,h])
  ·exact BS _ _ _ _ _ _ _ _ (by rw [h];rfl) (by simp [bq,h])
  ·exact BR _ _ _ _ _ _ _ _ (by rw [h];rfl) (by simp [bq,h])
  ·exact BQ _ _ _ _ _ _ _ _ (by rw [h];rfl) (by simp [bq,h])
  ·exact BP _ _ _ _ _ _ _ _ (by rw [h];rfl) (by simp [bq,h])
  ·exact BO _ _ _ _ _ _ _ _ (by rw [h];rfl) (by simp [bq,h])
  ·exact BN _ _ _ _ _ _ _ _ (by rw [h];rfl) (by simp [bq,h])
  ·exact zj _ _ _ _ _ _ _ _ (by rw [h];rfl) (by simp [bq,h])
  ·exact zh _ _ _ _ _ _ _ _ (by rw [h];rfl) (by simp [bq,h])
 ·exact BW _ _ _ _ _ _ _ _ (by rw [(kl (op:=op) (by omega)).1];rfl) (by simp [bq,(kl (op:=op) (by omega)).1])
theorem dJ (r:Int):aQ Zy 136 ([ak r]) (ax (ba r)):=by
 rcases cI (decide (r<0)) with h0|h0
 ·exact (Ql (d:= .bool false) [tC (eT (bK 0 h0)),tC (eT (bK 0 h0)),tC (bK 0 h0)]).to (by (try simp only [cf,aB,ba] at*);first|(simp [aB,ba, *];done)|(simp [aB,ba, *];omega)|(rw [ZB];simp [aB,ba, *];done)|(rw [ZB];simp [aB,ba, *];omega)|(rw [ZB];simp [aB,ba, *];grind)|(subst_vars;rw [ZB];simp;grind))
 exact (Ql (d:= .bool (decide (r<16))) [tC (eT (bK 0 h0)),tC (eT (bK 0 h0)),tC (bK 0 h0)]).to (by (try simp only [cf,aB,ba] at*);first|(simp [aB,ba, *];done)|(simp [aB,ba, *];omega)|(rw [ZB];simp [aB,ba, *];done)|(rw [ZB];simp [aB,ba, *];omega)|(rw [ZB];simp [aB,ba, *];grind)|(subst_vars;rw [ZB];simp;grind))
theorem uW (r:Int) (r0:0≤r) (r1:r≤15):aQ Zy 137 ([ak r,av 0]) (ay (r / 8)):=(Qk (d:= .int .u8 (aaY.wrap aaY.u8 (aaY.wrap aaY.u8 (↑(Zz (Zw (8:Nat) (aad (aaY.wrap aaY.u8 r) 8)&&&Zw (8:Nat) 1)):Int)*1))) [tT]).to (by simp only [wk,D.int.injEq,ee];obtain ⟨n,rfl⟩:=iP r0 r1;clear r0 r1;revert n;decide+kernel)
theorem uV (r:Int) (r0:0≤r) (r1:r≤15):aQ Zy 137 ([ak r,av 2]) (ay (4*(r / 8))):=(Qk (d:= .int .u8 (aaY.wrap aaY.u8 (aaY.wrap aaY.u8 (↑(Zz (Zw (8:Nat) (aad (aaY.wrap aaY.u8 r) 8)&&&Zw (8:Nat) 1)):Int)*4))) [tT]).to (by simp only [wk,D.int.injEq,ee];obtain ⟨n,rfl⟩:=iP r0 r1;clear r0 r1;revert n;decide+kernel)
theorem CI (r m:Int) (r0:0≤r) (r1:r≤15) (m0:0≤m) (m1:m≤15):aQ Zy 138 ([ay 192,ak r,ak m]) (ay (bm r m)):=(Qj (d:= .int .u8 (aaY.wrap aaY.u8 (↑(Zz (Zw (8:Nat) (aaY.wrap aaY.u8 (↑(Zz (Zw (8:Nat) 192|||Zw (8:Nat) (aaY.wrap aaY.u8 (aaY.wrap aaY.u8 (↑(Zz (Zw (8:Nat) (aaY.wrap aaY.u8 r)&&&Zw (8:Nat) 7)):Int)*8)))):Int))|||Zw (8:Nat) (aaY.wrap aaY.u8 (↑(Zz (Zw (8:Nat) (aaY.wrap aaY.u8 m)&&&Zw (8:Nat) 7)):Int)))):Int))) []).to (by simp only [wk,D.int.injEq,ee];obtain ⟨n,rfl⟩:=iP r0 r1;obtain ⟨k,rfl⟩:=iP m0 m1;clear r0 r1 m0 m1;revert n k;decide+kernel)
theorem sJ (r m:Int) (r0:0≤r) (r1:r≤15) (m0:0≤m) (m1:m≤15):aQ Zy 138 ([ay 128,ak r,ak m]) (ay (128+8*(r%8)+m%8)):=(Qj (d:= .int .u8 (aaY.wrap aaY.u8 (↑(Zz (Zw (8:Nat) (aaY.wrap aaY.u8 (↑(Zz (Zw (8:Nat) 128|||Zw (8:Nat) (aaY.wrap aaY.u8 (aaY.wrap aaY.u8 (↑(Zz (Zw (8:Nat) (aaY.wrap aaY.u8 r)&&&Zw (8:Nat) 7)):Int)*8)))):Int))|||Zw (8:Nat) (aaY.wrap aaY.u8 (↑(Zz (Zw (8:Nat) (aaY.wrap aaY.u8 m)&&&Zw (8:Nat) 7)):Int)))):Int))) []).to (by simp only [wk,D.int.injEq,ee];obtain ⟨n,rfl⟩:=iP r0 r1;obtain ⟨k,rfl⟩:=iP m0 m1;clear r0 r1 m0 m1;revert n k;decide+kernel)
theorem bk (r m:Int) (r0:0≤r) (r1:r≤15) (m0:0≤m) (m1:m≤15):aQ Zy 68 ([ak r,ak m]) (ay (bm r m)):=(SO (d:= .int .u8 (aaY.wrap aaY.u8 (aaY.i64.wrap (aaY.i64.wrap (192+aaY.i64.wrap (8*aaY.i64.wrap (aaY.wrap aaY.i8 (↑(Zz (Zw (8:Nat) r&&&Zw (8:Nat) 7)):Int))))+aaY.i64.wrap (aaY.wrap aaY.i8 (↑(Zz (Zw (8:Nat) m&&&Zw (8:Nat) 7)):Int)))))) []).to (by simp only [wk,D.int.injEq,ee];obtain ⟨n,rfl⟩:=iP r0 r1;obtain ⟨k,rfl⟩:=iP m0 m1;clear r0 r1 m0 m1;revert n k;decide+kernel)
theorem AA (r m:Int) (r0:0≤r) (r1:r≤15) (m0:0≤m) (m1:m≤15) (hn:decide (8≤r∨8≤m)=true):aQ Zy 104 ([ak r,ak m]) (ax true):=by
 have c0:= @dJ r
 rw [show (ba r)=true from (@hZ r r0 r1)] at c0
 have c1:= @dJ m
 rw [show (ba m)=true from (@hZ m m0 m1)] at c1
 exact (Qr (d:= .bool (aaY.wrap aaY.i8 (↑(Zz (Zw (8:Nat) (aaY.wrap aaY.i8 (↑(Zz (Zw (8:Nat) r|||Zw (8:Nat) m)):Int))&&&Zw (8:Nat) 8)):Int) !=0)) [aw c0,tT,tT,aw c1,tT,tT,tT,tT,tT,tT,tT]).to (by simp only [wk,D.bool.injEq];rw [Fb r0 r1 m0 m1];exact hn)
theorem AB (r m:Int) (r0:0≤r) (r1:r≤15) (m0:0≤m) (m1:m≤15) (hn:decide (8≤r∨8≤m)=false):aQ Zy 104 ([ak r,ak m]) (ax false):=by
 have c0:= @dJ r
 rw [show (ba r)=true from (@hZ r r0 r1)] at c0
 have c1:= @dJ m
 rw [show (ba m)=true from (@hZ m m0 m1)] at c1
 exact (Qr (d:= .bool (aaY.wrap aaY.i8 (↑(Zz (Zw (8:Nat) (aaY.wrap aaY.i8 (↑(Zz (Zw (8:Nat) r|||Zw (8:Nat) m)):Int))&&&Zw (8:Nat) 8)):Int) !=0)) [aw c0,tT,tT,aw c1,tT,tT,tT,tT,tT,tT,tT]).to (by simp only [wk,D.bool.injEq];rw [Fb r0 r1 m0 m1];exact hn)
open Go Go.RowKit Go.Ev
set_option maxHeartbeats 4000000 in
theorem G7 (v:Int) (h0: -2147483648≤v) (h1:v≤2147483647) (w:World):
  Calls Zy 139 #[.int .i64 v,.int .i64 4] w fun e w'=>e= .returned (.tuple #[.slice (some ⟨w.heap.size,0,none⟩) 4 4,.int .i64 0])∧
   w'=w.alloc (.cells #[.int .u8 (v%256),.int .u8 (v / 256%256),.int .u8 (v / 65536%256),.int .u8 (v / 16777216%256)] 5):=by
 have VG:∀w,(Instr.makeSlice 22 (.int .i64 4) (.int .i64 4)).run Zy w= .ok (.slice (some ⟨w.heap.size,0,none⟩) 4 4) (w.alloc (.cells #[.int .u8 0,.int .u8 0,.int .u8 0,.int .u8 0] 5)):=fun _=>by kernel_rfl
 go_enter Tryz.func139,Tryz.ntmps139
 go_wp2
 refine wp_loop_rounds 5 ?_
 rw [rounds_succ];go_wp2
 rw [rounds_succ];go_wp2
 rw [rounds_succ];go_wp2
 rw [rounds_succ];go_wp2
 rw [rounds_succ];go_wp2
 go_ret2
 exact ⟨rfl,rfl⟩
theorem HZ {C:Nat→Nat→Option Value} {w:World} (hC:∀b o v,C b o=some v→w.cell? ⟨b,o,none⟩=some v) (cells:Array Value) (ty:TypeId):
  Ext (gk C) w (gk fun b o=>if b=w.heap.size then cells[o]? else C b o) (w.alloc (.cells cells ty)):=by
 have Tq:∀b o v,C b o=some v→b<w.heap.size:=fun b o v h=>World.block_lt_of_cell? w _ (hC b o v h)
 refine ⟨(Below.refl _ _).alloc (Nat.le_refl _) _,?_,?_,?_⟩
 ·intro b o v h
  have:=Tq b o v h
  show (if b=w.heap.size then cells[o]? else C b o)=some v
  rw [if_neg (by omega)]
  exact h
 ·intro b o v h hb
  have h':(if b=w.heap.size then cells[o]? else C b o)=some v:=h
  rw [if_neg (by omega)] at h'
  exact h'
 ·intro b o v h
  have h':(if b=w.heap.size then cells[o]? else C b o)=some v:=h
  split at h'
  ·rename_i e
   subst e
   have hh:(w.alloc (.cells cells ty)).heap[w.heap.size]? =some (.cells cells ty):=by
    show (w.heap.push _)[w.heap.size]? =_
    simp
   simp only [World.cell?,hh]
   exact h'
  ·have hb:=Tq b o v h'
   rw [World.cell?_alloc_lt _ _ _ hb]
   exact hC b o v h'
theorem Mr {C:Nat→Nat→Option Value} {b:Nat} {k:aaY} (xs:List Int) (cells:Array Value) (hc:cells=(xs.map fun n=>Value.int k n).toArray):
  cj (gk fun b' o=>if b'=b then cells[o]? else C b' o) (.bc .tight 1 (xs.map fun n=> .int k n)) (.slice (some ⟨b,0,none⟩) xs.length xs.length):=by
 subst hc
 have key:∀(i:Nat) (x:D) (cs:List D) (j:Nat) (c:D),(xs.map fun n=>D.int k n)[i]? =some x→x.cells=some cs→cs[j]? =some c→∃n,xs[i]? =some n∧c= .int k n∧j=0:=by
  intro i x cs j c h1 h2 h3
  rw [ZU,Option.map_eq_some_iff] at h1
  obtain ⟨n,hn,rfl⟩:=h1
  simp only [D.cells,Option.some.injEq] at h2
  subst h2
  cases j with
  |zero=>simp at h3;exact ⟨n,hn,h3.symm,rfl⟩
  |succ j=>simp at h3
 refine .bc b 0 (fun i _=> .int k (xs.getD i 0)) (by simp) (Nat.le_refl _) (fun _=>rfl) ?_ ?_ ?_ ?_ rfl
 ·intro i x hx
  rw [ZU,Option.map_eq_some_iff] at hx
  obtain ⟨n,hn,rfl⟩:=hx
  exact ⟨[.int k n],rfl,rfl⟩
 ·intro i x cs j c h1 h2 h3
  obtain ⟨n,hn,rfl,rfl⟩:=key i x cs j c h1 h2 h3
  simp [gk,hn]
 ·intro i x cs j c h1 h2 h3
  obtain ⟨n,hn,rfl,rfl⟩:=key i x cs j c h1 h2 h3
  simp only [List.getD_eq_getElem?_getD,hn,Option.getD_some]
  exact .int k n
 ·intro i x cs c h1 h2 h3
  rw [ZU,Option.map_eq_some_iff] at h1
  obtain ⟨n,hn,rfl⟩:=h1
  simp only [D.cells,Option.some.injEq] at h2
  subst h2
  simp at h3
  subst h3
  rfl
theorem EZ (v:Int) (h0: -2147483648≤v) (h1:v≤2147483647):aQ Zy 139 [aq v,aq 4] (.aL [.bc .tight 1 [ay (v%256),ay (v / 256%256),ay (v / 65536%256),ay (v / 16777216%256)],aq 0]):=by
 refine ⟨⟨_,_,Tryz.func139,rfl,by kernel_rfl⟩,fun w C vs hC ha=> ?_⟩
 obtain ⟨hl,hr⟩:=ha
 obtain ⟨a,b,rfl⟩:∃a b,vs= #[a,b]:=by
  rcases vs with ⟨l⟩
  match l,hl with
  | [a,b],_=>exact ⟨a,b,rfl⟩
 have ra:=hr 0 _ a rfl rfl
 have rb:=hr 1 _ b rfl rfl
 cases ra
 cases rb
 refine Calls.mono (G7 v h0 h1 w) ?_
 rintro e w' ⟨rfl,rfl⟩
 have rl:=Mr (C:=C) (b:=w.heap.size) (k:= .u8) [v%256,v / 256%256,v / 65536%256,v / 16777216%256] _ rfl
 refine ⟨_,_,rfl,HZ hC _ _,.aL rfl ?_,?_⟩
 ·intro i d u p q
  match i,p,q with
  |0,p,q=>simp at p q;subst p q;exact rl
  |1,p,q=>simp at p q;subst p q;exact .int _ _
 ·refine ⟨fun sz TH xs h=>(by cases h),?_⟩
  intro ds vs hd hv i sz TH xs hi
  simp only [D.aL.injEq] at hd
  subst hd
  match i,hi with
  |0,hi=>simp at hi
  |1,hi=>simp at hi
theorem p8 (r m:Int) (r0:0≤r) (r1:r≤15) (m0:0≤m) (m1:m≤15):aQ Zy 105 ([ax false,ak r,ak m]) (.aL [ay (da false r m),aq 0]):=by
 have c0:= @dJ r
 rw [show (ba r)=true from (@hZ r r0 r1)] at c0
 have c1:= @dJ m
 rw [show (ba m)=true from (@hZ m m0 m1)] at c1
 have c2:= @uV r r0 r1
 have c3:= @uW m m0 m1
 exact (Qq (d:= .aL [ay (aaY.wrap aaY.u8 (↑(Zz (Zw (8:Nat) (aaY.wrap aaY.u8 (↑(Zz (Zw (8:Nat) 64|||Zw (8:Nat) (4*(r / 8)))):Int))|||Zw (8:Nat) (m / 8))):Int)),aq 0]) [aw c0,tT,tT,aw c1,tT,tF,tF,aw c2,aw c3,tF]).to (by simp only [wk,a7,D.int.injEq,ee,eJ];exact JL r0 r1 m0 m1)
theorem uY (r m:Int) (r0:0≤r) (r1:r≤15) (m0:0≤m) (m1:m≤15):aQ Zy 105 ([ax true,ak r,ak m]) (.aL [ay (da true r m),aq 0]):=by
 have c0:= @dJ r
 rw [show (ba r)=true from (@hZ r r0 r1)] at c0
 have c1:= @dJ m
 rw [show (ba m)=true from (@hZ m m0 m1)] at c1
 have c2:= @uV r r0 r1
 have c3:= @uW m m0 m1
 exact (Qq (d:= .aL [ay (aaY.wrap aaY.u8 (↑(Zz (Zw (8:Nat) (aaY.wrap aaY.u8 (↑(Zz (Zw (8:Nat) (aaY.wrap aaY.u8 (↑(Zz (Zw (8:Nat) 64|||Zw (8:Nat) (4*(r / 8)))):Int))|||Zw (8:Nat) (m / 8))):Int))|||Zw (8:Nat) 8)):Int)),aq 0]) [aw c0,tT,tT,aw c1,tT,tF,tF,aw c2,aw c3,tT]).to (by simp only [wk,a7,D.int.injEq,ee,eJ];exact JK r0 r1 m0 m1)
theorem KR (r m:Int) (r0:0≤r) (r1:r≤15) (m0:0≤m) (m1:m≤15):aQ Zy 106 ([ak r,ak m]) (.aL [.bc .tight 1 [ay (bm r m)],aq 0]):=by
 have c0:= @dJ r
 rw [show (ba r)=true from (@hZ r r0 r1)] at c0
 have c1:= @dJ m
 rw [show (ba m)=true from (@hZ m m0 m1)] at c1
 have c2:= @CI r m r0 r1 m0 m1
 generalize g4:bm r m=r3 at c2
 exact (Ry (d:= .aL [.bc .tight 1 [ay r3],aq 0]) [aw c0,tT,tT,aw c1,tT,tF,tF,aw c2]).to (by subst_vars;simp [wk,a7,cH])
theorem gD (r b af:Int) (r0:0≤r) (r1:r≤15) (m0:0≤b) (m1:b≤15) (h0: -2147483648≤af) (h1:af≤2147483647) (hb:decide (b%8=4)=true):aQ Zy 108 ([ak r,ak b,aq af]) (.aL [bj 1 [ay (128+8*(r%8)+b%8),ay 36,ay (af%256),ay (af / 256%256),ay (af / 65536%256),ay (af / 16777216%256)],aq 0]):=by
 have c0:= @EZ af h0 h1
 have c1:= @dJ r
 rw [show (ba r)=true from (@hZ r r0 r1)] at c1
 have c2:= @dJ b
 rw [show (ba b)=true from (@hZ b m0 m1)] at c2
 have c3:= @sJ r b r0 r1 m0 m1
 exact (Qp (d:= .aL [.bc (.fresh 1) 1 [ay (128+8*(r%8)+b%8),ay 36,ay (af%256),ay (af / 256%256),ay (af / 65536%256),ay (af / 16777216%256)],aq 0]) [aw c0,tT,tT,aw c1,tT,tF,tT,tT,aw c2,tT,tF,tF,tC (cD 4 true (eq_of_beq (@NT b hb))),aw c3,aO,.go 64,tT,tT,bN 1,tT,tT,bN 2,tT,tT,bN 6,tF]).to (by subst_vars;simp [wk,a7,cH])
theorem gC (r b af:Int) (r0:0≤r) (r1:r≤15) (m0:0≤b) (m1:b≤15) (h0: -2147483648≤af) (h1:af≤2147483647) (hb:decide (b%8=4)=false):aQ Zy 108 ([ak r,ak b,aq af]) (.aL [bj 1 [ay (128+8*(r%8)+b%8),ay (af%256),ay (af / 256%256),ay (af / 65536%256),ay (af / 16777216%256)],aq 0]):=by
 have c0:= @EZ af h0 h1
 have c1:= @dJ r
 rw [show (ba r)=true from (@hZ r r0 r1)] at c1
 have c2:= @dJ b
 rw [show (ba b)=true from (@hZ b m0 m1)] at c2
 have c3:= @sJ r b r0 r1 m0 m1
 exact (Qp (d:= .aL [.bc (.fresh 1) 1 [ay (128+8*(r%8)+b%8),ay (af%256),ay (af / 256%256),ay (af / 65536%256),ay (af / 16777216%256)],aq 0]) [aw c0,tT,tT,aw c1,tT,tF,tT,tT,aw c2,tT,tF,tF,tC (@NU b hb),aw c3,aO,.go 64,tT,tT,bN 1,tT,tT,bN 1,tT,tT,bN 5,tF]).to (by subst_vars;simp [wk,a7,cH])
theorem fV (r m:Int) (r0:0≤r) (r1:r≤15) (m0:0≤m) (m1:m≤15) (wide al:Bool) (hn:bW wide r m al=false):aQ Zy 75 ([ax wide,ak r,ak m,ax al]) (.bc .tight 1 []):=by
 cases wide
 ·cases al
  ·have c0:= @AB r m r0 r1 m0 m1 hn
   exact (PR (d:= .bc .tight 0 []) [tT,tT,tT,tT,tT,tT,aw c0,tT,tT,tT]).to (by first|(simp [wk,a7,cH];done)|(exfalso;simp [bW] at hn))
  have c1:= @p8 r m r0 r1 m0 m1
  generalize g3:da false r m=r2 at c1
  exact (PR (d:= .bc .tight 1 [ay r2]) (cr 9 7++ [aw c1])).to (by first|(simp [wk,a7,cH];done)|(exfalso;simp [bW] at hn))
 have c4:= @uY r m r0 r1 m0 m1
 generalize g6:da true r m=r5 at c4
 exact (PR (d:= .bc .tight 1 [ay r5]) (Zx 9 tF++ [aw c4])).to (by first|(simp [wk,a7,cH];done)|(exfalso;simp [bW] at hn))
theorem eP (r m:Int) (r0:0≤r) (r1:r≤15) (m0:0≤m) (m1:m≤15) (wide al:Bool) (hn:bW wide r m al=true):aQ Zy 75 ([ax wide,ak r,ak m,ax al]) (.bc .tight 1 [ay (da wide r m)]):=by
 cases wide
 ·cases al
  ·have c0:= @AA r m r0 r1 m0 m1 hn
   have c1:= @p8 r m r0 r1 m0 m1
   generalize g3:da false r m=r2 at c1
   exact (PR (d:= .bc .tight 1 [ay r2]) [tT,tT,tT,tT,tT,tT,aw c0,tT,tT,tF,aw c1]).to (by subst_vars;first|(simp [wk,a7,cH];done)|(exfalso;simp [bW] at hn;omega))
  have c4:= @p8 r m r0 r1 m0 m1
  generalize g6:da false r m=r5 at c4
  exact (PR (d:= .bc .tight 1 [ay r5]) (cr 9 7++ [aw c4])).to (by subst_vars;first|(simp [wk,a7,cH];done)|(exfalso;simp [bW] at hn;omega))
 have c7:= @uY r m r0 r1 m0 m1
 generalize g9:da true r m=r8 at c7
 exact (PR (d:= .bc .tight 1 [ay r8]) (Zx 9 tF++ [aw c7])).to (by subst_vars;first|(simp [wk,a7,cH];done)|(exfalso;simp [bW] at hn;omega))
theorem jw (r m:Int) (r0:0≤r) (r1:r≤15) (m0:0≤m) (m1:m≤15):aQ Zy 76 ([ak r,ak m]) (.bc .tight 1 [ay (bm r m)]):=by
 have c0:= @KR r m r0 r1 m0 m1
 generalize g2:bm r m=r1 at c0
 exact (SM (d:= .bc .tight 1 [ay r1]) [aw c0]).to (by subst_vars;simp [wk,a7,cH])
theorem me (n:Int):aQ Zy 77 ([aq n]) (bj 1 [ay (n%256),ay (n / 256%256),ay (n / 65536%256),ay (n / 16777216%256)]):=(SL (d:= .bc (.fresh 1) 1 [ay (aaY.wrap aaY.u8 (aaY.wrap aaY.u64 n)),ay (aaY.wrap aaY.u8 (aad (aaY.wrap aaY.u64 n) 256)),ay (aaY.wrap aaY.u8 (aad (aad (aaY.wrap aaY.u64 n) 256) 256)),ay (aaY.wrap aaY.u8 (aad (aad (aad (aaY.wrap aaY.u64 n) 256) 256) 256))]) [aO,.go 64,tT,bN 1,tT,bN 2,tT,bN 3,tT,bN 4,tF]).to (by simp only [wk,a7,cH,D.int.injEq,D.bc.injEq,List.cons.injEq,ee,eJ,bw,bZ,true_or,So,Oc,Fw,tx];first|done|omega|(simp;omega))
theorem dY (n:Int):aQ Zy 69 ([av (n%18446744073709551616),aq 4]) (bj 1 [ay (n%256),ay (n / 256%256),ay (n / 65536%256),ay (n / 16777216%256)]):=(SN (d:= .bc (.fresh 1) 1 [ay (aaY.wrap aaY.u8 (aad (n%18446744073709551616) 1)),ay (aaY.wrap aaY.u8 (aad (n%18446744073709551616) 256)),ay (aaY.wrap aaY.u8 (aad (n%18446744073709551616) 65536)),ay (aaY.wrap aaY.u8 (aad (n%18446744073709551616) 16777216))]) [.go 64,tT,tT,bN 1,tT,tT,bN 2,tT,tT,bN 3,tT,tT,bN 4,tF]).to (by simp only [wk,a7,cH,D.int.injEq,D.bc.injEq,List.cons.injEq,ee,eJ,bw,bZ,true_or,So,Oc,Fw,tx];first|done|omega|(simp;omega))
theorem DW (op w ab ae aa af ai cc:Int) (ho:op≤127) (d0:0≤ab) (d1:ab≤15) (s0:0≤ae) (s1:ae≤15) (b0:0≤aa) (b1:aa≤15) (p0: -2147483648≤af) (p1:af≤2147483647) (i0: -2147483648≤ai) (i1:ai≤2147483647) (c0:0≤cc) (c1:cc≤15) (n0:0≤bO op) (n1:bO op≤7) (h:(aC op==1)=true) (TD:decide (0≤op∧op≤31)=true) (hm:bL op w ab ae aa af ai cc=true):aQ Zy 43 ([xD op w ab ae aa af ai cc]) (.aL [bj 1 (bD (aD op w ab ae aa af ai cc)),aq 0]):=by
 have c0:= @bg op w ab ae aa af ai cc ho
 rw [hm] at c0
 have c1:= @dg op ho
 rw [eq_of_beq h] at c1
 generalize g3:bh op=r2 at c1
 generalize g5:bO op=r4 at c1
 rcases cI (bW (w==64) ae ab false) with h6|h6
 ·have c7:= @eP ae ab s0 s1 d0 d1 (w==64) false h6
  generalize g9:da (w==64) ae ab=r8 at c7
  have Tp:= @jw ae ab s0 s1 d0 d1
  generalize g12:bm ae ab=TN at Tp
  exact (kT (d:= .aL [.bc (.fresh 1) 1 [ay r8,ay r2,ay TN],aq 0]) [aw c0,tF,aw c1,tT,aw c7,aw Tp,aO,.go 64,tT,tT,bN 1,tT,tT,bN 2,tT,tT,bN 3,tF]).to (by subst_vars;(try simp only [aW] at*);(try simp only [cF] at h);(try simp only [bX,cJ] at*);simp_all [wk,a7,cH,aD,bD,bp,bA,a8,bw])
 have TF:= @fV ae ab s0 s1 d0 d1 (w==64) false h6
 have T0:= @jw ae ab s0 s1 d0 d1
 generalize g16:bm ae ab=Vx at T0
 exact (kT (d:= .aL [.bc (.fresh 1) 1 [ay r2,ay Vx],aq 0]) [aw c0,tF,aw c1,tT,aw TF,aw T0,aO,.go 64,tT,tT,bN 0,tT,tT,bN 1,tT,tT,bN 2,tF]).to (by subst_vars;(try simp only [aW] at*);(try simp only [cF] at h);(try simp only [bX,cJ] at*);simp_all [wk,a7,cH,aD,bD,bp,bA,a8,bw])
theorem yp (w ab ae aa af ai cc:Int) (d0:0≤ab) (d1:ab≤15) (s0:0≤ae) (s1:ae≤15) (b0:0≤aa) (b1:aa≤15) (p0: -2147483648≤af) (p1:af≤2147483647) (i0: -2147483648≤ai) (i1:ai≤2147483647) (c0:0≤cc) (c1:cc≤15) (hm:bL 16 w ab ae aa af ai cc=true):aQ Zy 43 ([xD 16 w ab ae aa af ai cc]) (.aL [bj 1 (bD (aD 16 w ab ae aa af ai cc)),aq 0]):=by
 have c0:= @bg 16 w ab ae aa af ai cc (by decide)
 rw [hm] at c0
 have c1:= @dg 16 (by decide)
 rcases cI (bW (w==64) ab ae false) with h2|h2
 ·have c3:= @eP ab ae d0 d1 s0 s1 (w==64) false h2
  generalize g5:da (w==64) ab ae=r4 at c3
  have c6:= @jw ab ae d0 d1 s0 s1
  generalize g8:bm ab ae=r7 at c6
  exact (kT (d:= .aL [.bc (.fresh 1) 1 [ay r4,ay 15,ay 175,ay r7],aq 0]) [aw c0,tF,aw c1,tF,tT,aw c3,aw c6,aO,.go 64,tT,tT,bN 1,tT,tT,bN 2,tT,tT,bN 3,tT,tT,bN 4,tF]).to (by subst_vars;(try simp only [aW] at*);(try simp only [cF] at h);(try simp only [bX,cJ] at*);simp_all [wk,a7,cH,aD,show aC 16=2 from rfl,bh,bD,bp,bA,a8,bw])
 have c9:= @fV ab ae d0 d1 s0 s1 (w==64) false h2
 have Tp:= @jw ab ae d0 d1 s0 s1
 generalize g12:bm ab ae=TN at Tp
 exact (kT (d:= .aL [.bc (.fresh 1) 1 [ay 15,ay 175,ay TN],aq 0]) [aw c0,tF,aw c1,tF,tT,aw c9,aw Tp,aO,.go 64,tT,tT,bN 0,tT,tT,bN 1,tT,tT,bN 2,tT,tT,bN 3,tF]).to (by subst_vars;(try simp only [aW] at*);(try simp only [cF] at h);(try simp only [bX,cJ] at*);simp_all [wk,a7,cH,aD,show aC 16=2 from rfl,bh,bD,bp,bA,a8,bw])
theorem DT (op w ab ae aa af ai cc:Int) (ho:op≤127) (d0:0≤ab) (d1:ab≤15) (s0:0≤ae) (s1:ae≤15) (b0:0≤aa) (b1:aa≤15) (p0: -2147483648≤af) (p1:af≤2147483647) (i0: -2147483648≤ai) (i1:ai≤2147483647) (c0:0≤cc) (c1:cc≤15) (n0:0≤bO op) (n1:bO op≤7) (h:(aC op==5)=true) (TD:decide (0≤op∧op≤31)=true) (hm:bL op w ab ae aa af ai cc=true):aQ Zy 43 ([xD op w ab ae aa af ai cc]) (.aL [bj 1 (bD (aD op w ab ae aa af ai cc)),aq 0]):=by
 have c0:= @bg op w ab ae aa af ai cc ho
 rw [hm] at c0
 have c1:= @dg op ho
 rw [eq_of_beq h] at c1
 generalize g3:bh op=r2 at c1
 generalize g5:bO op=r4 at c1
 rcases cI (bW (w==64) 0 ab false) with h6|h6
 ·have c7:= @eP 0 ab (by decide) (by decide) d0 d1 (w==64) false h6
  generalize g9:da (w==64) 0 ab=r8 at c7
  have Tp:= @jw r4 ab (by (simp only [cO] at*;omega)) (by (simp only [cO] at*;omega)) d0 d1
  generalize g12:bm r4 ab=TN at Tp
  exact (kT (d:= .aL [.bc (.fresh 1) 1 [ay r8,ay r2,ay TN],aq 0]) [aw c0,tF,aw c1,tF,tF,tF,tF,tF,tT,aw c7,aw Tp,aO,.go 64,tT,tT,bN 1,tT,tT,bN 2,tT,tT,bN 3,tF]).to (by subst_vars;(try simp only [aW] at*);(try simp only [cF] at h);(try simp only [bX,cJ] at*);simp_all [wk,a7,cH,aD,bD,bp,bA,a8,bw])
 have TF:= @fV 0 ab (by decide) (by decide) d0 d1 (w==64) false h6
 have T0:= @jw r4 ab (by (simp only [cO] at*;omega)) (by (simp only [cO] at*;omega)) d0 d1
 generalize g16:bm r4 ab=Vx at T0
 exact (kT (d:= .aL [.bc (.fresh 1) 1 [ay r2,ay Vx],aq 0]) [aw c0,tF,aw c1,tF,tF,tF,tF,tF,tT,aw TF,aw T0,aO,.go 64,tT,tT,bN 0,tT,tT,bN 1,tT,tT,bN 2,tF]).to (by subst_vars;(try simp only [aW] at*);(try simp only [cF] at h);(try simp only [bX,cJ] at*);simp_all [wk,a7,cH,aD,bD,bp,bA,a8,bw])
end Go.Proofs.YtbfpahigdpigpaaGreat
