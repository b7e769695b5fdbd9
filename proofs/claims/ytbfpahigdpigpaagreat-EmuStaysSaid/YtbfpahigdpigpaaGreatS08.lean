import Derived.Test.YtbfpahigdpigpaaGreatS06
import Derived.Test.YtbfpahigdpigpaaGreatS07
open List renaming replicate→Xg
open Go.Proofs.Tryz renaming prog→Xh
open Bool renaming eq_iff_iff→Xn
/- Contracts and plain laws that a statement's proof leans on (texts merged:XMay0,XMay1,XMay2,XMay3,XMayA,XRef0,XRef1,XRef2,XRef3). -/
set_option linter.unusedVariables false
set_option linter.unusedSimpArgs false
set_option maxRecDepth 100000
set_option maxHeartbeats 8000000
namespace Go.Proofs.YtbfpahigdpigpaaGreat
open Go Go.Ev
theorem Fc (op w ab ae aa af aq cc:Int) (ho:op≤127) (h:(aF op==0)=true) (Q4:decide (0≤op∧op≤31)=false):aY Xh 72 ([xD op w ab ae aa af aq cc]) (ax (a8 op w ab ae aa af aq cc)):=by
 have c0:= @dr op ho
 rw [show (aF op)=0 from (eq_of_beq h)] at c0
 generalize g2:bq op=r1 at c0
 generalize g4:bW op=r3 at c0
 exact (ey (d:= .bool false) ([aw c0]++Xg 6 (tC (eF (nt Q4)))++([tC (nt Q4)]++bK 26 50872848))).to (by (try simp only [cj,aC,sM] at*);(simp [aC,sM, *];done))
theorem Fb (op w ab ae aa af aq cc:Int) (ho:op≤127) (h:(aF op==1)=true) (Q4:decide (0≤op∧op≤31)=true):aY Xh 72 ([xD op w ab ae aa af aq cc]) (ax (a8 op w ab ae aa af aq cc)):=by
 have c0:= @dr op ho
 rw [show (aF op)=1 from (eq_of_beq h)] at c0
 generalize g2:bq op=r1 at c0
 generalize g4:bW op=r3 at c0
 have c5:= @Gw op w ab ae aa af aq cc 1 (rfl:true=true)
 let E1:EL:=([aw c0]++Xg 4 (tC (eF (nt Q4)))++ [aw c5,tC (eF (nt Q4)),tC (eF (nt Q4)),.flat _ _ eh,tC (nt Q4)])
 rcases cQ (bA [aj 0,aj 0,aj 0,aj 0,aj aa,ao af,ao aq,aj cc] [aj 0,aj 0,aj 0,aj 0,aj 0,ao 0,ao 0,aj 0]) with h6|h6
 ·have c7:= @ea ab
  generalize g9:aL ab=r8 at c7
  let E2:EL:=E1++Xg 3 (tC (eF (nt h6)))++ [aw c7,tC (eF (nt h6)),tC (nt h6)]
  cases r8
  ·exact (ey (d:= .bool false) (E2++(bK 21 1589776))).to (by clear E1 E2;(try simp only [cj,aC,sM] at*);(simp [aC,sM, *];done))
  have QS:= @ea ae
  generalize g12:aL ae=Rf at QS
  let E3:EL:=E2++ [tT,tT,tT,aw QS,tT,tF]
  cases Rf
  ·exact (ey (d:= .bool false) (E3++(bK 16 49680))).to (by clear E1 E2 E3;(try simp only [cj,aC,sM] at*);(simp [aC,sM, *];done))
  have Q8:= @ea aa
  generalize g15:aL aa=RG at Q8
  let E4:EL:=E3++ [tT,tT,tT,aw Q8,tT,tF]
  cases RG
  ·exact (ey (d:= .bool false) (E4++(bK 11 1552))).to (by clear E1 E2 E3 E4;(try simp only [cj,aC,sM] at*);(simp [aC,sM, *];done))
  have Q9:= @b9 af (-2147483648) 2147483647
  let E5:EL:=E4++ [tT,tT,tT,aw Q9,tT,tF]
  rcases cQ (decide (af<(-2147483648))) with h17|h17
  ·exact (ey (d:= .bool false) (E5++Xg 4 (tC (eF (nt (dB (y:=decide (af≤2147483647)) (bO (-2147483648) h17)))))++ [tC (nt (dB (y:=decide (af≤2147483647)) (bO (-2147483648) h17))),tT])).to (by clear E1 E2 E3 E4 E5;(try simp only [cj,aC,sM] at*);(simp [aC,sM, *];omega))
  rcases cQ (decide (af<2147483648)) with h18|h18
  ·have RO:= @b9 aq (-2147483648) 2147483647
   let E6:EL:=E5++Xg 3 (tC (eF (nt (a7 (bO (-2147483648) h17) (eB 2147483647 h18)))))++ [aw RO,tC (eF (nt (a7 (bO (-2147483648) h17) (eB 2147483647 h18)))),tC (nt (a7 (bO (-2147483648) h17) (eB 2147483647 h18)))]
   rcases cQ (decide (aq<(-2147483648))) with h20|h20
   ·exact (ey (d:= .bool false) (E6++ [tC (nt (dB (y:=decide (aq≤2147483647)) (bO (-2147483648) h20)))])).to (by clear E1 E2 E3 E4 E5 E6;(try simp only [cj,aC,sM] at*);(simp [aC,sM, *];omega))
   rcases cQ (decide (aq<2147483648)) with h21|h21
   ·let E7:EL:=E6++ [tC (nt (a7 (bO (-2147483648) h20) (eB 2147483647 h21)))]
    by_cases h22:w=32
    ·subst h22
     exact (ey (d:= .bool true) (E7++(bK 12 3592))).to (by clear E1 E2 E3 E4 E5 E6 E7;(try simp only [cj,aC,sM] at*);(rw [Xn];simp [aC,sM, *];grind))
    let E8:EL:=E7++Xg 3 (tC (eF (aH h22)))++ [tC (aH h22)]++Xg 4 (tC (eF (aH h22)))
    by_cases h23:w=8
    ·subst h23
     have Ss:= @b9 aq (-128) 127
     exact (ey (d:= .bool false) (E8++ [tT,tT,tT,aw Ss,tT,tT,tF,tT,tT])).to (by clear E1 E2 E3 E4 E5 E6 E7 E8;(try simp only [cj,aC,sM] at*);(simp [aC,sM, *];done))
    exact (ey (d:= .bool (w==64)) (E8++Xg 3 (tC (eT (aH h23)))++ [tC (eF (aH h22)),tC (aH h23),tC (aH h22),tT,tT])).to (by clear E1 E2 E3 E4 E5 E6 E7 E8;(try simp only [cj,aC,sM] at*);(rw [Xn];simp [aC,sM, *];grind))
   exact (ey (d:= .bool false) (E6++ [tC (nt (a7 (bO (-2147483648) h20) (eB 2147483647 h21)))])).to (by clear E1 E2 E3 E4 E5 E6;(try simp only [cj,aC,sM] at*);(simp [aC,sM, *];omega))
  exact (ey (d:= .bool false) (E5++Xg 4 (tC (eF (nt (a7 (bO (-2147483648) h17) (eB 2147483647 h18)))))++ [tC (nt (a7 (bO (-2147483648) h17) (eB 2147483647 h18))),tT])).to (by clear E1 E2 E3 E4 E5;(try simp only [cj,aC,sM] at*);(simp [aC,sM, *];omega))
 exact (ey (d:= .bool false) (E1++Xg 4 (tC (eF (nt h6)))++([tC (nt h6)]++bK 21 1589776))).to (by clear E1;(try simp only [cj,aC,sM] at*);(rw [Xn];simp [aC,sM, *];grind))
theorem Fa (op w ab ae aa af aq cc:Int) (ho:op≤127) (h:(aF op==2)=true) (Q4:decide (0≤op∧op≤31)=true):aY Xh 72 ([xD op w ab ae aa af aq cc]) (ax (a8 op w ab ae aa af aq cc)):=by
 have c0:= @dr op ho
 rw [show (aF op)=2 from (eq_of_beq h)] at c0
 generalize g2:bq op=r1 at c0
 generalize g4:bW op=r3 at c0
 have c5:= @Gv op w ab ae aa af aq cc 2 (rfl:true=true)
 let E1:EL:=([aw c0]++Xg 4 (tC (eF (nt Q4)))++ [aw c5,tC (eF (nt Q4)),tC (eF (nt Q4)),.flat _ _ eh,tC (nt Q4)])
 rcases cQ (bA [aj 0,aj 0,aj 0,aj 0,aj aa,ao af,ao aq,aj cc] [aj 0,aj 0,aj 0,aj 0,aj 0,ao 0,ao 0,aj 0]) with h6|h6
 ·have c7:= @ea ab
  generalize g9:aL ab=r8 at c7
  let E2:EL:=E1++Xg 3 (tC (eF (nt h6)))++ [aw c7,tC (eF (nt h6)),tC (nt h6)]
  cases r8
  ·exact (ey (d:= .bool false) (E2++(bK 21 1589776))).to (by clear E1 E2;(try simp only [cj,aC,sM] at*);(simp [aC,sM, *];done))
  have QS:= @ea ae
  generalize g12:aL ae=Rf at QS
  let E3:EL:=E2++ [tT,tT,tT,aw QS,tT,tF]
  cases Rf
  ·exact (ey (d:= .bool false) (E3++(bK 16 49680))).to (by clear E1 E2 E3;(try simp only [cj,aC,sM] at*);(simp [aC,sM, *];done))
  have Q8:= @ea aa
  generalize g15:aL aa=RG at Q8
  let E4:EL:=E3++ [tT,tT,tT,aw Q8,tT,tF]
  cases RG
  ·exact (ey (d:= .bool false) (E4++(bK 11 1552))).to (by clear E1 E2 E3 E4;(try simp only [cj,aC,sM] at*);(simp [aC,sM, *];done))
  have Q9:= @b9 af (-2147483648) 2147483647
  let E5:EL:=E4++ [tT,tT,tT,aw Q9,tT,tF]
  rcases cQ (decide (af<(-2147483648))) with h17|h17
  ·exact (ey (d:= .bool false) (E5++Xg 4 (tC (eF (nt (dB (y:=decide (af≤2147483647)) (bO (-2147483648) h17)))))++ [tC (nt (dB (y:=decide (af≤2147483647)) (bO (-2147483648) h17))),tT])).to (by clear E1 E2 E3 E4 E5;(try simp only [cj,aC,sM] at*);(simp [aC,sM, *];omega))
  rcases cQ (decide (af<2147483648)) with h18|h18
  ·have RO:= @b9 aq (-2147483648) 2147483647
   let E6:EL:=E5++Xg 3 (tC (eF (nt (a7 (bO (-2147483648) h17) (eB 2147483647 h18)))))++ [aw RO,tC (eF (nt (a7 (bO (-2147483648) h17) (eB 2147483647 h18)))),tC (nt (a7 (bO (-2147483648) h17) (eB 2147483647 h18)))]
   rcases cQ (decide (aq<(-2147483648))) with h20|h20
   ·exact (ey (d:= .bool false) (E6++ [tC (nt (dB (y:=decide (aq≤2147483647)) (bO (-2147483648) h20)))])).to (by clear E1 E2 E3 E4 E5 E6;(try simp only [cj,aC,sM] at*);(simp [aC,sM, *];omega))
   rcases cQ (decide (aq<2147483648)) with h21|h21
   ·let E7:EL:=E6++ [tC (nt (a7 (bO (-2147483648) h20) (eB 2147483647 h21)))]
    by_cases h22:w=32
    ·subst h22
     exact (ey (d:= .bool true) (E7++(bK 13 6664))).to (by clear E1 E2 E3 E4 E5 E6 E7;(try simp only [cj,aC,sM] at*);(rw [Xn];simp [aC,sM, *];grind))
    let E8:EL:=E7++Xg 3 (tC (eF (aH h22)))++ [tC (aH h22)]++Xg 4 (tC (eF (aH h22)))
    by_cases h23:w=8
    ·subst h23
     have Ss:= @b9 aq (-128) 127
     exact (ey (d:= .bool false) (E8++ [tT,tT,tT,aw Ss,tT,tT,tF,tF,tT,tT])).to (by clear E1 E2 E3 E4 E5 E6 E7 E8;(try simp only [cj,aC,sM] at*);(simp [aC,sM, *];done))
    exact (ey (d:= .bool (w==64)) (E8++Xg 3 (tC (eT (aH h23)))++ [tC (eF (aH h22)),tC (aH h23),tC (aH h22),tF,tT,tT])).to (by clear E1 E2 E3 E4 E5 E6 E7 E8;(try simp only [cj,aC,sM] at*);(rw [Xn];simp [aC,sM, *];grind))
   exact (ey (d:= .bool false) (E6++ [tC (nt (a7 (bO (-2147483648) h20) (eB 2147483647 h21)))])).to (by clear E1 E2 E3 E4 E5 E6;(try simp only [cj,aC,sM] at*);(simp [aC,sM, *];omega))
  exact (ey (d:= .bool false) (E5++Xg 4 (tC (eF (nt (a7 (bO (-2147483648) h17) (eB 2147483647 h18)))))++ [tC (nt (a7 (bO (-2147483648) h17) (eB 2147483647 h18))),tT])).to (by clear E1 E2 E3 E4 E5;(try simp only [cj,aC,sM] at*);(simp [aC,sM, *];omega))
 exact (ey (d:= .bool false) (E1++Xg 4 (tC (eF (nt h6)))++([tC (nt h6)]++bK 21 1589776))).to (by clear E1;(try simp only [cj,aC,sM] at*);(rw [Xn];simp [aC,sM, *];grind))
def sD (Q3:Int):Prop:= ∀(op w ab ae aa af aq cc:Int) (ho:op≤127) (h:(aF op==Q3)=true) (Q4:decide (0≤op∧op≤31)=true),aY Xh 72 ([xD op w ab ae aa af aq cc]) (ax (a8 op w ab ae aa af aq cc))
theorem EZ:sD 3:=by
 intro op w ab ae aa af aq cc ho h Q4
 have c0:= @dr op ho
 rw [eq_of_beq h] at c0
 generalize g2:bq op=r1 at c0
 generalize g4:bW op=r3 at c0
 have c5:= @Gu op w ab ae aa af aq cc 3 (rfl:true=true)
 let E1:EL:=([aw c0]++Xg 4 (tC (eF (nt Q4)))++ [aw c5,tC (eF (nt Q4)),tC (eF (nt Q4)),.flat _ _ eh,tC (nt Q4)])
 rcases cQ (bA [aj 0,aj 0,aj 0,aj ae,aj aa,ao af,ao 0,aj cc] [aj 0,aj 0,aj 0,aj 0,aj 0,ao 0,ao 0,aj 0]) with h6|h6
 ·have c7:= @ea ab
  generalize g9:aL ab=r8 at c7
  let E2:EL:=E1++Xg 3 (tC (eF (nt h6)))++ [aw c7,tC (eF (nt h6)),tC (nt h6)]
  cases r8
  ·exact (ey (d:= .bool false) (E2++(bK 21 1589776))).to (by clear E1 E2;(try simp only [cj,aC,sM] at*);(simp [aC,sM, *];done))
  have QS:= @ea ae
  generalize g12:aL ae=Rf at QS
  let E3:EL:=E2++ [tT,tT,tT,aw QS,tT,tF]
  cases Rf
  ·exact (ey (d:= .bool false) (E3++(bK 16 49680))).to (by clear E1 E2 E3;(try simp only [cj,aC,sM] at*);(simp [aC,sM, *];done))
  have Q8:= @ea aa
  generalize g15:aL aa=RG at Q8
  let E4:EL:=E3++ [tT,tT,tT,aw Q8,tT,tF]
  cases RG
  ·exact (ey (d:= .bool false) (E4++(bK 11 1552))).to (by clear E1 E2 E3 E4;(try simp only [cj,aC,sM] at*);(simp [aC,sM, *];done))
  have Q9:= @b9 af (-2147483648) 2147483647
  let E5:EL:=E4++ [tT,tT,tT,aw Q9,tT,tF]
  rcases cQ (decide (af<(-2147483648))) with h17|h17
  ·exact (ey (d:= .bool false) (E5++Xg 4 (tC (eF (nt (dB (y:=decide (af≤2147483647)) (bO (-2147483648) h17)))))++ [tC (nt (dB (y:=decide (af≤2147483647)) (bO (-2147483648) h17))),tT])).to (by clear E1 E2 E3 E4 E5;(try simp only [cj,aC,sM] at*);(simp [aC,sM, *];omega))
  rcases cQ (decide (af<2147483648)) with h18|h18
  ·have RO:= @b9 aq (-2147483648) 2147483647
   let E6:EL:=E5++Xg 3 (tC (eF (nt (a7 (bO (-2147483648) h17) (eB 2147483647 h18)))))++ [aw RO,tC (eF (nt (a7 (bO (-2147483648) h17) (eB 2147483647 h18)))),tC (nt (a7 (bO (-2147483648) h17) (eB 2147483647 h18)))]
   rcases cQ (decide (aq<(-2147483648))) with h20|h20
   ·exact (ey (d:= .bool false) (E6++ [tC (nt (dB (y:=decide (aq≤2147483647)) (bO (-2147483648) h20)))])).to (by clear E1 E2 E3 E4 E5 E6;(try simp only [cj,aC,sM] at*);(simp [aC,sM, *];omega))
   rcases cQ (decide (aq<2147483648)) with h21|h21
   ·let E7:EL:=E6++ [tC (nt (a7 (bO (-2147483648) h20) (eB 2147483647 h21)))]
    by_cases h22:w=32
    ·subst h22
     exact (ey (d:= .bool true) (E7++(bK 14 12808))).to (by clear E1 E2 E3 E4 E5 E6 E7;(try simp only [cj,aC,sM] at*);(rw [Xn];simp [aC,sM, *];grind))
    let E8:EL:=E7++Xg 3 (tC (eF (aH h22)))++ [tC (aH h22)]++Xg 4 (tC (eF (aH h22)))
    by_cases h23:w=8
    ·subst h23
     have Ss:= @b9 aq (-128) 127
     exact (ey (d:= .bool false) (E8++ [tT,tT,tT,aw Ss,tT,tT,tF,tF,tF,tT,tT])).to (by clear E1 E2 E3 E4 E5 E6 E7 E8;(try simp only [cj,aC,sM] at*);(simp [aC,sM, *];done))
    exact (ey (d:= .bool (w==64)) (E8++Xg 3 (tC (eT (aH h23)))++ [tC (eF (aH h22)),tC (aH h23),tC (aH h22),tF,tF,tT,tT])).to (by clear E1 E2 E3 E4 E5 E6 E7 E8;(try simp only [cj,aC,sM] at*);(rw [Xn];simp [aC,sM, *];grind))
   exact (ey (d:= .bool false) (E6++ [tC (nt (a7 (bO (-2147483648) h20) (eB 2147483647 h21)))])).to (by clear E1 E2 E3 E4 E5 E6;(try simp only [cj,aC,sM] at*);(simp [aC,sM, *];omega))
  exact (ey (d:= .bool false) (E5++Xg 4 (tC (eF (nt (a7 (bO (-2147483648) h17) (eB 2147483647 h18)))))++ [tC (nt (a7 (bO (-2147483648) h17) (eB 2147483647 h18))),tT])).to (by clear E1 E2 E3 E4 E5;(try simp only [cj,aC,sM] at*);(simp [aC,sM, *];omega))
 exact (ey (d:= .bool false) (E1++Xg 4 (tC (eF (nt h6)))++([tC (nt h6)]++bK 21 1589776))).to (by clear E1;(try simp only [cj,aC,sM] at*);(rw [Xn];simp [aC,sM, *];grind))
theorem EY:sD 4:=by
 intro op w ab ae aa af aq cc ho h Q4
 have c0:= @dr op ho
 rw [eq_of_beq h] at c0
 generalize g2:bq op=r1 at c0
 generalize g4:bW op=r3 at c0
 have c5:= @Gt op w ab ae aa af aq cc 4 (rfl:true=true)
 let E1:EL:=([aw c0]++Xg 4 (tC (eF (nt Q4)))++ [aw c5,tC (eF (nt Q4)),tC (eF (nt Q4)),.flat _ _ eh,tC (nt Q4)])
 rcases cQ (bA [aj 0,aj 0,aj 0,aj ae,aj aa,ao af,ao 0,aj cc] [aj 0,aj 0,aj 0,aj 0,aj 0,ao 0,ao 0,aj 0]) with h6|h6
 ·have c7:= @ea ab
  generalize g9:aL ab=r8 at c7
  let E2:EL:=E1++Xg 3 (tC (eF (nt h6)))++ [aw c7,tC (eF (nt h6)),tC (nt h6)]
  cases r8
  ·exact (ey (d:= .bool false) (E2++(bK 21 1589776))).to (by clear E1 E2;(try simp only [cj,aC,sM] at*);(simp [aC,sM, *];done))
  have QS:= @ea ae
  generalize g12:aL ae=Rf at QS
  let E3:EL:=E2++ [tT,tT,tT,aw QS,tT,tF]
  cases Rf
  ·exact (ey (d:= .bool false) (E3++(bK 16 49680))).to (by clear E1 E2 E3;(try simp only [cj,aC,sM] at*);(simp [aC,sM, *];done))
  have Q8:= @ea aa
  generalize g15:aL aa=RG at Q8
  let E4:EL:=E3++ [tT,tT,tT,aw Q8,tT,tF]
  cases RG
  ·exact (ey (d:= .bool false) (E4++(bK 11 1552))).to (by clear E1 E2 E3 E4;(try simp only [cj,aC,sM] at*);(simp [aC,sM, *];done))
  have Q9:= @b9 af (-2147483648) 2147483647
  let E5:EL:=E4++ [tT,tT,tT,aw Q9,tT,tF]
  rcases cQ (decide (af<(-2147483648))) with h17|h17
  ·exact (ey (d:= .bool false) (E5++Xg 4 (tC (eF (nt (dB (y:=decide (af≤2147483647)) (bO (-2147483648) h17)))))++ [tC (nt (dB (y:=decide (af≤2147483647)) (bO (-2147483648) h17))),tT])).to (by clear E1 E2 E3 E4 E5;(try simp only [cj,aC,sM] at*);(simp [aC,sM, *];omega))
  rcases cQ (decide (af<2147483648)) with h18|h18
  ·have RO:= @b9 aq (-2147483648) 2147483647
   let E6:EL:=E5++Xg 3 (tC (eF (nt (a7 (bO (-2147483648) h17) (eB 2147483647 h18)))))++ [aw RO,tC (eF (nt (a7 (bO (-2147483648) h17) (eB 2147483647 h18)))),tC (nt (a7 (bO (-2147483648) h17) (eB 2147483647 h18)))]
   rcases cQ (decide (aq<(-2147483648))) with h20|h20
   ·exact (ey (d:= .bool false) (E6++ [tC (nt (dB (y:=decide (aq≤2147483647)) (bO (-2147483648) h20)))])).to (by clear E1 E2 E3 E4 E5 E6;(try simp only [cj,aC,sM] at*);(simp [aC,sM, *];omega))
   rcases cQ (decide (aq<2147483648)) with h21|h21
   ·let E7:EL:=E6++ [tC (nt (a7 (bO (-2147483648) h20) (eB 2147483647 h21)))]
    by_cases h22:w=32
    ·subst h22
     have RS:= @b9 aq 0 31
     exact (ey (d:= .bool (decide (0≤aq)&&decide (aq≤31))) (E7++(bK 14 520)++Xg 8 tT++ [aw RS,tT])).to (by clear E1 E2 E3 E4 E5 E6 E7;(try simp only [cj,aC,sM] at*);(rw [Xn];simp [aC,sM, *];grind))
    let E8:EL:=E7++Xg 3 (tC (eF (aH h22)))++ [tC (aH h22)]++Xg 4 (tC (eF (aH h22)))
    by_cases h24:w=8
    ·subst h24
     have UF:= @b9 aq (-128) 127
     exact (ey (d:= .bool false) (E8++([tT,tT,tT,aw UF]++bK 8 131)++Xg 8 tF)).to (by clear E1 E2 E3 E4 E5 E6 E7 E8;(try simp only [cj,aC,sM] at*);(simp [aC,sM, *];done))
    let E9:EL:=E8++Xg 3 (tC (eT (aH h24)))++ [tC (eF (aH h22)),tC (aH h24),tC (aH h22),tF,tF,tF,tF,tT]
    by_cases h26:w=64
    ·subst h26
     have Sh:= @b9 aq 0 63
     exact (ey (d:= .bool (decide (0≤aq)&&decide (aq≤63))) (E9++ [tT,tT,tT,tT,tT,tT,tT,aw Sh,tT])).to (by clear E1 E2 E3 E4 E5 E6 E7 E8 E9;(try simp only [cj,aC,sM] at*);(rw [Xn];simp [aC,sM, *];grind))
    exact (ey (d:= .bool false) (E9++Xg 7 (tC (eT (aH h26)))++ [tC (aH h26)])).to (by clear E1 E2 E3 E4 E5 E6 E7 E8 E9;(try simp only [cj,aC,sM] at*);(simp [aC,sM, *];done))
   exact (ey (d:= .bool false) (E6++ [tC (nt (a7 (bO (-2147483648) h20) (eB 2147483647 h21)))])).to (by clear E1 E2 E3 E4 E5 E6;(try simp only [cj,aC,sM] at*);(simp [aC,sM, *];omega))
  exact (ey (d:= .bool false) (E5++Xg 4 (tC (eF (nt (a7 (bO (-2147483648) h17) (eB 2147483647 h18)))))++ [tC (nt (a7 (bO (-2147483648) h17) (eB 2147483647 h18))),tT])).to (by clear E1 E2 E3 E4 E5;(try simp only [cj,aC,sM] at*);(simp [aC,sM, *];omega))
 exact (ey (d:= .bool false) (E1++Xg 4 (tC (eF (nt h6)))++([tC (nt h6)]++bK 21 1589776))).to (by clear E1;(try simp only [cj,aC,sM] at*);(rw [Xn];simp [aC,sM, *];grind))
theorem EX:sD 5:=by
 intro op w ab ae aa af aq cc ho h Q4
 have c0:= @dr op ho
 rw [eq_of_beq h] at c0
 generalize g2:bq op=r1 at c0
 generalize g4:bW op=r3 at c0
 have c5:= @Gs op w ab ae aa af aq cc 5 (rfl:true=true)
 let E1:EL:=([aw c0]++Xg 4 (tC (eF (nt Q4)))++ [aw c5,tC (eF (nt Q4)),tC (eF (nt Q4)),.flat _ _ eh,tC (nt Q4)])
 rcases cQ (bA [aj 0,aj 0,aj 0,aj ae,aj aa,ao af,ao aq,aj cc] [aj 0,aj 0,aj 0,aj 0,aj 0,ao 0,ao 0,aj 0]) with h6|h6
 ·have c7:= @ea ab
  generalize g9:aL ab=r8 at c7
  let E2:EL:=E1++Xg 3 (tC (eF (nt h6)))++ [aw c7,tC (eF (nt h6)),tC (nt h6)]
  cases r8
  ·exact (ey (d:= .bool false) (E2++(bK 21 1589776))).to (by clear E1 E2;(try simp only [cj,aC,sM] at*);(simp [aC,sM, *];done))
  have QS:= @ea ae
  generalize g12:aL ae=Rf at QS
  let E3:EL:=E2++ [tT,tT,tT,aw QS,tT,tF]
  cases Rf
  ·exact (ey (d:= .bool false) (E3++(bK 16 49680))).to (by clear E1 E2 E3;(try simp only [cj,aC,sM] at*);(simp [aC,sM, *];done))
  have Q8:= @ea aa
  generalize g15:aL aa=RG at Q8
  let E4:EL:=E3++ [tT,tT,tT,aw Q8,tT,tF]
  cases RG
  ·exact (ey (d:= .bool false) (E4++(bK 11 1552))).to (by clear E1 E2 E3 E4;(try simp only [cj,aC,sM] at*);(simp [aC,sM, *];done))
  have Q9:= @b9 af (-2147483648) 2147483647
  let E5:EL:=E4++ [tT,tT,tT,aw Q9,tT,tF]
  rcases cQ (decide (af<(-2147483648))) with h17|h17
  ·exact (ey (d:= .bool false) (E5++Xg 4 (tC (eF (nt (dB (y:=decide (af≤2147483647)) (bO (-2147483648) h17)))))++ [tC (nt (dB (y:=decide (af≤2147483647)) (bO (-2147483648) h17))),tT])).to (by clear E1 E2 E3 E4 E5;(try simp only [cj,aC,sM] at*);(simp [aC,sM, *];omega))
  rcases cQ (decide (af<2147483648)) with h18|h18
  ·have RO:= @b9 aq (-2147483648) 2147483647
   let E6:EL:=E5++Xg 3 (tC (eF (nt (a7 (bO (-2147483648) h17) (eB 2147483647 h18)))))++ [aw RO,tC (eF (nt (a7 (bO (-2147483648) h17) (eB 2147483647 h18)))),tC (nt (a7 (bO (-2147483648) h17) (eB 2147483647 h18)))]
   rcases cQ (decide (aq<(-2147483648))) with h20|h20
   ·exact (ey (d:= .bool false) (E6++ [tC (nt (dB (y:=decide (aq≤2147483647)) (bO (-2147483648) h20)))])).to (by clear E1 E2 E3 E4 E5 E6;(try simp only [cj,aC,sM] at*);(simp [aC,sM, *];omega))
   rcases cQ (decide (aq<2147483648)) with h21|h21
   ·let E7:EL:=E6++ [tC (nt (a7 (bO (-2147483648) h20) (eB 2147483647 h21)))]
    by_cases h22:w=32
    ·subst h22
     exact (ey (d:= .bool true) (E7++(bK 14 8712))).to (by clear E1 E2 E3 E4 E5 E6 E7;(try simp only [cj,aC,sM] at*);(rw [Xn];simp [aC,sM, *];grind))
    let E8:EL:=E7++Xg 3 (tC (eF (aH h22)))++ [tC (aH h22)]++Xg 4 (tC (eF (aH h22)))
    by_cases h23:w=8
    ·subst h23
     have Ss:= @b9 aq (-128) 127
     exact (ey (d:= .bool false) (E8++ [tT,tT,tT,aw Ss,tT,tT,tF,tF,tF,tF,tT])).to (by clear E1 E2 E3 E4 E5 E6 E7 E8;(try simp only [cj,aC,sM] at*);(simp [aC,sM, *];done))
    exact (ey (d:= .bool (w==64)) (E8++Xg 3 (tC (eT (aH h23)))++ [tC (eF (aH h22)),tC (aH h23),tC (aH h22),tF,tF,tF,tT])).to (by clear E1 E2 E3 E4 E5 E6 E7 E8;(try simp only [cj,aC,sM] at*);(rw [Xn];simp [aC,sM, *];grind))
   exact (ey (d:= .bool false) (E6++ [tC (nt (a7 (bO (-2147483648) h20) (eB 2147483647 h21)))])).to (by clear E1 E2 E3 E4 E5 E6;(try simp only [cj,aC,sM] at*);(simp [aC,sM, *];omega))
  exact (ey (d:= .bool false) (E5++Xg 4 (tC (eF (nt (a7 (bO (-2147483648) h17) (eB 2147483647 h18)))))++ [tC (nt (a7 (bO (-2147483648) h17) (eB 2147483647 h18))),tT])).to (by clear E1 E2 E3 E4 E5;(try simp only [cj,aC,sM] at*);(simp [aC,sM, *];omega))
 exact (ey (d:= .bool false) (E1++Xg 4 (tC (eF (nt h6)))++([tC (nt h6)]++bK 21 1589776))).to (by clear E1;(try simp only [cj,aC,sM] at*);(rw [Xn];simp [aC,sM, *];grind))
def sC (Q3:Int):Prop:= ∀(op w ab ae aa af aq cc:Int) (ho:op≤127) (h:(aF op==Q3)=true) (Q4:decide (0≤op∧op≤31)=true),aY Xh 72 ([xD op w ab ae aa af aq cc]) (ax (a8 op w ab ae aa af aq cc))
theorem EW:sC 6:=by
 intro op w ab ae aa af aq cc ho h Q4
 have c0:= @dr op ho
 rw [eq_of_beq h] at c0
 generalize g2:bq op=r1 at c0
 generalize g4:bW op=r3 at c0
 have c5:= @Gr op w ab ae aa af aq cc 6 (rfl:true=true)
 let E1:EL:=([aw c0]++Xg 4 (tC (eF (nt Q4)))++ [aw c5,tC (eF (nt Q4)),tC (eF (nt Q4)),.flat _ _ eh,tC (nt Q4)])
 rcases cQ (bA [aj 0,aj 0,aj 0,aj 0,aj aa,ao af,ao aq,aj 0] [aj 0,aj 0,aj 0,aj 0,aj 0,ao 0,ao 0,aj 0]) with h6|h6
 ·have c7:= @ea ab
  generalize g9:aL ab=r8 at c7
  let E2:EL:=E1++Xg 3 (tC (eF (nt h6)))++ [aw c7,tC (eF (nt h6)),tC (nt h6)]
  cases r8
  ·exact (ey (d:= .bool false) (E2++(bK 21 1589776))).to (by clear E1 E2;(try simp only [cj,aC,sM] at*);(simp [aC,sM, *];done))
  have QS:= @ea ae
  generalize g12:aL ae=Rf at QS
  let E3:EL:=E2++ [tT,tT,tT,aw QS,tT,tF]
  cases Rf
  ·exact (ey (d:= .bool false) (E3++(bK 16 49680))).to (by clear E1 E2 E3;(try simp only [cj,aC,sM] at*);(simp [aC,sM, *];done))
  have Q8:= @ea aa
  generalize g15:aL aa=RG at Q8
  let E4:EL:=E3++ [tT,tT,tT,aw Q8,tT,tF]
  cases RG
  ·exact (ey (d:= .bool false) (E4++(bK 11 1552))).to (by clear E1 E2 E3 E4;(try simp only [cj,aC,sM] at*);(simp [aC,sM, *];done))
  have Q9:= @b9 af (-2147483648) 2147483647
  let E5:EL:=E4++ [tT,tT,tT,aw Q9,tT,tF]
  rcases cQ (decide (af<(-2147483648))) with h17|h17
  ·exact (ey (d:= .bool false) (E5++Xg 4 (tC (eF (nt (dB (y:=decide (af≤2147483647)) (bO (-2147483648) h17)))))++ [tC (nt (dB (y:=decide (af≤2147483647)) (bO (-2147483648) h17))),tT])).to (by clear E1 E2 E3 E4 E5;(try simp only [cj,aC,sM] at*);(simp [aC,sM, *];omega))
  rcases cQ (decide (af<2147483648)) with h18|h18
  ·have RO:= @b9 aq (-2147483648) 2147483647
   let E6:EL:=E5++Xg 3 (tC (eF (nt (a7 (bO (-2147483648) h17) (eB 2147483647 h18)))))++ [aw RO,tC (eF (nt (a7 (bO (-2147483648) h17) (eB 2147483647 h18)))),tC (nt (a7 (bO (-2147483648) h17) (eB 2147483647 h18)))]
   rcases cQ (decide (aq<(-2147483648))) with h20|h20
   ·exact (ey (d:= .bool false) (E6++ [tC (nt (dB (y:=decide (aq≤2147483647)) (bO (-2147483648) h20)))])).to (by clear E1 E2 E3 E4 E5 E6;(try simp only [cj,aC,sM] at*);(simp [aC,sM, *];omega))
   rcases cQ (decide (aq<2147483648)) with h21|h21
   ·let E7:EL:=E6++ [tC (nt (a7 (bO (-2147483648) h20) (eB 2147483647 h21)))]
    by_cases h22:w=32
    ·subst h22
     have RS:= @qw cc
     generalize g25:bB cc=r24 at RS
     exact (ey (d:= .bool r24) (E7++(bK 19 492040++ [aw RS,tT]))).to (by clear E1 E2 E3 E4 E5 E6 E7;(try simp only [cj,aC,sM] at*);(rw [Xn];simp [aC,sM, *];grind))
    let E8:EL:=E7++Xg 3 (tC (eF (aH h22)))++ [tC (aH h22)]++Xg 4 (tC (eF (aH h22)))
    by_cases h26:w=8
    ·subst h26
     have Sh:= @b9 aq (-128) 127
     exact (ey (d:= .bool false) (E8++([tT,tT,tT,aw Sh]++bK 13 259))).to (by clear E1 E2 E3 E4 E5 E6 E7 E8;(try simp only [cj,aC,sM] at*);(simp [aC,sM, *];done))
    let E9:EL:=E8++Xg 3 (tC (eT (aH h26)))++ [tC (eF (aH h22)),tC (aH h26),tC (aH h22),tF,tF,tF,tF,tF,tT]
    by_cases h28:w=64
    ·subst h28
     have VU:= @qw cc
     generalize g31:bB cc=r30 at VU
     exact (ey (d:= .bool r30) (E9++ [tT,tT,tT,aw VU,tT])).to (by clear E1 E2 E3 E4 E5 E6 E7 E8 E9;(try simp only [cj,aC,sM] at*);(rw [Xn];simp [aC,sM, *];grind))
    exact (ey (d:= .bool false) (E9++Xg 3 (tC (eT (aH h28)))++ [tC (aH h28)])).to (by clear E1 E2 E3 E4 E5 E6 E7 E8 E9;(try simp only [cj,aC,sM] at*);(simp [aC,sM, *];done))
   exact (ey (d:= .bool false) (E6++ [tC (nt (a7 (bO (-2147483648) h20) (eB 2147483647 h21)))])).to (by clear E1 E2 E3 E4 E5 E6;(try simp only [cj,aC,sM] at*);(simp [aC,sM, *];omega))
  exact (ey (d:= .bool false) (E5++Xg 4 (tC (eF (nt (a7 (bO (-2147483648) h17) (eB 2147483647 h18)))))++ [tC (nt (a7 (bO (-2147483648) h17) (eB 2147483647 h18))),tT])).to (by clear E1 E2 E3 E4 E5;(try simp only [cj,aC,sM] at*);(simp [aC,sM, *];omega))
 exact (ey (d:= .bool false) (E1++Xg 4 (tC (eF (nt h6)))++([tC (nt h6)]++bK 21 1589776))).to (by clear E1;(try simp only [cj,aC,sM] at*);(rw [Xn];simp [aC,sM, *];grind))
theorem EV:sC 7:=by
 intro op w ab ae aa af aq cc ho h Q4
 have c0:= @dr op ho
 rw [eq_of_beq h] at c0
 generalize g2:bq op=r1 at c0
 generalize g4:bW op=r3 at c0
 have c5:= @Gq op w ab ae aa af aq cc 7 (rfl:true=true)
 let E1:EL:=([aw c0]++Xg 4 (tC (eF (nt Q4)))++ [aw c5,tC (eF (nt Q4)),tC (eF (nt Q4)),.flat _ _ eh,tC (nt Q4)])
 rcases cQ (bA [aj 0,aj 0,aj 0,aj ae,aj 0,ao 0,ao aq,aj cc] [aj 0,aj 0,aj 0,aj 0,aj 0,ao 0,ao 0,aj 0]) with h6|h6
 ·have c7:= @ea ab
  generalize g9:aL ab=r8 at c7
  let E2:EL:=E1++Xg 3 (tC (eF (nt h6)))++ [aw c7,tC (eF (nt h6)),tC (nt h6)]
  cases r8
  ·exact (ey (d:= .bool false) (E2++(bK 21 1589776))).to (by clear E1 E2;(try simp only [cj,aC,sM] at*);(simp [aC,sM, *];done))
  have QS:= @ea ae
  generalize g12:aL ae=Rf at QS
  let E3:EL:=E2++ [tT,tT,tT,aw QS,tT,tF]
  cases Rf
  ·exact (ey (d:= .bool false) (E3++(bK 16 49680))).to (by clear E1 E2 E3;(try simp only [cj,aC,sM] at*);(simp [aC,sM, *];done))
  have Q8:= @ea aa
  generalize g15:aL aa=RG at Q8
  let E4:EL:=E3++ [tT,tT,tT,aw Q8,tT,tF]
  cases RG
  ·exact (ey (d:= .bool false) (E4++(bK 11 1552))).to (by clear E1 E2 E3 E4;(try simp only [cj,aC,sM] at*);(simp [aC,sM, *];done))
  have Q9:= @b9 af (-2147483648) 2147483647
  let E5:EL:=E4++ [tT,tT,tT,aw Q9,tT,tF]
  rcases cQ (decide (af<(-2147483648))) with h17|h17
  ·exact (ey (d:= .bool false) (E5++Xg 4 (tC (eF (nt (dB (y:=decide (af≤2147483647)) (bO (-2147483648) h17)))))++ [tC (nt (dB (y:=decide (af≤2147483647)) (bO (-2147483648) h17))),tT])).to (by clear E1 E2 E3 E4 E5;(try simp only [cj,aC,sM] at*);(simp [aC,sM, *];omega))
  rcases cQ (decide (af<2147483648)) with h18|h18
  ·have RO:= @b9 aq (-2147483648) 2147483647
   let E6:EL:=E5++Xg 3 (tC (eF (nt (a7 (bO (-2147483648) h17) (eB 2147483647 h18)))))++ [aw RO,tC (eF (nt (a7 (bO (-2147483648) h17) (eB 2147483647 h18)))),tC (nt (a7 (bO (-2147483648) h17) (eB 2147483647 h18)))]
   rcases cQ (decide (aq<(-2147483648))) with h20|h20
   ·exact (ey (d:= .bool false) (E6++ [tC (nt (dB (y:=decide (aq≤2147483647)) (bO (-2147483648) h20)))])).to (by clear E1 E2 E3 E4 E5 E6;(try simp only [cj,aC,sM] at*);(simp [aC,sM, *];omega))
   rcases cQ (decide (aq<2147483648)) with h21|h21
   ·let E7:EL:=E6++ [tC (nt (a7 (bO (-2147483648) h20) (eB 2147483647 h21)))]
    by_cases h22:w=32
    ·subst h22
     have RS:= @kT 32
     exact (ey (d:= .bool true) (E7++(bK 18 197128++ [aw RS]))).to (by clear E1 E2 E3 E4 E5 E6 E7;(try simp only [cj,aC,sM] at*);(rw [Xn];simp [aC,sM, *];grind))
    let E8:EL:=E7++Xg 3 (tC (eF (aH h22)))++ [tC (aH h22)]++Xg 4 (tC (eF (aH h22)))
    by_cases h24:w=8
    ·subst h24
     have UF:= @b9 aq (-128) 127
     have SO:= @kT 8
     exact (ey (d:= .bool true) (E8++([tT,tT,tT,aw UF]++bK 11 1539++ [aw SO]))).to (by clear E1 E2 E3 E4 E5 E6 E7 E8;(try simp only [cj,aC,sM] at*);(rw [Xn];simp [aC,sM, *];grind))
    have Sh:= @kT w
    generalize g29:ay w=r28 at Sh
    exact (ey (d:= .bool r28) (E8++Xg 3 (tC (eT (aH h24)))++([tC (eF (aH h22)),tC (aH h24),tC (aH h22)]++bK 8 192++ [aw Sh]))).to (by clear E1 E2 E3 E4 E5 E6 E7 E8;(try simp only [cj,aC,sM] at*);(rw [Xn];simp [aC,sM, *];grind))
   exact (ey (d:= .bool false) (E6++ [tC (nt (a7 (bO (-2147483648) h20) (eB 2147483647 h21)))])).to (by clear E1 E2 E3 E4 E5 E6;(try simp only [cj,aC,sM] at*);(simp [aC,sM, *];omega))
  exact (ey (d:= .bool false) (E5++Xg 4 (tC (eF (nt (a7 (bO (-2147483648) h17) (eB 2147483647 h18)))))++ [tC (nt (a7 (bO (-2147483648) h17) (eB 2147483647 h18))),tT])).to (by clear E1 E2 E3 E4 E5;(try simp only [cj,aC,sM] at*);(simp [aC,sM, *];omega))
 exact (ey (d:= .bool false) (E1++Xg 4 (tC (eF (nt h6)))++([tC (nt h6)]++bK 21 1589776))).to (by clear E1;(try simp only [cj,aC,sM] at*);(rw [Xn];simp [aC,sM, *];grind))
theorem EU:sC 8:=by
 intro op w ab ae aa af aq cc ho h Q4
 have c0:= @dr op ho
 rw [eq_of_beq h] at c0
 generalize g2:bq op=r1 at c0
 generalize g4:bW op=r3 at c0
 have c5:= @Gp op w ab ae aa af aq cc 8 (rfl:true=true)
 let E1:EL:=([aw c0]++Xg 4 (tC (eF (nt Q4)))++ [aw c5,tC (eF (nt Q4)),tC (eF (nt Q4)),.flat _ _ eh,tC (nt Q4)])
 rcases cQ (bA [aj 0,aj 0,aj ab,aj 0,aj 0,ao 0,ao aq,aj cc] [aj 0,aj 0,aj 0,aj 0,aj 0,ao 0,ao 0,aj 0]) with h6|h6
 ·have c7:= @ea ab
  generalize g9:aL ab=r8 at c7
  let E2:EL:=E1++Xg 3 (tC (eF (nt h6)))++ [aw c7,tC (eF (nt h6)),tC (nt h6)]
  cases r8
  ·exact (ey (d:= .bool false) (E2++(bK 21 1589776))).to (by clear E1 E2;(try simp only [cj,aC,sM] at*);(simp [aC,sM, *];done))
  have QS:= @ea ae
  generalize g12:aL ae=Rf at QS
  let E3:EL:=E2++ [tT,tT,tT,aw QS,tT,tF]
  cases Rf
  ·exact (ey (d:= .bool false) (E3++(bK 16 49680))).to (by clear E1 E2 E3;(try simp only [cj,aC,sM] at*);(simp [aC,sM, *];done))
  have Q8:= @ea aa
  generalize g15:aL aa=RG at Q8
  let E4:EL:=E3++ [tT,tT,tT,aw Q8,tT,tF]
  cases RG
  ·exact (ey (d:= .bool false) (E4++(bK 11 1552))).to (by clear E1 E2 E3 E4;(try simp only [cj,aC,sM] at*);(simp [aC,sM, *];done))
  have Q9:= @b9 af (-2147483648) 2147483647
  let E5:EL:=E4++ [tT,tT,tT,aw Q9,tT,tF]
  rcases cQ (decide (af<(-2147483648))) with h17|h17
  ·exact (ey (d:= .bool false) (E5++Xg 4 (tC (eF (nt (dB (y:=decide (af≤2147483647)) (bO (-2147483648) h17)))))++ [tC (nt (dB (y:=decide (af≤2147483647)) (bO (-2147483648) h17))),tT])).to (by clear E1 E2 E3 E4 E5;(try simp only [cj,aC,sM] at*);(simp [aC,sM, *];omega))
  rcases cQ (decide (af<2147483648)) with h18|h18
  ·have RO:= @b9 aq (-2147483648) 2147483647
   let E6:EL:=E5++Xg 3 (tC (eF (nt (a7 (bO (-2147483648) h17) (eB 2147483647 h18)))))++ [aw RO,tC (eF (nt (a7 (bO (-2147483648) h17) (eB 2147483647 h18)))),tC (nt (a7 (bO (-2147483648) h17) (eB 2147483647 h18)))]
   rcases cQ (decide (aq<(-2147483648))) with h20|h20
   ·exact (ey (d:= .bool false) (E6++ [tC (nt (dB (y:=decide (aq≤2147483647)) (bO (-2147483648) h20)))])).to (by clear E1 E2 E3 E4 E5 E6;(try simp only [cj,aC,sM] at*);(simp [aC,sM, *];omega))
   rcases cQ (decide (aq<2147483648)) with h21|h21
   ·let E7:EL:=E6++ [tC (nt (a7 (bO (-2147483648) h20) (eB 2147483647 h21)))]
    by_cases h22:w=32
    ·subst h22
     have RS:= @kT 32
     exact (ey (d:= .bool true) (E7++(bK 18 131592++ [aw RS]))).to (by clear E1 E2 E3 E4 E5 E6 E7;(try simp only [cj,aC,sM] at*);(rw [Xn];simp [aC,sM, *];grind))
    let E8:EL:=E7++Xg 3 (tC (eF (aH h22)))++ [tC (aH h22)]++Xg 4 (tC (eF (aH h22)))
    by_cases h24:w=8
    ·subst h24
     have UF:= @b9 aq (-128) 127
     have SO:= @kT 8
     exact (ey (d:= .bool true) (E8++ [tT,tT,tT,aw UF,tT,tT]++Xg 8 tF++ [tT,aw SO])).to (by clear E1 E2 E3 E4 E5 E6 E7 E8;(try simp only [cj,aC,sM] at*);(rw [Xn];simp [aC,sM, *];grind))
    have Sh:= @kT w
    generalize g29:ay w=r28 at Sh
    exact (ey (d:= .bool r28) (E8++Xg 3 (tC (eT (aH h24)))++([tC (eF (aH h22)),tC (aH h24),tC (aH h22)]++bK 8 128++ [aw Sh]))).to (by clear E1 E2 E3 E4 E5 E6 E7 E8;(try simp only [cj,aC,sM] at*);(rw [Xn];simp [aC,sM, *];grind))
   exact (ey (d:= .bool false) (E6++ [tC (nt (a7 (bO (-2147483648) h20) (eB 2147483647 h21)))])).to (by clear E1 E2 E3 E4 E5 E6;(try simp only [cj,aC,sM] at*);(simp [aC,sM, *];omega))
  exact (ey (d:= .bool false) (E5++Xg 4 (tC (eF (nt (a7 (bO (-2147483648) h17) (eB 2147483647 h18)))))++ [tC (nt (a7 (bO (-2147483648) h17) (eB 2147483647 h18))),tT])).to (by clear E1 E2 E3 E4 E5;(try simp only [cj,aC,sM] at*);(simp [aC,sM, *];omega))
 exact (ey (d:= .bool false) (E1++Xg 4 (tC (eF (nt h6)))++([tC (nt h6)]++bK 21 1589776))).to (by clear E1;(try simp only [cj,aC,sM] at*);(rw [Xn];simp [aC,sM, *];grind))
def sB (Q3:Int):Prop:= ∀(op w ab ae aa af aq cc:Int) (ho:op≤127) (h:(aF op==Q3)=true) (Q4:decide (0≤op∧op≤31)=true),aY Xh 72 ([xD op w ab ae aa af aq cc]) (ax (a8 op w ab ae aa af aq cc))
theorem ET:sB 9:=by
 intro op w ab ae aa af aq cc ho h Q4
 have c0:= @dr op ho
 rw [eq_of_beq h] at c0
 generalize g2:bq op=r1 at c0
 generalize g4:bW op=r3 at c0
 have c5:= @Gn op w ab ae aa af aq cc 9 (rfl:true=true)
 let E1:EL:=([aw c0]++Xg 4 (tC (eF (nt Q4)))++ [aw c5,tC (eF (nt Q4)),tC (eF (nt Q4)),.flat _ _ eh,tC (nt Q4)])
 rcases cQ (bA [aj 0,aj 0,aj ab,aj ae,aj aa,ao af,ao 0,aj cc] [aj 0,aj 0,aj 0,aj 0,aj 0,ao 0,ao 0,aj 0]) with h6|h6
 ·have c7:= @ea ab
  generalize g9:aL ab=r8 at c7
  let E2:EL:=E1++Xg 3 (tC (eF (nt h6)))++ [aw c7,tC (eF (nt h6)),tC (nt h6)]
  cases r8
  ·exact (ey (d:= .bool false) (E2++(bK 21 1589776))).to (by clear E1 E2;(try simp only [cj,aC,sM] at*);(simp [aC,sM, *];done))
  have QS:= @ea ae
  generalize g12:aL ae=Rf at QS
  let E3:EL:=E2++ [tT,tT,tT,aw QS,tT,tF]
  cases Rf
  ·exact (ey (d:= .bool false) (E3++(bK 16 49680))).to (by clear E1 E2 E3;(try simp only [cj,aC,sM] at*);(simp [aC,sM, *];done))
  have Q8:= @ea aa
  generalize g15:aL aa=RG at Q8
  let E4:EL:=E3++ [tT,tT,tT,aw Q8,tT,tF]
  cases RG
  ·exact (ey (d:= .bool false) (E4++(bK 11 1552))).to (by clear E1 E2 E3 E4;(try simp only [cj,aC,sM] at*);(simp [aC,sM, *];done))
  have Q9:= @b9 af (-2147483648) 2147483647
  let E5:EL:=E4++ [tT,tT,tT,aw Q9,tT,tF]
  rcases cQ (decide (af<(-2147483648))) with h17|h17
  ·exact (ey (d:= .bool false) (E5++Xg 4 (tC (eF (nt (dB (y:=decide (af≤2147483647)) (bO (-2147483648) h17)))))++ [tC (nt (dB (y:=decide (af≤2147483647)) (bO (-2147483648) h17))),tT])).to (by clear E1 E2 E3 E4 E5;(try simp only [cj,aC,sM] at*);(simp [aC,sM, *];omega))
  rcases cQ (decide (af<2147483648)) with h18|h18
  ·have RO:= @b9 aq (-2147483648) 2147483647
   let E6:EL:=E5++Xg 3 (tC (eF (nt (a7 (bO (-2147483648) h17) (eB 2147483647 h18)))))++ [aw RO,tC (eF (nt (a7 (bO (-2147483648) h17) (eB 2147483647 h18)))),tC (nt (a7 (bO (-2147483648) h17) (eB 2147483647 h18)))]
   rcases cQ (decide (aq<(-2147483648))) with h20|h20
   ·exact (ey (d:= .bool false) (E6++ [tC (nt (dB (y:=decide (aq≤2147483647)) (bO (-2147483648) h20)))])).to (by clear E1 E2 E3 E4 E5 E6;(try simp only [cj,aC,sM] at*);(simp [aC,sM, *];omega))
   rcases cQ (decide (aq<2147483648)) with h21|h21
   ·let E7:EL:=E6++ [tC (nt (a7 (bO (-2147483648) h20) (eB 2147483647 h21)))]
    by_cases h22:w=32
    ·subst h22
     exact (ey (d:= .bool true) (E7++(bK 10 520)++Xg 8 tF++ [tT])).to (by clear E1 E2 E3 E4 E5 E6 E7;(try simp only [cj,aC,sM] at*);(rw [Xn];simp [aC,sM, *];grind))
    let E8:EL:=E7++Xg 3 (tC (eF (aH h22)))++ [tC (aH h22)]++Xg 4 (tC (eF (aH h22)))
    by_cases h23:w=8
    ·subst h23
     have Ss:= @b9 aq (-128) 127
     exact (ey (d:= .bool (decide ((-128)≤aq)&&decide (aq≤127))) (E8++ [tT,tT,tT,aw Ss,tT,tT]++Xg 9 tF++ [tT])).to (by clear E1 E2 E3 E4 E5 E6 E7 E8;(try simp only [cj,aC,sM] at*);(rw [Xn];simp [aC,sM, *];grind))
    exact (ey (d:= .bool false) (E8++Xg 3 (tC (eT (aH h23)))++ [tC (eF (aH h22)),tC (aH h23),tC (aH h22)]++Xg 8 tF++ [tT])).to (by clear E1 E2 E3 E4 E5 E6 E7 E8;(try simp only [cj,aC,sM] at*);(simp [aC,sM, *];done))
   exact (ey (d:= .bool false) (E6++ [tC (nt (a7 (bO (-2147483648) h20) (eB 2147483647 h21)))])).to (by clear E1 E2 E3 E4 E5 E6;(try simp only [cj,aC,sM] at*);(simp [aC,sM, *];omega))
  exact (ey (d:= .bool false) (E5++Xg 4 (tC (eF (nt (a7 (bO (-2147483648) h17) (eB 2147483647 h18)))))++ [tC (nt (a7 (bO (-2147483648) h17) (eB 2147483647 h18))),tT])).to (by clear E1 E2 E3 E4 E5;(try simp only [cj,aC,sM] at*);(simp [aC,sM, *];omega))
 exact (ey (d:= .bool false) (E1++Xg 4 (tC (eF (nt h6)))++([tC (nt h6)]++bK 21 1589776))).to (by clear E1;(try simp only [cj,aC,sM] at*);(rw [Xn];simp [aC,sM, *];grind))
theorem Av:sB 10:=by
 intro op w ab ae aa af aq cc ho h Q4
 have c0:= @dr op ho
 rw [eq_of_beq h] at c0
 generalize g2:bq op=r1 at c0
 generalize g4:bW op=r3 at c0
 have c5:= @BP op w ab ae aa af aq cc 10 (rfl:true=true)
 let E1:EL:=([aw c0]++Xg 4 (tC (eF (nt Q4)))++ [aw c5,tC (eF (nt Q4)),tC (eF (nt Q4)),.flat _ _ eh,tC (nt Q4)])
 rcases cQ (bA [aj 0,aj 0,aj ab,aj ae,aj aa,ao af,ao 0,aj 0] [aj 0,aj 0,aj 0,aj 0,aj 0,ao 0,ao 0,aj 0]) with h6|h6
 ·have c7:= @ea ab
  generalize g9:aL ab=r8 at c7
  let E2:EL:=E1++Xg 3 (tC (eF (nt h6)))++ [aw c7,tC (eF (nt h6)),tC (nt h6)]
  cases r8
  ·exact (ey (d:= .bool false) (E2++(bK 21 1589776))).to (by clear E1 E2;(try simp only [cj,aC,sM] at*);(simp [aC,sM, *];done))
  have QS:= @ea ae
  generalize g12:aL ae=Rf at QS
  let E3:EL:=E2++ [tT,tT,tT,aw QS,tT,tF]
  cases Rf
  ·exact (ey (d:= .bool false) (E3++(bK 16 49680))).to (by clear E1 E2 E3;(try simp only [cj,aC,sM] at*);(simp [aC,sM, *];done))
  have Q8:= @ea aa
  generalize g15:aL aa=RG at Q8
  let E4:EL:=E3++ [tT,tT,tT,aw Q8,tT,tF]
  cases RG
  ·exact (ey (d:= .bool false) (E4++(bK 11 1552))).to (by clear E1 E2 E3 E4;(try simp only [cj,aC,sM] at*);(simp [aC,sM, *];done))
  have Q9:= @b9 af (-2147483648) 2147483647
  let E5:EL:=E4++ [tT,tT,tT,aw Q9,tT,tF]
  rcases cQ (decide (af<(-2147483648))) with h17|h17
  ·exact (ey (d:= .bool false) (E5++Xg 4 (tC (eF (nt (dB (y:=decide (af≤2147483647)) (bO (-2147483648) h17)))))++ [tC (nt (dB (y:=decide (af≤2147483647)) (bO (-2147483648) h17))),tT])).to (by clear E1 E2 E3 E4 E5;(try simp only [cj,aC,sM] at*);(simp [aC,sM, *];omega))
  rcases cQ (decide (af<2147483648)) with h18|h18
  ·have RO:= @b9 aq (-2147483648) 2147483647
   let E6:EL:=E5++Xg 3 (tC (eF (nt (a7 (bO (-2147483648) h17) (eB 2147483647 h18)))))++ [aw RO,tC (eF (nt (a7 (bO (-2147483648) h17) (eB 2147483647 h18)))),tC (nt (a7 (bO (-2147483648) h17) (eB 2147483647 h18)))]
   rcases cQ (decide (aq<(-2147483648))) with h20|h20
   ·exact (ey (d:= .bool false) (E6++ [tC (nt (dB (y:=decide (aq≤2147483647)) (bO (-2147483648) h20)))])).to (by clear E1 E2 E3 E4 E5 E6;(try simp only [cj,aC,sM] at*);(simp [aC,sM, *];omega))
   rcases cQ (decide (aq<2147483648)) with h21|h21
   ·let E7:EL:=E6++ [tC (nt (a7 (bO (-2147483648) h20) (eB 2147483647 h21)))]
    by_cases h22:w=32
    ·subst h22
     have RS:= @qw cc
     generalize g25:bB cc=r24 at RS
     exact (ey (d:= .bool r24) (E7++(bK 10 520)++Xg 9 tF++ [tT,tT,tT,tT,aw RS,tT])).to (by clear E1 E2 E3 E4 E5 E6 E7;(try simp only [cj,aC,sM] at*);(rw [Xn];simp [aC,sM, *];grind))
    let E8:EL:=E7++Xg 3 (tC (eF (aH h22)))++ [tC (aH h22)]++Xg 4 (tC (eF (aH h22)))
    by_cases h26:w=8
    ·subst h26
     have Sh:= @b9 aq (-128) 127
     let E9:EL:=E8++ [tT,tT,tT,aw Sh,tT,tT]++Xg 10 tF++ [tT]
     rcases cQ (decide (aq<(-128))) with h28|h28
     ·exact (ey (d:= .bool false) (E9++Xg 3 (tC (eT (dB (y:=decide (aq≤127)) (bO (-128) h28))))++ [tC (dB (y:=decide (aq≤127)) (bO (-128) h28))])).to (by clear E1 E2 E3 E4 E5 E6 E7 E8 E9;(try simp only [cj,aC,sM] at*);(simp [aC,sM, *];omega))
     rcases cQ (decide (aq<128)) with h29|h29
     ·have Tj:= @qw cc
      generalize g32:bB cc=r31 at Tj
      exact (ey (d:= .bool r31) (E9++Xg 3 (tC (eT (a7 (bO (-128) h28) (eB 127 h29))))++ [aw Tj,tC (a7 (bO (-128) h28) (eB 127 h29))])).to (by clear E1 E2 E3 E4 E5 E6 E7 E8 E9;(try simp only [cj,aC,sM] at*);(rw [Xn];simp [aC,sM, *];grind))
     exact (ey (d:= .bool false) (E9++Xg 3 (tC (eT (a7 (bO (-128) h28) (eB 127 h29))))++ [tC (a7 (bO (-128) h28) (eB 127 h29))])).to (by clear E1 E2 E3 E4 E5 E6 E7 E8 E9;(try simp only [cj,aC,sM] at*);(simp [aC,sM, *];omega))
    exact (ey (d:= .bool false) (E8++Xg 3 (tC (eT (aH h26)))++ [tC (eF (aH h22)),tC (aH h26),tC (aH h22)]++Xg 9 tF++ [tT,tF,tF,tF,tF])).to (by clear E1 E2 E3 E4 E5 E6 E7 E8;(try simp only [cj,aC,sM] at*);(simp [aC,sM, *];done))
   exact (ey (d:= .bool false) (E6++ [tC (nt (a7 (bO (-2147483648) h20) (eB 2147483647 h21)))])).to (by clear E1 E2 E3 E4 E5 E6;(try simp only [cj,aC,sM] at*);(simp [aC,sM, *];omega))
  exact (ey (d:= .bool false) (E5++Xg 4 (tC (eF (nt (a7 (bO (-2147483648) h17) (eB 2147483647 h18)))))++ [tC (nt (a7 (bO (-2147483648) h17) (eB 2147483647 h18))),tT])).to (by clear E1 E2 E3 E4 E5;(try simp only [cj,aC,sM] at*);(simp [aC,sM, *];omega))
 exact (ey (d:= .bool false) (E1++Xg 4 (tC (eF (nt h6)))++([tC (nt h6)]++bK 21 1589776))).to (by clear E1;(try simp only [cj,aC,sM] at*);(rw [Xn];simp [aC,sM, *];grind))
theorem Au:sB 11:=by
 intro op w ab ae aa af aq cc ho h Q4
 have c0:= @dr op ho
 rw [eq_of_beq h] at c0
 generalize g2:bq op=r1 at c0
 generalize g4:bW op=r3 at c0
 have c5:= @BO op w ab ae aa af aq cc 11 (rfl:true=true)
 let E1:EL:=([aw c0]++Xg 4 (tC (eF (nt Q4)))++ [aw c5,tC (eF (nt Q4)),tC (eF (nt Q4)),.flat _ _ eh,tC (nt Q4)])
 rcases cQ (bA [aj 0,aj w,aj ab,aj ae,aj aa,ao af,ao aq,aj cc] [aj 0,aj 0,aj 0,aj 0,aj 0,ao 0,ao 0,aj 0]) with h6|h6
 ·have c7:= @ea ab
  generalize g9:aL ab=r8 at c7
  let E2:EL:=E1++Xg 3 (tC (eF (nt h6)))++ [aw c7,tC (eF (nt h6)),tC (nt h6)]
  cases r8
  ·exact (ey (d:= .bool false) (E2++(bK 21 1589776))).to (by clear E1 E2;(try simp only [cj,aC,sM] at*);(simp [aC,sM, *];done))
  have QS:= @ea ae
  generalize g12:aL ae=Rf at QS
  let E3:EL:=E2++ [tT,tT,tT,aw QS,tT,tF]
  cases Rf
  ·exact (ey (d:= .bool false) (E3++(bK 16 49680))).to (by clear E1 E2 E3;(try simp only [cj,aC,sM] at*);(simp [aC,sM, *];done))
  have Q8:= @ea aa
  generalize g15:aL aa=RG at Q8
  let E4:EL:=E3++ [tT,tT,tT,aw Q8,tT,tF]
  cases RG
  ·exact (ey (d:= .bool false) (E4++(bK 11 1552))).to (by clear E1 E2 E3 E4;(try simp only [cj,aC,sM] at*);(simp [aC,sM, *];done))
  have Q9:= @b9 af (-2147483648) 2147483647
  let E5:EL:=E4++ [tT,tT,tT,aw Q9,tT,tF]
  rcases cQ (decide (af<(-2147483648))) with h17|h17
  ·exact (ey (d:= .bool false) (E5++Xg 4 (tC (eF (nt (dB (y:=decide (af≤2147483647)) (bO (-2147483648) h17)))))++ [tC (nt (dB (y:=decide (af≤2147483647)) (bO (-2147483648) h17))),tT])).to (by clear E1 E2 E3 E4 E5;(try simp only [cj,aC,sM] at*);(simp [aC,sM, *];omega))
  rcases cQ (decide (af<2147483648)) with h18|h18
  ·have RO:= @b9 aq (-2147483648) 2147483647
   let E6:EL:=E5++Xg 3 (tC (eF (nt (a7 (bO (-2147483648) h17) (eB 2147483647 h18)))))++ [aw RO,tC (eF (nt (a7 (bO (-2147483648) h17) (eB 2147483647 h18)))),tC (nt (a7 (bO (-2147483648) h17) (eB 2147483647 h18)))]
   rcases cQ (decide (aq<(-2147483648))) with h20|h20
   ·exact (ey (d:= .bool false) (E6++ [tC (nt (dB (y:=decide (aq≤2147483647)) (bO (-2147483648) h20)))])).to (by clear E1 E2 E3 E4 E5 E6;(try simp only [cj,aC,sM] at*);(simp [aC,sM, *];omega))
   rcases cQ (decide (aq<2147483648)) with h21|h21
   ·let E7:EL:=E6++ [tC (nt (a7 (bO (-2147483648) h20) (eB 2147483647 h21)))]
    by_cases h22:w=32
    ·subst h22
     exact (ey (d:= .bool true) (E7++(bK 10 520)++Xg 10 tF)).to (by clear E1 E2 E3 E4 E5 E6 E7;(try simp only [cj,aC,sM] at*);(rw [Xn];simp [aC,sM, *];grind))
    let E8:EL:=E7++Xg 3 (tC (eF (aH h22)))++ [tC (aH h22)]++Xg 4 (tC (eF (aH h22)))
    by_cases h23:w=8
    ·subst h23
     have Ss:= @b9 aq (-128) 127
     exact (ey (d:= .bool true) (E8++ [tT,tT,tT,aw Ss,tT,tT]++Xg 11 tF)).to (by clear E1 E2 E3 E4 E5 E6 E7 E8;(try simp only [cj,aC,sM] at*);(rw [Xn];simp [aC,sM, *];grind))
    exact (ey (d:= .bool true) (E8++Xg 3 (tC (eT (aH h23)))++ [tC (eF (aH h22)),tC (aH h23),tC (aH h22)]++Xg 10 tF)).to (by clear E1 E2 E3 E4 E5 E6 E7 E8;(try simp only [cj,aC,sM] at*);(rw [Xn];simp [aC,sM, *];grind))
   exact (ey (d:= .bool false) (E6++ [tC (nt (a7 (bO (-2147483648) h20) (eB 2147483647 h21)))])).to (by clear E1 E2 E3 E4 E5 E6;(try simp only [cj,aC,sM] at*);(simp [aC,sM, *];omega))
  exact (ey (d:= .bool false) (E5++Xg 4 (tC (eF (nt (a7 (bO (-2147483648) h17) (eB 2147483647 h18)))))++ [tC (nt (a7 (bO (-2147483648) h17) (eB 2147483647 h18))),tT])).to (by clear E1 E2 E3 E4 E5;(try simp only [cj,aC,sM] at*);(simp [aC,sM, *];omega))
 exact (ey (d:= .bool false) (E1++Xg 4 (tC (eF (nt h6)))++([tC (nt h6)]++bK 21 1589776))).to (by clear E1;(try simp only [cj,aC,sM] at*);(rw [Xn];simp [aC,sM, *];grind))
theorem ky:∀n:Fin 32,aF (n.val:Int)=1∨aF (n.val:Int)=2∨aF (n.val:Int)=3∨aF (n.val:Int)=4∨aF (n.val:Int)=5∨aF (n.val:Int)=6∨aF (n.val:Int)=7∨aF (n.val:Int)=8∨aF (n.val:Int)=9∨aF (n.val:Int)=10∨aF (n.val:Int)=11:=by decide+kernel
theorem bm (op w ab ae aa af aq cc:Int) (ho:op≤127):aY Xh 72 [xD op w ab ae aa af aq cc] (ax (a8 op w ab ae aa af aq cc)):=by
 by_cases Q4:0≤op∧op≤31
 ·have e:op=(((⟨op.toNat,by omega⟩:Fin 32).val:Nat):Int):=by simp;omega
  have hr:=ky ⟨op.toNat,by omega⟩
  rw [← e] at hr
  have Su:decide (0≤op∧op≤31)=true:=bT Q4
  rcases hr with h|h|h|h|h|h|h|h|h|h|h
  ·exact Fb _ _ _ _ _ _ _ _ ho (by rw [h];rfl) Su
  ·exact Fa _ _ _ _ _ _ _ _ ho (by rw [h];rfl) Su
  ·exact EZ _ _ _ _ _ _ _ _ ho (by rw [h];rfl) Su
  ·exact EY _ _ _ _ _ _ _ _ ho (by rw [h];rfl) Su
  ·exact EX _ _ _ _ _ _ _ _ ho (by rw [h];rfl) Su
  ·exact EW _ _ _ _ _ _ _ _ ho (by rw [h];rfl) Su
  ·exact EV _ _ _ _ _ _ _ _ ho (by rw [h];rfl) Su
  ·exact EU _ _ _ _ _ _ _ _ ho (by rw [h];rfl) Su
  ·exact ET _ _ _ _ _ _ _ _ ho (by rw [h];rfl) Su
  ·exact Av _ _ _ _ _ _ _ _ ho (by rw [h];rfl) Su
  ·exact Au _ _ _ _ _ _ _ _ ho (by rw [h];rfl) Su
 ·exact Fc _ _ _ _ _ _ _ _ ho (by rw [(j2 (op:=op) (by omega)).1];rfl) (bg Q4)
theorem nV (op w ab ae aa af aq cc:Int) (hc:(bz op==1)=true):aY Xh 60 ([xD op w ab ae aa af aq cc]) (xD op w ab ae 0 0 0 0):=by
 have c0:= @aR op
 rw [show (bz op)=1 from (eq_of_beq hc)] at c0
 exact (JS (d:=(xD op w ab ae 0 0 0 0)) ([aw c0]++bK 27 26851219)).to (by simp [aI])
theorem vt (op w ab ae aa af aq cc:Int) (hc:(bz op==2)=true):aY Xh 60 ([xD op w ab ae aa af aq cc]) (xD op w ab 0 0 0 aq 0):=by
 have c0:= @aR op
 rw [show (bz op)=2 from (eq_of_beq hc)] at c0
 exact (JS (d:=(xD op w ab 0 0 0 aq 0)) ([aw c0]++bK 27 27150447)).to (by simp [aI])
theorem vr (op w ab ae aa af aq cc:Int) (hc:(bz op==3)=true):aY Xh 60 ([xD op w ab ae aa af aq cc]) (xD op w ab 0 0 0 aq 0):=by
 have c0:= @aR op
 rw [show (bz op)=3 from (eq_of_beq hc)] at c0
 exact (JS (d:=(xD op w ab 0 0 0 aq 0)) ([aw c0]++bK 27 27149935)).to (by simp [aI])
theorem vq (op w ab ae aa af aq cc:Int) (hc:(bz op==4)=true):aY Xh 60 ([xD op w ab ae aa af aq cc]) (xD op w ab 0 0 0 0 0):=by
 have c0:= @aR op
 rw [show (bz op)=4 from (eq_of_beq hc)] at c0
 exact (JS (d:=(xD op w ab 0 0 0 0 0)) ([aw c0]++bK 27 26850927)).to (by simp [aI])
theorem vp (op w ab ae aa af aq cc:Int) (hc:(bz op==5)=true):aY Xh 60 ([xD op w ab ae aa af aq cc]) (xD op w ab ae 0 0 0 cc):=by
 have c0:= @aR op
 rw [show (bz op)=5 from (eq_of_beq hc)] at c0
 exact (JS (d:=(xD op w ab ae 0 0 0 cc)) ([aw c0]++bK 27 31569807)).to (by simp [aI])
theorem vo (op w ab ae aa af aq cc:Int) (hc:(bz op==6)=true):aY Xh 60 ([xD op w ab ae aa af aq cc]) (xD op w ab 0 aa af 0 0):=by
 have c0:= @aR op
 rw [show (bz op)=6 from (eq_of_beq hc)] at c0
 exact (JS (d:=(xD op w ab 0 aa af 0 0)) ([aw c0]++bK 27 102348399)).to (by simp [aI])
theorem vn (op w ab ae aa af aq cc:Int) (hc:(bz op==7)=true):aY Xh 60 ([xD op w ab ae aa af aq cc]) (xD op w 0 ae aa af 0 0):=by
 have c0:= @aR op
 rw [show (bz op)=7 from (eq_of_beq hc)] at c0
 exact (JS (d:=(xD op w 0 ae aa af 0 0)) ([aw c0]++bK 27 93960045)).to (by simp [aI])
theorem vm (op w ab ae aa af aq cc:Int) (hc:(bz op==8)=true):aY Xh 60 ([xD op w ab ae aa af aq cc]) (xD op w 0 0 0 0 aq 0):=by
 have c0:= @aR op
 rw [show (bz op)=8 from (eq_of_beq hc)] at c0
 exact (JS (d:=(xD op w 0 0 0 0 aq 0)) ([aw c0]++bK 27 27145837)).to (by simp [aI])
theorem vl (op w ab ae aa af aq cc:Int) (hc:(bz op==9)=true):aY Xh 60 ([xD op w ab ae aa af aq cc]) (xD op w 0 0 0 0 aq cc):=by
 have c0:= @aR op
 rw [show (bz op)=9 from (eq_of_beq hc)] at c0
 exact (JS (d:=(xD op w 0 0 0 0 aq cc)) ([aw c0]++bK 27 31307373)).to (by simp [aI])
theorem sL (op w ab ae aa af aq cc:Int) (hc:(bz op==10)=true):aY Xh 60 ([xD op w ab ae aa af aq cc]) (xD op 0 0 0 0 0 0 0):=by
 have c0:= @aR op
 rw [show (bz op)=10 from (eq_of_beq hc)] at c0
 exact (JS (d:=(xD op 0 0 0 0 0 0 0)) ([aw c0]++bK 27 26850924)).to (by simp [aI])
theorem zQ (op w ab ae aa af aq cc:Int) (h:(aF op==0)=true) (hc:(bz op==0)=true):aY Xh 41 ([xD op w ab ae aa af aq cc]) (ax (a8 op w ab ae aa af aq cc)):=by
 have c0:= @aR op
 rw [eq_of_beq hc] at c0
 exact (gg (d:= .bool false) ([aw c0]++bK 31 1627931152)).to (by (try simp only [cj,aC,a8,aL,br,aE,ay,a9,bB] at*);(simp [aC,a8,aL,br,aE,ay,a9,bB, *];done))
theorem zP (op w ab ae aa af aq cc:Int) (h:(aF op==1)=true) (hc:(bz op==1)=true):aY Xh 41 ([xD op w ab ae aa af aq cc]) (ax (a8 op w ab ae aa af aq cc)):=by
 have c0:= @aR op
 rw [eq_of_beq hc] at c0
 have c1:= @nV op w ab ae aa af aq cc (cP 1 true (eq_of_beq hc))
 let E1:EL:= [aw c0,tT,tT,tT,aw c1,tT,.flat _ _ eh,tF]
 rcases cQ (bA [aj op,aj w,aj ab,aj ae,aj aa,ao af,ao aq,aj cc] [aj op,aj w,aj ab,aj ae,aj 0,ao 0,ao 0,aj 0]) with h2|h2
 ·have c3:= @dy ab
  generalize g5:aL ab=r4 at c3
  let E2:EL:=E1++Xg 3 (tC (eF (nt h2)))++ [aw c3,tC (eF (nt h2)),tC (nt h2)]
  cases r4
  ·exact (gg (d:= .bool false) (E2++(bK 21 1589776))).to (by clear E1 E2;(try simp only [cj,aC,a8,aL,br,aE,ay,a9,bB] at*);(simp [aC,a8,aL,br,aE,ay,a9,bB, *];done))
  have c6:= @dy ae
  generalize g8:aL ae=r7 at c6
  let E3:EL:=E2++ [tT,tT,tT,aw c6,tT,tF]
  cases r7
  ·exact (gg (d:= .bool false) (E3++(bK 16 49680))).to (by clear E1 E2 E3;(try simp only [cj,aC,a8,aL,br,aE,ay,a9,bB] at*);(simp [aC,a8,aL,br,aE,ay,a9,bB, *];done))
  have c9:= @dy aa
  generalize g11:aL aa=RC at c9
  let E4:EL:=E3++ [tT,tT,tT,aw c9,tT,tF]
  cases RC
  ·exact (gg (d:= .bool false) (E4++(bK 11 1552))).to (by clear E1 E2 E3 E4;(try simp only [cj,aC,a8,aL,br,aE,ay,a9,bB] at*);(simp [aC,a8,aL,br,aE,ay,a9,bB, *];done))
  have Q0:= @dU af
  rcases cQ (decide ((-2147483648)≤af∧af≤2147483647)) with h13|h13
  ·have RB:= @dU aq
   let E5:EL:=E4++ [tT,tT,tT,aw Q0,tT,tF]++Xg 3 (tC (eF (nt h13)))++ [aw RB,tC (eF (nt h13)),tC (nt h13)]
   rcases cQ (decide ((-2147483648)≤aq∧aq≤2147483647)) with h15|h15
   ·have Q9:= @kX w
    generalize g18:aE w=r17 at Q9
    exact (gg (d:= .bool r17) (E5++ [tC (nt h15),tT,tT,aw Q9])).to (by clear E1 E2 E3 E4 E5;(try simp only [cj,aC,a8,aL,br,aE,ay,a9,bB] at*);(rw [Xn];simp [aC,a8,aL,br,aE,ay,a9,bB, *];grind))
   exact (gg (d:= .bool false) (E5++ [tC (nt h15)])).to (by clear E1 E2 E3 E4 E5;(try simp only [cj,aC,a8,aL,br,aE,ay,a9,bB] at*);(simp [aC,a8,aL,br,aE,ay,a9,bB, *];done))
  exact (gg (d:= .bool false) (E4++ [tT,tT,tT,aw Q0,tT,tF]++Xg 4 (tC (eF (nt h13)))++ [tC (nt h13),tT])).to (by clear E1 E2 E3 E4;(try simp only [cj,aC,a8,aL,br,aE,ay,a9,bB] at*);(simp [aC,a8,aL,br,aE,ay,a9,bB, *];done))
 exact (gg (d:= .bool false) (E1++Xg 4 (tC (eF (nt h2)))++([tC (nt h2)]++bK 21 1589776))).to (by clear E1;(try simp only [cj,aC,a8,aL,br,aE,ay,a9,bB] at*);(rw [Xn];simp [aC,a8,aL,br,aE,ay,a9,bB, *];grind))
theorem zO (op w ab ae aa af aq cc:Int) (h:(aF op==2)=true) (hc:(bz op==1)=true):aY Xh 41 ([xD op w ab ae aa af aq cc]) (ax (a8 op w ab ae aa af aq cc)):=by
 have c0:= @aR op
 rw [eq_of_beq hc] at c0
 have c1:= @nV op w ab ae aa af aq cc (cP 1 true (eq_of_beq hc))
 let E1:EL:= [aw c0,tT,tT,tT,aw c1,tT,.flat _ _ eh,tF]
 rcases cQ (bA [aj op,aj w,aj ab,aj ae,aj aa,ao af,ao aq,aj cc] [aj op,aj w,aj ab,aj ae,aj 0,ao 0,ao 0,aj 0]) with h2|h2
 ·have c3:= @dy ab
  generalize g5:aL ab=r4 at c3
  let E2:EL:=E1++Xg 3 (tC (eF (nt h2)))++ [aw c3,tC (eF (nt h2)),tC (nt h2)]
  cases r4
  ·exact (gg (d:= .bool false) (E2++(bK 21 1589776))).to (by clear E1 E2;(try simp only [cj,aC,a8,aL,br,aE,ay,a9,bB] at*);(simp [aC,a8,aL,br,aE,ay,a9,bB, *];done))
  have c6:= @dy ae
  generalize g8:aL ae=r7 at c6
  let E3:EL:=E2++ [tT,tT,tT,aw c6,tT,tF]
  cases r7
  ·exact (gg (d:= .bool false) (E3++(bK 16 49680))).to (by clear E1 E2 E3;(try simp only [cj,aC,a8,aL,br,aE,ay,a9,bB] at*);(simp [aC,a8,aL,br,aE,ay,a9,bB, *];done))
  have c9:= @dy aa
  generalize g11:aL aa=RC at c9
  let E4:EL:=E3++ [tT,tT,tT,aw c9,tT,tF]
  cases RC
  ·exact (gg (d:= .bool false) (E4++(bK 11 1552))).to (by clear E1 E2 E3 E4;(try simp only [cj,aC,a8,aL,br,aE,ay,a9,bB] at*);(simp [aC,a8,aL,br,aE,ay,a9,bB, *];done))
  have Q0:= @dU af
  rcases cQ (decide ((-2147483648)≤af∧af≤2147483647)) with h13|h13
  ·have RB:= @dU aq
   let E5:EL:=E4++ [tT,tT,tT,aw Q0,tT,tF]++Xg 3 (tC (eF (nt h13)))++ [aw RB,tC (eF (nt h13)),tC (nt h13)]
   rcases cQ (decide ((-2147483648)≤aq∧aq≤2147483647)) with h15|h15
   ·have Q9:= @kX w
    generalize g18:aE w=r17 at Q9
    exact (gg (d:= .bool r17) (E5++ [tC (nt h15),tT,tT,aw Q9])).to (by clear E1 E2 E3 E4 E5;(try simp only [cj,aC,a8,aL,br,aE,ay,a9,bB] at*);(rw [Xn];simp [aC,a8,aL,br,aE,ay,a9,bB, *];grind))
   exact (gg (d:= .bool false) (E5++ [tC (nt h15)])).to (by clear E1 E2 E3 E4 E5;(try simp only [cj,aC,a8,aL,br,aE,ay,a9,bB] at*);(simp [aC,a8,aL,br,aE,ay,a9,bB, *];done))
  exact (gg (d:= .bool false) (E4++ [tT,tT,tT,aw Q0,tT,tF]++Xg 4 (tC (eF (nt h13)))++ [tC (nt h13),tT])).to (by clear E1 E2 E3 E4;(try simp only [cj,aC,a8,aL,br,aE,ay,a9,bB] at*);(simp [aC,a8,aL,br,aE,ay,a9,bB, *];done))
 exact (gg (d:= .bool false) (E1++Xg 4 (tC (eF (nt h2)))++([tC (nt h2)]++bK 21 1589776))).to (by clear E1;(try simp only [cj,aC,a8,aL,br,aE,ay,a9,bB] at*);(rw [Xn];simp [aC,a8,aL,br,aE,ay,a9,bB, *];grind))
theorem zN (op w ab ae aa af aq cc:Int) (h:(aF op==3)=true) (hc:(bz op==2)=true):aY Xh 41 ([xD op w ab ae aa af aq cc]) (ax (a8 op w ab ae aa af aq cc)):=by
 have c0:= @aR op
 rw [eq_of_beq hc] at c0
 have c1:= @vt op w ab ae aa af aq cc (cP 2 true (eq_of_beq hc))
 let E1:EL:= [aw c0,tT,tT,tT,aw c1,tT,.flat _ _ eh,tF]
 rcases cQ (bA [aj op,aj w,aj ab,aj ae,aj aa,ao af,ao aq,aj cc] [aj op,aj w,aj ab,aj 0,aj 0,ao 0,ao aq,aj 0]) with h2|h2
 ·have c3:= @dy ab
  generalize g5:aL ab=r4 at c3
  let E2:EL:=E1++Xg 3 (tC (eF (nt h2)))++ [aw c3,tC (eF (nt h2)),tC (nt h2)]
  cases r4
  ·exact (gg (d:= .bool false) (E2++(bK 21 1589776))).to (by clear E1 E2;(try simp only [cj,aC,a8,aL,br,aE,ay,a9,bB,aU] at*);(simp [aC,a8,aL,br,aE,ay,a9,bB,aU, *];done))
  have c6:= @dy ae
  generalize g8:aL ae=r7 at c6
  let E3:EL:=E2++ [tT,tT,tT,aw c6,tT,tF]
  cases r7
  ·exact (gg (d:= .bool false) (E3++(bK 16 49680))).to (by clear E1 E2 E3;(try simp only [cj,aC,a8,aL,br,aE,ay,a9,bB,aU] at*);(simp [aC,a8,aL,br,aE,ay,a9,bB,aU, *];done))
  have c9:= @dy aa
  generalize g11:aL aa=RC at c9
  let E4:EL:=E3++ [tT,tT,tT,aw c9,tT,tF]
  cases RC
  ·exact (gg (d:= .bool false) (E4++(bK 11 1552))).to (by clear E1 E2 E3 E4;(try simp only [cj,aC,a8,aL,br,aE,ay,a9,bB,aU] at*);(simp [aC,a8,aL,br,aE,ay,a9,bB,aU, *];done))
  have Q0:= @dU af
  rcases cQ (decide ((-2147483648)≤af∧af≤2147483647)) with h13|h13
  ·have RB:= @dU aq
   let E5:EL:=E4++ [tT,tT,tT,aw Q0,tT,tF]++Xg 3 (tC (eF (nt h13)))++ [aw RB,tC (eF (nt h13)),tC (nt h13)]
   rcases cQ (decide ((-2147483648)≤aq∧aq≤2147483647)) with h15|h15
   ·have Q9:= @kX w
    generalize g18:aE w=r17 at Q9
    exact (gg (d:= .bool r17) (E5++ [tC (nt h15),tF,tT,tT,aw Q9])).to (by clear E1 E2 E3 E4 E5;(try simp only [cj,aC,a8,aL,br,aE,ay,a9,bB,aU] at*);(rw [Xn];simp [aC,a8,aL,br,aE,ay,a9,bB,aU, *];grind))
   exact (gg (d:= .bool false) (E5++ [tC (nt h15)])).to (by clear E1 E2 E3 E4 E5;(try simp only [cj,aC,a8,aL,br,aE,ay,a9,bB,aU] at*);(simp [aC,a8,aL,br,aE,ay,a9,bB,aU, *];done))
  exact (gg (d:= .bool false) (E4++ [tT,tT,tT,aw Q0,tT,tF]++Xg 4 (tC (eF (nt h13)))++ [tC (nt h13),tT])).to (by clear E1 E2 E3 E4;(try simp only [cj,aC,a8,aL,br,aE,ay,a9,bB,aU] at*);(simp [aC,a8,aL,br,aE,ay,a9,bB,aU, *];done))
 exact (gg (d:= .bool false) (E1++Xg 4 (tC (eF (nt h2)))++([tC (nt h2)]++bK 21 1589776))).to (by clear E1;(try simp only [cj,aC,a8,aL,br,aE,ay,a9,bB,aU] at*);(rw [Xn];simp [aC,a8,aL,br,aE,ay,a9,bB,aU, *];grind))
theorem zM (op w ab ae aa af aq cc:Int) (h:(aF op==4)=true) (hc:(bz op==3)=true):aY Xh 41 ([xD op w ab ae aa af aq cc]) (ax (a8 op w ab ae aa af aq cc)):=by
 have c0:= @aR op
 rw [eq_of_beq hc] at c0
 have c1:= @vr op w ab ae aa af aq cc (cP 3 true (eq_of_beq hc))
 let E1:EL:= [aw c0,tT,tT,tT,aw c1,tT,.flat _ _ eh,tF]
 rcases cQ (bA [aj op,aj w,aj ab,aj ae,aj aa,ao af,ao aq,aj cc] [aj op,aj w,aj ab,aj 0,aj 0,ao 0,ao aq,aj 0]) with h2|h2
 ·have c3:= @dy ab
  generalize g5:aL ab=r4 at c3
  let E2:EL:=E1++Xg 3 (tC (eF (nt h2)))++ [aw c3,tC (eF (nt h2)),tC (nt h2)]
  cases r4
  ·exact (gg (d:= .bool false) (E2++(bK 21 1589776))).to (by clear E1 E2;(try simp only [cj,aC,a8,aL,br,aE,ay,a9,bB,aU] at*);(simp [aC,a8,aL,br,aE,ay,a9,bB,aU, *];done))
  have c6:= @dy ae
  generalize g8:aL ae=r7 at c6
  let E3:EL:=E2++ [tT,tT,tT,aw c6,tT,tF]
  cases r7
  ·exact (gg (d:= .bool false) (E3++(bK 16 49680))).to (by clear E1 E2 E3;(try simp only [cj,aC,a8,aL,br,aE,ay,a9,bB,aU] at*);(simp [aC,a8,aL,br,aE,ay,a9,bB,aU, *];done))
  have c9:= @dy aa
  generalize g11:aL aa=RC at c9
  let E4:EL:=E3++ [tT,tT,tT,aw c9,tT,tF]
  cases RC
  ·exact (gg (d:= .bool false) (E4++(bK 11 1552))).to (by clear E1 E2 E3 E4;(try simp only [cj,aC,a8,aL,br,aE,ay,a9,bB,aU] at*);(simp [aC,a8,aL,br,aE,ay,a9,bB,aU, *];done))
  have Q0:= @dU af
  let E5:EL:=E4++ [tT,tT,tT,aw Q0,tT,tF]
  rcases cQ (decide ((-2147483648)≤af∧af≤2147483647)) with h13|h13
  ·have RB:= @dU aq
   let E6:EL:=E5++Xg 3 (tC (eF (nt h13)))++ [aw RB,tC (eF (nt h13)),tC (nt h13)]
   rcases cQ (decide ((-2147483648)≤aq∧aq≤2147483647)) with h15|h15
   ·have Q9:= @kX w
    generalize g18:aE w=r17 at Q9
    let E7:EL:=E6++ [tC (nt h15),tF,tF,tF,tT,aw Q9]
    cases r17
    ·exact (gg (d:= .bool false) (E7++Xg 11 tF)).to (by clear E1 E2 E3 E4 E5 E6 E7;(try simp only [cj,aC,a8,aL,br,aE,ay,a9,bB,aU] at*);(simp [aC,a8,aL,br,aE,ay,a9,bB,aU, *];done))
    rcases cQ (decide (aq<0)) with h19|h19
    ·exact (gg (d:= .bool false) (E7++ [tT,tT,tT,tT]++Xg 6 (tC (eT (bO 0 h19)))++ [tC (bO 0 h19)])).to (by clear E1 E2 E3 E4 E5 E6 E7;(try simp only [cj,aC,a8,aL,br,aE,ay,a9,bB,aU] at*);(simp [aC,a8,aL,br,aE,ay,a9,bB,aU, *];omega))
    exact (gg (d:= .bool (decide (aq<IntKind.wrap IntKind.i64 w))) (E7++ [tT,tT,tT,tT]++Xg 6 (tC (eT (bO 0 h19)))++ [tC (bO 0 h19)])).to (by clear E1 E2 E3 E4 E5 E6 E7;(try simp only [cj,aC,a8,aL,br,aE,ay,a9,bB,aU] at*);(rw [Xn];simp [aC,a8,aL,br,aE,ay,a9,bB,aU, *];grind))
   exact (gg (d:= .bool false) (E6++ [tC (nt h15)])).to (by clear E1 E2 E3 E4 E5 E6;(try simp only [cj,aC,a8,aL,br,aE,ay,a9,bB,aU] at*);(simp [aC,a8,aL,br,aE,ay,a9,bB,aU, *];done))
  exact (gg (d:= .bool false) (E5++Xg 4 (tC (eF (nt h13)))++ [tC (nt h13),tT])).to (by clear E1 E2 E3 E4 E5;(try simp only [cj,aC,a8,aL,br,aE,ay,a9,bB,aU] at*);(simp [aC,a8,aL,br,aE,ay,a9,bB,aU, *];done))
 exact (gg (d:= .bool false) (E1++Xg 4 (tC (eF (nt h2)))++([tC (nt h2)]++bK 21 1589776))).to (by clear E1;(try simp only [cj,aC,a8,aL,br,aE,ay,a9,bB,aU] at*);(rw [Xn];simp [aC,a8,aL,br,aE,ay,a9,bB,aU, *];grind))
theorem zL (op w ab ae aa af aq cc:Int) (h:(aF op==5)=true) (hc:(bz op==4)=true):aY Xh 41 ([xD op w ab ae aa af aq cc]) (ax (a8 op w ab ae aa af aq cc)):=by
 have c0:= @aR op
 rw [eq_of_beq hc] at c0
 have c1:= @vq op w ab ae aa af aq cc (cP 4 true (eq_of_beq hc))
 let E1:EL:= [aw c0,tT,tT,tT,aw c1,tT,.flat _ _ eh,tF]
 rcases cQ (bA [aj op,aj w,aj ab,aj ae,aj aa,ao af,ao aq,aj cc] [aj op,aj w,aj ab,aj 0,aj 0,ao 0,ao 0,aj 0]) with h2|h2
 ·have c3:= @dy ab
  generalize g5:aL ab=r4 at c3
  let E2:EL:=E1++Xg 3 (tC (eF (nt h2)))++ [aw c3,tC (eF (nt h2)),tC (nt h2)]
  cases r4
  ·exact (gg (d:= .bool false) (E2++(bK 21 1589776))).to (by clear E1 E2;(try simp only [cj,aC,a8,aL,br,aE,ay,a9,bB,aU] at*);(simp [aC,a8,aL,br,aE,ay,a9,bB,aU, *];done))
  have c6:= @dy ae
  generalize g8:aL ae=r7 at c6
  let E3:EL:=E2++ [tT,tT,tT,aw c6,tT,tF]
  cases r7
  ·exact (gg (d:= .bool false) (E3++(bK 16 49680))).to (by clear E1 E2 E3;(try simp only [cj,aC,a8,aL,br,aE,ay,a9,bB,aU] at*);(simp [aC,a8,aL,br,aE,ay,a9,bB,aU, *];done))
  have c9:= @dy aa
  generalize g11:aL aa=RC at c9
  let E4:EL:=E3++ [tT,tT,tT,aw c9,tT,tF]
  cases RC
  ·exact (gg (d:= .bool false) (E4++(bK 11 1552))).to (by clear E1 E2 E3 E4;(try simp only [cj,aC,a8,aL,br,aE,ay,a9,bB,aU] at*);(simp [aC,a8,aL,br,aE,ay,a9,bB,aU, *];done))
  have Q0:= @dU af
  rcases cQ (decide ((-2147483648)≤af∧af≤2147483647)) with h13|h13
  ·have RB:= @dU aq
   let E5:EL:=E4++ [tT,tT,tT,aw Q0,tT,tF]++Xg 3 (tC (eF (nt h13)))++ [aw RB,tC (eF (nt h13)),tC (nt h13)]
   rcases cQ (decide ((-2147483648)≤aq∧aq≤2147483647)) with h15|h15
   ·have Q9:= @kX w
    generalize g18:aE w=r17 at Q9
    exact (gg (d:= .bool r17) (E5++ [tC (nt h15),tF,tF,tT,aw Q9])).to (by clear E1 E2 E3 E4 E5;(try simp only [cj,aC,a8,aL,br,aE,ay,a9,bB,aU] at*);(rw [Xn];simp [aC,a8,aL,br,aE,ay,a9,bB,aU, *];grind))
   exact (gg (d:= .bool false) (E5++ [tC (nt h15)])).to (by clear E1 E2 E3 E4 E5;(try simp only [cj,aC,a8,aL,br,aE,ay,a9,bB,aU] at*);(simp [aC,a8,aL,br,aE,ay,a9,bB,aU, *];done))
  exact (gg (d:= .bool false) (E4++ [tT,tT,tT,aw Q0,tT,tF]++Xg 4 (tC (eF (nt h13)))++ [tC (nt h13),tT])).to (by clear E1 E2 E3 E4;(try simp only [cj,aC,a8,aL,br,aE,ay,a9,bB,aU] at*);(simp [aC,a8,aL,br,aE,ay,a9,bB,aU, *];done))
 exact (gg (d:= .bool false) (E1++Xg 4 (tC (eF (nt h2)))++([tC (nt h2)]++bK 21 1589776))).to (by clear E1;(try simp only [cj,aC,a8,aL,br,aE,ay,a9,bB,aU] at*);(rw [Xn];simp [aC,a8,aL,br,aE,ay,a9,bB,aU, *];grind))
theorem zK (op w ab ae aa af aq cc:Int) (h:(aF op==6)=true) (hc:(bz op==5)=true):aY Xh 41 ([xD op w ab ae aa af aq cc]) (ax (a8 op w ab ae aa af aq cc)):=by
 have c0:= @aR op
 rw [eq_of_beq hc] at c0
 have c1:= @vp op w ab ae aa af aq cc (cP 5 true (eq_of_beq hc))
 let E1:EL:= [aw c0,tT,tT,tT,aw c1,tT,.flat _ _ eh,tF]
 rcases cQ (bA [aj op,aj w,aj ab,aj ae,aj aa,ao af,ao aq,aj cc] [aj op,aj w,aj ab,aj ae,aj 0,ao 0,ao 0,aj cc]) with h2|h2
 ·have c3:= @dy ab
  generalize g5:aL ab=r4 at c3
  let E2:EL:=E1++Xg 3 (tC (eF (nt h2)))++ [aw c3,tC (eF (nt h2)),tC (nt h2)]
  cases r4
  ·exact (gg (d:= .bool false) (E2++(bK 21 1589776))).to (by clear E1 E2;(try simp only [cj,aC,a8,aL,br,aE,ay,a9,bB] at*);(simp [aC,a8,aL,br,aE,ay,a9,bB, *];done))
  have c6:= @dy ae
  generalize g8:aL ae=r7 at c6
  let E3:EL:=E2++ [tT,tT,tT,aw c6,tT,tF]
  cases r7
  ·exact (gg (d:= .bool false) (E3++(bK 16 49680))).to (by clear E1 E2 E3;(try simp only [cj,aC,a8,aL,br,aE,ay,a9,bB] at*);(simp [aC,a8,aL,br,aE,ay,a9,bB, *];done))
  have c9:= @dy aa
  generalize g11:aL aa=RC at c9
  let E4:EL:=E3++ [tT,tT,tT,aw c9,tT,tF]
  cases RC
  ·exact (gg (d:= .bool false) (E4++(bK 11 1552))).to (by clear E1 E2 E3 E4;(try simp only [cj,aC,a8,aL,br,aE,ay,a9,bB] at*);(simp [aC,a8,aL,br,aE,ay,a9,bB, *];done))
  have Q0:= @dU af
  let E5:EL:=E4++ [tT,tT,tT,aw Q0,tT,tF]
  rcases cQ (decide ((-2147483648)≤af∧af≤2147483647)) with h13|h13
  ·have RB:= @dU aq
   let E6:EL:=E5++Xg 3 (tC (eF (nt h13)))++ [aw RB,tC (eF (nt h13)),tC (nt h13)]
   rcases cQ (decide ((-2147483648)≤aq∧aq≤2147483647)) with h15|h15
   ·have Q9:= @kX w
    generalize g18:aE w=r17 at Q9
    cases r17
    ·exact (gg (d:= .bool false) (E6++ [tC (nt h15),tF,tF,tF,tF,tT,aw Q9,tF,tF,tF,tF])).to (by clear E1 E2 E3 E4 E5 E6;(try simp only [cj,aC,a8,aL,br,aE,ay,a9,bB] at*);(simp [aC,a8,aL,br,aE,ay,a9,bB, *];done))
    have RO:= @z7 cc
    generalize g21:bB cc=r20 at RO
    exact (gg (d:= .bool r20) (E6++ [tC (nt h15),tF,tF,tF,tF,tT,aw Q9,tT,tT,tT,aw RO,tT])).to (by clear E1 E2 E3 E4 E5 E6;(try simp only [cj,aC,a8,aL,br,aE,ay,a9,bB] at*);(rw [Xn];simp [aC,a8,aL,br,aE,ay,a9,bB, *];grind))
   exact (gg (d:= .bool false) (E6++ [tC (nt h15)])).to (by clear E1 E2 E3 E4 E5 E6;(try simp only [cj,aC,a8,aL,br,aE,ay,a9,bB] at*);(simp [aC,a8,aL,br,aE,ay,a9,bB, *];done))
  exact (gg (d:= .bool false) (E5++Xg 4 (tC (eF (nt h13)))++ [tC (nt h13),tT])).to (by clear E1 E2 E3 E4 E5;(try simp only [cj,aC,a8,aL,br,aE,ay,a9,bB] at*);(simp [aC,a8,aL,br,aE,ay,a9,bB, *];done))
 exact (gg (d:= .bool false) (E1++Xg 4 (tC (eF (nt h2)))++([tC (nt h2)]++bK 21 1589776))).to (by clear E1;(try simp only [cj,aC,a8,aL,br,aE,ay,a9,bB] at*);(rw [Xn];simp [aC,a8,aL,br,aE,ay,a9,bB, *];grind))
theorem zJ (op w ab ae aa af aq cc:Int) (h:(aF op==7)=true) (hc:(bz op==6)=true):aY Xh 41 ([xD op w ab ae aa af aq cc]) (ax (a8 op w ab ae aa af aq cc)):=by
 have c0:= @aR op
 rw [eq_of_beq hc] at c0
 have c1:= @vo op w ab ae aa af aq cc (cP 6 true (eq_of_beq hc))
 let E1:EL:= [aw c0,tT,tT,tT,aw c1,tT,.flat _ _ eh,tF]
 rcases cQ (bA [aj op,aj w,aj ab,aj ae,aj aa,ao af,ao aq,aj cc] [aj op,aj w,aj ab,aj 0,aj aa,ao af,ao 0,aj 0]) with h2|h2
 ·have c3:= @dy ab
  generalize g5:aL ab=r4 at c3
  let E2:EL:=E1++Xg 3 (tC (eF (nt h2)))++ [aw c3,tC (eF (nt h2)),tC (nt h2)]
  cases r4
  ·exact (gg (d:= .bool false) (E2++(bK 21 1589776))).to (by clear E1 E2;(try simp only [cj,aC,a8,aL,br,aE,ay,a9,bB] at*);(simp [aC,a8,aL,br,aE,ay,a9,bB, *];done))
  have c6:= @dy ae
  generalize g8:aL ae=r7 at c6
  let E3:EL:=E2++ [tT,tT,tT,aw c6,tT,tF]
  cases r7
  ·exact (gg (d:= .bool false) (E3++(bK 16 49680))).to (by clear E1 E2 E3;(try simp only [cj,aC,a8,aL,br,aE,ay,a9,bB] at*);(simp [aC,a8,aL,br,aE,ay,a9,bB, *];done))
  have c9:= @dy aa
  generalize g11:aL aa=RC at c9
  let E4:EL:=E3++ [tT,tT,tT,aw c9,tT,tF]
  cases RC
  ·exact (gg (d:= .bool false) (E4++(bK 11 1552))).to (by clear E1 E2 E3 E4;(try simp only [cj,aC,a8,aL,br,aE,ay,a9,bB] at*);(simp [aC,a8,aL,br,aE,ay,a9,bB, *];done))
  have Q0:= @dU af
  rcases cQ (decide ((-2147483648)≤af∧af≤2147483647)) with h13|h13
  ·have RB:= @dU aq
   let E5:EL:=E4++ [tT,tT,tT,aw Q0,tT,tF]++Xg 3 (tC (eF (nt h13)))++ [aw RB,tC (eF (nt h13)),tC (nt h13)]
   rcases cQ (decide ((-2147483648)≤aq∧aq≤2147483647)) with h15|h15
   ·have Q9:= @jU w
    generalize g18:ay w=r17 at Q9
    exact (gg (d:= .bool r17) (E5++ [tC (nt h15),tF,tF,tF,tF,tF,tT,tT,aw Q9])).to (by clear E1 E2 E3 E4 E5;(try simp only [cj,aC,a8,aL,br,aE,ay,a9,bB] at*);(rw [Xn];simp [aC,a8,aL,br,aE,ay,a9,bB, *];grind))
   exact (gg (d:= .bool false) (E5++ [tC (nt h15)])).to (by clear E1 E2 E3 E4 E5;(try simp only [cj,aC,a8,aL,br,aE,ay,a9,bB] at*);(simp [aC,a8,aL,br,aE,ay,a9,bB, *];done))
  exact (gg (d:= .bool false) (E4++ [tT,tT,tT,aw Q0,tT,tF]++Xg 4 (tC (eF (nt h13)))++ [tC (nt h13),tT])).to (by clear E1 E2 E3 E4;(try simp only [cj,aC,a8,aL,br,aE,ay,a9,bB] at*);(simp [aC,a8,aL,br,aE,ay,a9,bB, *];done))
 exact (gg (d:= .bool false) (E1++Xg 4 (tC (eF (nt h2)))++([tC (nt h2)]++bK 21 1589776))).to (by clear E1;(try simp only [cj,aC,a8,aL,br,aE,ay,a9,bB] at*);(rw [Xn];simp [aC,a8,aL,br,aE,ay,a9,bB, *];grind))
theorem zI (op w ab ae aa af aq cc:Int) (h:(aF op==8)=true) (hc:(bz op==7)=true):aY Xh 41 ([xD op w ab ae aa af aq cc]) (ax (a8 op w ab ae aa af aq cc)):=by
 have c0:= @aR op
 rw [eq_of_beq hc] at c0
 have c1:= @vn op w ab ae aa af aq cc (cP 7 true (eq_of_beq hc))
 let E1:EL:= [aw c0,tT,tT,tT,aw c1,tT,.flat _ _ eh,tF]
 rcases cQ (bA [aj op,aj w,aj ab,aj ae,aj aa,ao af,ao aq,aj cc] [aj op,aj w,aj 0,aj ae,aj aa,ao af,ao 0,aj 0]) with h2|h2
 ·have c3:= @dy ab
  generalize g5:aL ab=r4 at c3
  let E2:EL:=E1++Xg 3 (tC (eF (nt h2)))++ [aw c3,tC (eF (nt h2)),tC (nt h2)]
  cases r4
  ·exact (gg (d:= .bool false) (E2++(bK 21 1589776))).to (by clear E1 E2;(try simp only [cj,aC,a8,aL,br,aE,ay,a9,bB] at*);(simp [aC,a8,aL,br,aE,ay,a9,bB, *];done))
  have c6:= @dy ae
  generalize g8:aL ae=r7 at c6
  let E3:EL:=E2++ [tT,tT,tT,aw c6,tT,tF]
  cases r7
  ·exact (gg (d:= .bool false) (E3++(bK 16 49680))).to (by clear E1 E2 E3;(try simp only [cj,aC,a8,aL,br,aE,ay,a9,bB] at*);(simp [aC,a8,aL,br,aE,ay,a9,bB, *];done))
  have c9:= @dy aa
  generalize g11:aL aa=RC at c9
  let E4:EL:=E3++ [tT,tT,tT,aw c9,tT,tF]
  cases RC
  ·exact (gg (d:= .bool false) (E4++(bK 11 1552))).to (by clear E1 E2 E3 E4;(try simp only [cj,aC,a8,aL,br,aE,ay,a9,bB] at*);(simp [aC,a8,aL,br,aE,ay,a9,bB, *];done))
  have Q0:= @dU af
  rcases cQ (decide ((-2147483648)≤af∧af≤2147483647)) with h13|h13
  ·have RB:= @dU aq
   let E5:EL:=E4++ [tT,tT,tT,aw Q0,tT,tF]++Xg 3 (tC (eF (nt h13)))++ [aw RB,tC (eF (nt h13)),tC (nt h13)]
   rcases cQ (decide ((-2147483648)≤aq∧aq≤2147483647)) with h15|h15
   ·have Q9:= @jU w
    generalize g18:ay w=r17 at Q9
    exact (gg (d:= .bool r17) (E5++ [tC (nt h15),tF,tF,tF,tF,tF,tF,tT,aw Q9])).to (by clear E1 E2 E3 E4 E5;(try simp only [cj,aC,a8,aL,br,aE,ay,a9,bB] at*);(rw [Xn];simp [aC,a8,aL,br,aE,ay,a9,bB, *];grind))
   exact (gg (d:= .bool false) (E5++ [tC (nt h15)])).to (by clear E1 E2 E3 E4 E5;(try simp only [cj,aC,a8,aL,br,aE,ay,a9,bB] at*);(simp [aC,a8,aL,br,aE,ay,a9,bB, *];done))
  exact (gg (d:= .bool false) (E4++ [tT,tT,tT,aw Q0,tT,tF]++Xg 4 (tC (eF (nt h13)))++ [tC (nt h13),tT])).to (by clear E1 E2 E3 E4;(try simp only [cj,aC,a8,aL,br,aE,ay,a9,bB] at*);(simp [aC,a8,aL,br,aE,ay,a9,bB, *];done))
 exact (gg (d:= .bool false) (E1++Xg 4 (tC (eF (nt h2)))++([tC (nt h2)]++bK 21 1589776))).to (by clear E1;(try simp only [cj,aC,a8,aL,br,aE,ay,a9,bB] at*);(rw [Xn];simp [aC,a8,aL,br,aE,ay,a9,bB, *];grind))
end Go.Proofs.YtbfpahigdpigpaaGreat
