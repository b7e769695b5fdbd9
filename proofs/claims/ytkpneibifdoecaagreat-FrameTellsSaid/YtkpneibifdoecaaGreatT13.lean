import Derived.Test.YtkpneibifdoecaaGreatT05
import Derived.Test.YtkpneibifdoecaaGreatT12
open List renaming replicate→Vt
open Bool renaming eq_iff_iff→Vw
open BitVec renaming ofInt→VB,toNat→Wi
open Int renaming not_lt→VH,toNat→VP
open Go renaming IntKind→W3
/- Contracts and plain laws that a statement's proof leans on (texts merged:XMay2,XMay3,XMayA,XS1,XRef0,XRef1,XRef2,XRef3,XRef4,XRefA). -/
set_option linter.unusedVariables false
set_option linter.unusedSimpArgs false
set_option maxRecDepth 100000
set_option maxHeartbeats 8000000
namespace Go.Proofs.YtkpneibifdoecaaGreat
open Go Go.Ev
def o5 (QC:Int):Prop:= ∀(op w dst src base ai au cc:Int) (ho:op≤127) (h:(bq op==QC)=true) (PE:decide (0≤op∧op≤31)=true),aJ Tryz.prog 71 ([xD op w dst src base ai au cc]) (.bool (av op w dst src base ai au cc))
theorem Bs:o5 6:=by
 intro op w dst src base ai au cc ho h PE
 have c0:= @bh op ho
 rw [eq_of_beq h] at c0
 generalize g2:eD op=r1 at c0
 generalize g4:iu op=r3 at c0
 have c5:= @Cx op w dst src base ai au cc 6 (rfl:true=true)
 let E1:EL:=([.ret _ _ _ c0]++Vt 4 (tC (eF (nt PE)))++ [.ret _ _ _ c5,tC (eF (nt PE)),tC (eF (nt PE)),.flat _ _ cD,tC (nt PE)])
 rcases cm (aa [.int .i8 0,.int .i8 0,.int .i8 0,.int .i8 0,.int .i8 base,.int .i64 ai,.int .i64 au,.int .i8 0] [.int .i8 0,.int .i8 0,.int .i8 0,.int .i8 0,.int .i8 0,.int .i64 0,.int .i64 0,.int .i8 0]) with h6|h6
 ·have c7:= @cP dst
  generalize g9:al dst=r8 at c7
  let E2:EL:=E1++Vt 3 (tC (eF (nt h6)))++ [.ret _ _ _ c7,tC (eF (nt h6)),tC (nt h6)]
  cases r8
  ·exact (cZ (d:= .bool false) (E2++ [tF,tF,tF,tF,tT,tF,tF,tF,tF,tT,tF,tF,tF,tF,tT,tF,tF,tF,tF,tT,tT]) (by kernel_rfl)).to (by clear E1 E2;(try simp only [bI,wk,ay,aB,aa,ab,av,al,ax,aj,af,an,aE] at*);(simp [wk,ay,aB,aa,ab,av,al,ax,aj,af,an,aE, *];done))
  have Qe:= @cP src
  generalize g12:al src=QF at Qe
  let E3:EL:=E2++ [tT,tT,tT,.ret _ _ _ Qe,tT,tF]
  cases QF
  ·exact (cZ (d:= .bool false) (E3++ [tF,tF,tF,tF,tT,tF,tF,tF,tF,tT,tF,tF,tF,tF,tT,tT]) (by kernel_rfl)).to (by clear E1 E2 E3;(try simp only [bI,wk,ay,aB,aa,ab,av,al,ax,aj,af,an,aE] at*);(simp [wk,ay,aB,aa,ab,av,al,ax,aj,af,an,aE, *];done))
  have Qg:= @cP base
  generalize g15:al base=QG at Qg
  let E4:EL:=E3++ [tT,tT,tT,.ret _ _ _ Qg,tT,tF]
  cases QG
  ·exact (cZ (d:= .bool false) (E4++ [tF,tF,tF,tF,tT,tF,tF,tF,tF,tT,tT]) (by kernel_rfl)).to (by clear E1 E2 E3 E4;(try simp only [bI,wk,ay,aB,aa,ab,av,al,ax,aj,af,an,aE] at*);(simp [wk,ay,aB,aa,ab,av,al,ax,aj,af,an,aE, *];done))
  have PQ:= @bG ai (-2147483648) 2147483647
  let E5:EL:=E4++ [tT,tT,tT,.ret _ _ _ PQ,tT,tF]
  rcases cm (decide (ai<(-2147483648))) with h17|h17
  ·exact (cZ (d:= .bool false) (E5++Vt 4 (tC (eF (nt (bu (y:=decide (ai≤2147483647)) (aK (-2147483648) h17)))))++ [tC (nt (bu (y:=decide (ai≤2147483647)) (aK (-2147483648) h17))),tT]) (by kernel_rfl)).to (by clear E1 E2 E3 E4 E5;(try simp only [bI,wk,ay,aB,aa,ab,av,al,ax,aj,af,an,aE] at*);(simp [wk,ay,aB,aa,ab,av,al,ax,aj,af,an,aE, *];omega))
  rcases cm (decide (ai<2147483648)) with h18|h18
  ·have QH:= @bG au (-2147483648) 2147483647
   let E6:EL:=E5++Vt 3 (tC (eF (nt (aD (aK (-2147483648) h17) (cQ 2147483647 h18)))))++ [.ret _ _ _ QH,tC (eF (nt (aD (aK (-2147483648) h17) (cQ 2147483647 h18)))),tC (nt (aD (aK (-2147483648) h17) (cQ 2147483647 h18)))]
   rcases cm (decide (au<(-2147483648))) with h20|h20
   ·exact (cZ (d:= .bool false) (E6++ [tC (nt (bu (y:=decide (au≤2147483647)) (aK (-2147483648) h20)))]) (by kernel_rfl)).to (by clear E1 E2 E3 E4 E5 E6;(try simp only [bI,wk,ay,aB,aa,ab,av,al,ax,aj,af,an,aE] at*);(simp [wk,ay,aB,aa,ab,av,al,ax,aj,af,an,aE, *];omega))
   rcases cm (decide (au<2147483648)) with h21|h21
   ·let E7:EL:=E6++ [tC (nt (aD (aK (-2147483648) h20) (cQ 2147483647 h21)))]
    by_cases h22:w=32
    ·subst h22
     have Re:= @nh cc
     generalize g25:aE cc=r24 at Re
     exact (cZ (d:= .bool r24) (E7++ [tF,tF,tF,tT,tF,tF,tF,tF,tF,tT,tF,tF,tF,tF,tF,tT,tT,tT,tT,.ret _ _ _ Re,tT]) (by kernel_rfl)).to (by clear E1 E2 E3 E4 E5 E6 E7;(try simp only [bI,wk,ay,aB,aa,ab,av,al,ax,aj,af,an,aE] at*);(rw [Vw];simp [wk,ay,aB,aa,ab,av,al,ax,aj,af,an,aE, *];grind))
    let E8:EL:=E7++Vt 3 (tC (eF (aH h22)))++ [tC (aH h22)]++Vt 4 (tC (eF (aH h22)))
    by_cases h26:w=8
    ·subst h26
     have RC:= @bG au (-128) 127
     exact (cZ (d:= .bool false) (E8++ [tT,tT,tT,.ret _ _ _ RC,tT,tT,tF,tF,tF,tF,tF,tF,tT,tF,tF,tF,tF]) (by kernel_rfl)).to (by clear E1 E2 E3 E4 E5 E6 E7 E8;(try simp only [bI,wk,ay,aB,aa,ab,av,al,ax,aj,af,an,aE] at*);(simp [wk,ay,aB,aa,ab,av,al,ax,aj,af,an,aE, *];done))
    let E9:EL:=E8++Vt 3 (tC (eT (aH h26)))++ [tC (eF (aH h22)),tC (aH h26),tC (aH h22),tF,tF,tF,tF,tF,tT]
    by_cases h28:w=64
    ·subst h28
     have TX:= @nh cc
     generalize g31:aE cc=r30 at TX
     exact (cZ (d:= .bool r30) (E9++ [tT,tT,tT,.ret _ _ _ TX,tT]) (by kernel_rfl)).to (by clear E1 E2 E3 E4 E5 E6 E7 E8 E9;(try simp only [bI,wk,ay,aB,aa,ab,av,al,ax,aj,af,an,aE] at*);(rw [Vw];simp [wk,ay,aB,aa,ab,av,al,ax,aj,af,an,aE, *];grind))
    exact (cZ (d:= .bool false) (E9++Vt 3 (tC (eT (aH h28)))++ [tC (aH h28)]) (by kernel_rfl)).to (by clear E1 E2 E3 E4 E5 E6 E7 E8 E9;(try simp only [bI,wk,ay,aB,aa,ab,av,al,ax,aj,af,an,aE] at*);(simp [wk,ay,aB,aa,ab,av,al,ax,aj,af,an,aE, *];done))
   exact (cZ (d:= .bool false) (E6++ [tC (nt (aD (aK (-2147483648) h20) (cQ 2147483647 h21)))]) (by kernel_rfl)).to (by clear E1 E2 E3 E4 E5 E6;(try simp only [bI,wk,ay,aB,aa,ab,av,al,ax,aj,af,an,aE] at*);(simp [wk,ay,aB,aa,ab,av,al,ax,aj,af,an,aE, *];omega))
  exact (cZ (d:= .bool false) (E5++Vt 4 (tC (eF (nt (aD (aK (-2147483648) h17) (cQ 2147483647 h18)))))++ [tC (nt (aD (aK (-2147483648) h17) (cQ 2147483647 h18))),tT]) (by kernel_rfl)).to (by clear E1 E2 E3 E4 E5;(try simp only [bI,wk,ay,aB,aa,ab,av,al,ax,aj,af,an,aE] at*);(simp [wk,ay,aB,aa,ab,av,al,ax,aj,af,an,aE, *];omega))
 exact (cZ (d:= .bool false) (E1++Vt 4 (tC (eF (nt h6)))++ [tC (nt h6),tF,tF,tF,tF,tT,tF,tF,tF,tF,tT,tF,tF,tF,tF,tT,tF,tF,tF,tF,tT,tT]) (by kernel_rfl)).to (by clear E1;(try simp only [bI,wk,ay,aB,aa,ab,av,al,ax,aj,af,an,aE] at*);(rw [Vw];simp [wk,ay,aB,aa,ab,av,al,ax,aj,af,an,aE, *];grind))
theorem Br:o5 7:=by
 intro op w dst src base ai au cc ho h PE
 have c0:= @bh op ho
 rw [eq_of_beq h] at c0
 generalize g2:eD op=r1 at c0
 generalize g4:iu op=r3 at c0
 have c5:= @Cw op w dst src base ai au cc 7 (rfl:true=true)
 let E1:EL:=([.ret _ _ _ c0]++Vt 4 (tC (eF (nt PE)))++ [.ret _ _ _ c5,tC (eF (nt PE)),tC (eF (nt PE)),.flat _ _ cD,tC (nt PE)])
 rcases cm (aa [.int .i8 0,.int .i8 0,.int .i8 0,.int .i8 src,.int .i8 0,.int .i64 0,.int .i64 au,.int .i8 cc] [.int .i8 0,.int .i8 0,.int .i8 0,.int .i8 0,.int .i8 0,.int .i64 0,.int .i64 0,.int .i8 0]) with h6|h6
 ·have c7:= @cP dst
  generalize g9:al dst=r8 at c7
  let E2:EL:=E1++Vt 3 (tC (eF (nt h6)))++ [.ret _ _ _ c7,tC (eF (nt h6)),tC (nt h6)]
  cases r8
  ·exact (cZ (d:= .bool false) (E2++ [tF,tF,tF,tF,tT,tF,tF,tF,tF,tT,tF,tF,tF,tF,tT,tF,tF,tF,tF,tT,tT]) (by kernel_rfl)).to (by clear E1 E2;(try simp only [bI,wk,ay,aB,aa,ab,av,al,ax,aj,af,an,aE] at*);(simp [wk,ay,aB,aa,ab,av,al,ax,aj,af,an,aE, *];done))
  have Qe:= @cP src
  generalize g12:al src=QF at Qe
  let E3:EL:=E2++ [tT,tT,tT,.ret _ _ _ Qe,tT,tF]
  cases QF
  ·exact (cZ (d:= .bool false) (E3++ [tF,tF,tF,tF,tT,tF,tF,tF,tF,tT,tF,tF,tF,tF,tT,tT]) (by kernel_rfl)).to (by clear E1 E2 E3;(try simp only [bI,wk,ay,aB,aa,ab,av,al,ax,aj,af,an,aE] at*);(simp [wk,ay,aB,aa,ab,av,al,ax,aj,af,an,aE, *];done))
  have Qg:= @cP base
  generalize g15:al base=QG at Qg
  let E4:EL:=E3++ [tT,tT,tT,.ret _ _ _ Qg,tT,tF]
  cases QG
  ·exact (cZ (d:= .bool false) (E4++ [tF,tF,tF,tF,tT,tF,tF,tF,tF,tT,tT]) (by kernel_rfl)).to (by clear E1 E2 E3 E4;(try simp only [bI,wk,ay,aB,aa,ab,av,al,ax,aj,af,an,aE] at*);(simp [wk,ay,aB,aa,ab,av,al,ax,aj,af,an,aE, *];done))
  have PQ:= @bG ai (-2147483648) 2147483647
  let E5:EL:=E4++ [tT,tT,tT,.ret _ _ _ PQ,tT,tF]
  rcases cm (decide (ai<(-2147483648))) with h17|h17
  ·exact (cZ (d:= .bool false) (E5++Vt 4 (tC (eF (nt (bu (y:=decide (ai≤2147483647)) (aK (-2147483648) h17)))))++ [tC (nt (bu (y:=decide (ai≤2147483647)) (aK (-2147483648) h17))),tT]) (by kernel_rfl)).to (by clear E1 E2 E3 E4 E5;(try simp only [bI,wk,ay,aB,aa,ab,av,al,ax,aj,af,an,aE] at*);(simp [wk,ay,aB,aa,ab,av,al,ax,aj,af,an,aE, *];omega))
  rcases cm (decide (ai<2147483648)) with h18|h18
  ·have QH:= @bG au (-2147483648) 2147483647
   let E6:EL:=E5++Vt 3 (tC (eF (nt (aD (aK (-2147483648) h17) (cQ 2147483647 h18)))))++ [.ret _ _ _ QH,tC (eF (nt (aD (aK (-2147483648) h17) (cQ 2147483647 h18)))),tC (nt (aD (aK (-2147483648) h17) (cQ 2147483647 h18)))]
   rcases cm (decide (au<(-2147483648))) with h20|h20
   ·exact (cZ (d:= .bool false) (E6++ [tC (nt (bu (y:=decide (au≤2147483647)) (aK (-2147483648) h20)))]) (by kernel_rfl)).to (by clear E1 E2 E3 E4 E5 E6;(try simp only [bI,wk,ay,aB,aa,ab,av,al,ax,aj,af,an,aE] at*);(simp [wk,ay,aB,aa,ab,av,al,ax,aj,af,an,aE, *];omega))
   rcases cm (decide (au<2147483648)) with h21|h21
   ·let E7:EL:=E6++ [tC (nt (aD (aK (-2147483648) h20) (cQ 2147483647 h21)))]
    by_cases h22:w=32
    ·subst h22
     have Re:= @hZ 32
     exact (cZ (d:= .bool true) (E7++ [tF,tF,tF,tT,tF,tF,tF,tF,tF,tT,tF,tF,tF,tF,tF,tF,tT,tT,.ret _ _ _ Re]) (by kernel_rfl)).to (by clear E1 E2 E3 E4 E5 E6 E7;(try simp only [bI,wk,ay,aB,aa,ab,av,al,ax,aj,af,an,aE] at*);(rw [Vw];simp [wk,ay,aB,aa,ab,av,al,ax,aj,af,an,aE, *];grind))
    let E8:EL:=E7++Vt 3 (tC (eF (aH h22)))++ [tC (aH h22)]++Vt 4 (tC (eF (aH h22)))
    by_cases h24:w=8
    ·subst h24
     have SK:= @bG au (-128) 127
     have Uw:= @hZ 8
     exact (cZ (d:= .bool true) (E8++ [tT,tT,tT,.ret _ _ _ SK,tT,tT,tF,tF,tF,tF,tF,tF,tF,tT,tT,.ret _ _ _ Uw]) (by kernel_rfl)).to (by clear E1 E2 E3 E4 E5 E6 E7 E8;(try simp only [bI,wk,ay,aB,aa,ab,av,al,ax,aj,af,an,aE] at*);(rw [Vw];simp [wk,ay,aB,aa,ab,av,al,ax,aj,af,an,aE, *];grind))
    have RC:= @hZ w
    generalize g29:af w=r28 at RC
    exact (cZ (d:= .bool r28) (E8++Vt 3 (tC (eT (aH h24)))++ [tC (eF (aH h22)),tC (aH h24),tC (aH h22),tF,tF,tF,tF,tF,tF,tT,tT,.ret _ _ _ RC]) (by kernel_rfl)).to (by clear E1 E2 E3 E4 E5 E6 E7 E8;(try simp only [bI,wk,ay,aB,aa,ab,av,al,ax,aj,af,an,aE] at*);(rw [Vw];simp [wk,ay,aB,aa,ab,av,al,ax,aj,af,an,aE, *];grind))
   exact (cZ (d:= .bool false) (E6++ [tC (nt (aD (aK (-2147483648) h20) (cQ 2147483647 h21)))]) (by kernel_rfl)).to (by clear E1 E2 E3 E4 E5 E6;(try simp only [bI,wk,ay,aB,aa,ab,av,al,ax,aj,af,an,aE] at*);(simp [wk,ay,aB,aa,ab,av,al,ax,aj,af,an,aE, *];omega))
  exact (cZ (d:= .bool false) (E5++Vt 4 (tC (eF (nt (aD (aK (-2147483648) h17) (cQ 2147483647 h18)))))++ [tC (nt (aD (aK (-2147483648) h17) (cQ 2147483647 h18))),tT]) (by kernel_rfl)).to (by clear E1 E2 E3 E4 E5;(try simp only [bI,wk,ay,aB,aa,ab,av,al,ax,aj,af,an,aE] at*);(simp [wk,ay,aB,aa,ab,av,al,ax,aj,af,an,aE, *];omega))
 exact (cZ (d:= .bool false) (E1++Vt 4 (tC (eF (nt h6)))++ [tC (nt h6),tF,tF,tF,tF,tT,tF,tF,tF,tF,tT,tF,tF,tF,tF,tT,tF,tF,tF,tF,tT,tT]) (by kernel_rfl)).to (by clear E1;(try simp only [bI,wk,ay,aB,aa,ab,av,al,ax,aj,af,an,aE] at*);(rw [Vw];simp [wk,ay,aB,aa,ab,av,al,ax,aj,af,an,aE, *];grind))
theorem Bq:o5 8:=by
 intro op w dst src base ai au cc ho h PE
 have c0:= @bh op ho
 rw [eq_of_beq h] at c0
 generalize g2:eD op=r1 at c0
 generalize g4:iu op=r3 at c0
 have c5:= @Cv op w dst src base ai au cc 8 (rfl:true=true)
 let E1:EL:=([.ret _ _ _ c0]++Vt 4 (tC (eF (nt PE)))++ [.ret _ _ _ c5,tC (eF (nt PE)),tC (eF (nt PE)),.flat _ _ cD,tC (nt PE)])
 rcases cm (aa [.int .i8 0,.int .i8 0,.int .i8 dst,.int .i8 0,.int .i8 0,.int .i64 0,.int .i64 au,.int .i8 cc] [.int .i8 0,.int .i8 0,.int .i8 0,.int .i8 0,.int .i8 0,.int .i64 0,.int .i64 0,.int .i8 0]) with h6|h6
 ·have c7:= @cP dst
  generalize g9:al dst=r8 at c7
  let E2:EL:=E1++Vt 3 (tC (eF (nt h6)))++ [.ret _ _ _ c7,tC (eF (nt h6)),tC (nt h6)]
  cases r8
  ·exact (cZ (d:= .bool false) (E2++ [tF,tF,tF,tF,tT,tF,tF,tF,tF,tT,tF,tF,tF,tF,tT,tF,tF,tF,tF,tT,tT]) (by kernel_rfl)).to (by clear E1 E2;(try simp only [bI,wk,ay,aB,aa,ab,av,al,ax,aj,af,an,aE] at*);(simp [wk,ay,aB,aa,ab,av,al,ax,aj,af,an,aE, *];done))
  have Qe:= @cP src
  generalize g12:al src=QF at Qe
  let E3:EL:=E2++ [tT,tT,tT,.ret _ _ _ Qe,tT,tF]
  cases QF
  ·exact (cZ (d:= .bool false) (E3++ [tF,tF,tF,tF,tT,tF,tF,tF,tF,tT,tF,tF,tF,tF,tT,tT]) (by kernel_rfl)).to (by clear E1 E2 E3;(try simp only [bI,wk,ay,aB,aa,ab,av,al,ax,aj,af,an,aE] at*);(simp [wk,ay,aB,aa,ab,av,al,ax,aj,af,an,aE, *];done))
  have Qg:= @cP base
  generalize g15:al base=QG at Qg
  let E4:EL:=E3++ [tT,tT,tT,.ret _ _ _ Qg,tT,tF]
  cases QG
  ·exact (cZ (d:= .bool false) (E4++ [tF,tF,tF,tF,tT,tF,tF,tF,tF,tT,tT]) (by kernel_rfl)).to (by clear E1 E2 E3 E4;(try simp only [bI,wk,ay,aB,aa,ab,av,al,ax,aj,af,an,aE] at*);(simp [wk,ay,aB,aa,ab,av,al,ax,aj,af,an,aE, *];done))
  have PQ:= @bG ai (-2147483648) 2147483647
  let E5:EL:=E4++ [tT,tT,tT,.ret _ _ _ PQ,tT,tF]
  rcases cm (decide (ai<(-2147483648))) with h17|h17
  ·exact (cZ (d:= .bool false) (E5++Vt 4 (tC (eF (nt (bu (y:=decide (ai≤2147483647)) (aK (-2147483648) h17)))))++ [tC (nt (bu (y:=decide (ai≤2147483647)) (aK (-2147483648) h17))),tT]) (by kernel_rfl)).to (by clear E1 E2 E3 E4 E5;(try simp only [bI,wk,ay,aB,aa,ab,av,al,ax,aj,af,an,aE] at*);(simp [wk,ay,aB,aa,ab,av,al,ax,aj,af,an,aE, *];omega))
  rcases cm (decide (ai<2147483648)) with h18|h18
  ·have QH:= @bG au (-2147483648) 2147483647
   let E6:EL:=E5++Vt 3 (tC (eF (nt (aD (aK (-2147483648) h17) (cQ 2147483647 h18)))))++ [.ret _ _ _ QH,tC (eF (nt (aD (aK (-2147483648) h17) (cQ 2147483647 h18)))),tC (nt (aD (aK (-2147483648) h17) (cQ 2147483647 h18)))]
   rcases cm (decide (au<(-2147483648))) with h20|h20
   ·exact (cZ (d:= .bool false) (E6++ [tC (nt (bu (y:=decide (au≤2147483647)) (aK (-2147483648) h20)))]) (by kernel_rfl)).to (by clear E1 E2 E3 E4 E5 E6;(try simp only [bI,wk,ay,aB,aa,ab,av,al,ax,aj,af,an,aE] at*);(simp [wk,ay,aB,aa,ab,av,al,ax,aj,af,an,aE, *];omega))
   rcases cm (decide (au<2147483648)) with h21|h21
   ·let E7:EL:=E6++ [tC (nt (aD (aK (-2147483648) h20) (cQ 2147483647 h21)))]
    by_cases h22:w=32
    ·subst h22
     have Re:= @hZ 32
     exact (cZ (d:= .bool true) (E7++ [tF,tF,tF,tT,tF,tF,tF,tF,tF,tT,tF,tF,tF,tF,tF,tF,tF,tT,.ret _ _ _ Re]) (by kernel_rfl)).to (by clear E1 E2 E3 E4 E5 E6 E7;(try simp only [bI,wk,ay,aB,aa,ab,av,al,ax,aj,af,an,aE] at*);(rw [Vw];simp [wk,ay,aB,aa,ab,av,al,ax,aj,af,an,aE, *];grind))
    let E8:EL:=E7++Vt 3 (tC (eF (aH h22)))++ [tC (aH h22)]++Vt 4 (tC (eF (aH h22)))
    by_cases h24:w=8
    ·subst h24
     have SK:= @bG au (-128) 127
     have Uw:= @hZ 8
     exact (cZ (d:= .bool true) (E8++ [tT,tT,tT,.ret _ _ _ SK,tT,tT]++Vt 8 tF++ [tT,.ret _ _ _ Uw]) (by kernel_rfl)).to (by clear E1 E2 E3 E4 E5 E6 E7 E8;(try simp only [bI,wk,ay,aB,aa,ab,av,al,ax,aj,af,an,aE] at*);(rw [Vw];simp [wk,ay,aB,aa,ab,av,al,ax,aj,af,an,aE, *];grind))
    have RC:= @hZ w
    generalize g29:af w=r28 at RC
    exact (cZ (d:= .bool r28) (E8++Vt 3 (tC (eT (aH h24)))++ [tC (eF (aH h22)),tC (aH h24),tC (aH h22),tF,tF,tF,tF,tF,tF,tF,tT,.ret _ _ _ RC]) (by kernel_rfl)).to (by clear E1 E2 E3 E4 E5 E6 E7 E8;(try simp only [bI,wk,ay,aB,aa,ab,av,al,ax,aj,af,an,aE] at*);(rw [Vw];simp [wk,ay,aB,aa,ab,av,al,ax,aj,af,an,aE, *];grind))
   exact (cZ (d:= .bool false) (E6++ [tC (nt (aD (aK (-2147483648) h20) (cQ 2147483647 h21)))]) (by kernel_rfl)).to (by clear E1 E2 E3 E4 E5 E6;(try simp only [bI,wk,ay,aB,aa,ab,av,al,ax,aj,af,an,aE] at*);(simp [wk,ay,aB,aa,ab,av,al,ax,aj,af,an,aE, *];omega))
  exact (cZ (d:= .bool false) (E5++Vt 4 (tC (eF (nt (aD (aK (-2147483648) h17) (cQ 2147483647 h18)))))++ [tC (nt (aD (aK (-2147483648) h17) (cQ 2147483647 h18))),tT]) (by kernel_rfl)).to (by clear E1 E2 E3 E4 E5;(try simp only [bI,wk,ay,aB,aa,ab,av,al,ax,aj,af,an,aE] at*);(simp [wk,ay,aB,aa,ab,av,al,ax,aj,af,an,aE, *];omega))
 exact (cZ (d:= .bool false) (E1++Vt 4 (tC (eF (nt h6)))++ [tC (nt h6),tF,tF,tF,tF,tT,tF,tF,tF,tF,tT,tF,tF,tF,tF,tT,tF,tF,tF,tF,tT,tT]) (by kernel_rfl)).to (by clear E1;(try simp only [bI,wk,ay,aB,aa,ab,av,al,ax,aj,af,an,aE] at*);(rw [Vw];simp [wk,ay,aB,aa,ab,av,al,ax,aj,af,an,aE, *];grind))
def o4 (QC:Int):Prop:= ∀(op w dst src base ai au cc:Int) (ho:op≤127) (h:(bq op==QC)=true) (PE:decide (0≤op∧op≤31)=true),aJ Tryz.prog 71 ([xD op w dst src base ai au cc]) (.bool (av op w dst src base ai au cc))
theorem Bp:o4 9:=by
 intro op w dst src base ai au cc ho h PE
 have c0:= @bh op ho
 rw [eq_of_beq h] at c0
 generalize g2:eD op=r1 at c0
 generalize g4:iu op=r3 at c0
 have c5:= @Cu op w dst src base ai au cc 9 (rfl:true=true)
 let E1:EL:=([.ret _ _ _ c0]++Vt 4 (tC (eF (nt PE)))++ [.ret _ _ _ c5,tC (eF (nt PE)),tC (eF (nt PE)),.flat _ _ cD,tC (nt PE)])
 rcases cm (aa [.int .i8 0,.int .i8 0,.int .i8 dst,.int .i8 src,.int .i8 base,.int .i64 ai,.int .i64 0,.int .i8 cc] [.int .i8 0,.int .i8 0,.int .i8 0,.int .i8 0,.int .i8 0,.int .i64 0,.int .i64 0,.int .i8 0]) with h6|h6
 ·have c7:= @cP dst
  generalize g9:al dst=r8 at c7
  let E2:EL:=E1++Vt 3 (tC (eF (nt h6)))++ [.ret _ _ _ c7,tC (eF (nt h6)),tC (nt h6)]
  cases r8
  ·exact (cZ (d:= .bool false) (E2++ [tF,tF,tF,tF,tT,tF,tF,tF,tF,tT,tF,tF,tF,tF,tT,tF,tF,tF,tF,tT,tT]) (by kernel_rfl)).to (by clear E1 E2;(try simp only [bI,wk,ay,aB,aa,ab,av,al,ax,aj,af,an,aE] at*);(simp [wk,ay,aB,aa,ab,av,al,ax,aj,af,an,aE, *];done))
  have Qe:= @cP src
  generalize g12:al src=QF at Qe
  let E3:EL:=E2++ [tT,tT,tT,.ret _ _ _ Qe,tT,tF]
  cases QF
  ·exact (cZ (d:= .bool false) (E3++ [tF,tF,tF,tF,tT,tF,tF,tF,tF,tT,tF,tF,tF,tF,tT,tT]) (by kernel_rfl)).to (by clear E1 E2 E3;(try simp only [bI,wk,ay,aB,aa,ab,av,al,ax,aj,af,an,aE] at*);(simp [wk,ay,aB,aa,ab,av,al,ax,aj,af,an,aE, *];done))
  have Qg:= @cP base
  generalize g15:al base=QG at Qg
  let E4:EL:=E3++ [tT,tT,tT,.ret _ _ _ Qg,tT,tF]
  cases QG
  ·exact (cZ (d:= .bool false) (E4++ [tF,tF,tF,tF,tT,tF,tF,tF,tF,tT,tT]) (by kernel_rfl)).to (by clear E1 E2 E3 E4;(try simp only [bI,wk,ay,aB,aa,ab,av,al,ax,aj,af,an,aE] at*);(simp [wk,ay,aB,aa,ab,av,al,ax,aj,af,an,aE, *];done))
  have PQ:= @bG ai (-2147483648) 2147483647
  let E5:EL:=E4++ [tT,tT,tT,.ret _ _ _ PQ,tT,tF]
  rcases cm (decide (ai<(-2147483648))) with h17|h17
  ·exact (cZ (d:= .bool false) (E5++Vt 4 (tC (eF (nt (bu (y:=decide (ai≤2147483647)) (aK (-2147483648) h17)))))++ [tC (nt (bu (y:=decide (ai≤2147483647)) (aK (-2147483648) h17))),tT]) (by kernel_rfl)).to (by clear E1 E2 E3 E4 E5;(try simp only [bI,wk,ay,aB,aa,ab,av,al,ax,aj,af,an,aE] at*);(simp [wk,ay,aB,aa,ab,av,al,ax,aj,af,an,aE, *];omega))
  rcases cm (decide (ai<2147483648)) with h18|h18
  ·have QH:= @bG au (-2147483648) 2147483647
   let E6:EL:=E5++Vt 3 (tC (eF (nt (aD (aK (-2147483648) h17) (cQ 2147483647 h18)))))++ [.ret _ _ _ QH,tC (eF (nt (aD (aK (-2147483648) h17) (cQ 2147483647 h18)))),tC (nt (aD (aK (-2147483648) h17) (cQ 2147483647 h18)))]
   rcases cm (decide (au<(-2147483648))) with h20|h20
   ·exact (cZ (d:= .bool false) (E6++ [tC (nt (bu (y:=decide (au≤2147483647)) (aK (-2147483648) h20)))]) (by kernel_rfl)).to (by clear E1 E2 E3 E4 E5 E6;(try simp only [bI,wk,ay,aB,aa,ab,av,al,ax,aj,af,an,aE] at*);(simp [wk,ay,aB,aa,ab,av,al,ax,aj,af,an,aE, *];omega))
   rcases cm (decide (au<2147483648)) with h21|h21
   ·let E7:EL:=E6++ [tC (nt (aD (aK (-2147483648) h20) (cQ 2147483647 h21)))]
    by_cases h22:w=32
    ·subst h22
     exact (cZ (d:= .bool true) (E7++ [tF,tF,tF,tT,tF,tF,tF,tF,tF,tT]++Vt 8 tF++ [tT]) (by kernel_rfl)).to (by clear E1 E2 E3 E4 E5 E6 E7;(try simp only [bI,wk,ay,aB,aa,ab,av,al,ax,aj,af,an,aE] at*);(rw [Vw];simp [wk,ay,aB,aa,ab,av,al,ax,aj,af,an,aE, *];grind))
    let E8:EL:=E7++Vt 3 (tC (eF (aH h22)))++ [tC (aH h22)]++Vt 4 (tC (eF (aH h22)))
    by_cases h23:w=8
    ·subst h23
     have RE:= @bG au (-128) 127
     exact (cZ (d:= .bool (decide ((-128)≤au)&&decide (au≤127))) (E8++ [tT,tT,tT,.ret _ _ _ RE,tT,tT]++Vt 9 tF++ [tT]) (by kernel_rfl)).to (by clear E1 E2 E3 E4 E5 E6 E7 E8;(try simp only [bI,wk,ay,aB,aa,ab,av,al,ax,aj,af,an,aE] at*);(rw [Vw];simp [wk,ay,aB,aa,ab,av,al,ax,aj,af,an,aE, *];grind))
    exact (cZ (d:= .bool false) (E8++Vt 3 (tC (eT (aH h23)))++ [tC (eF (aH h22)),tC (aH h23),tC (aH h22)]++Vt 8 tF++ [tT]) (by kernel_rfl)).to (by clear E1 E2 E3 E4 E5 E6 E7 E8;(try simp only [bI,wk,ay,aB,aa,ab,av,al,ax,aj,af,an,aE] at*);(simp [wk,ay,aB,aa,ab,av,al,ax,aj,af,an,aE, *];done))
   exact (cZ (d:= .bool false) (E6++ [tC (nt (aD (aK (-2147483648) h20) (cQ 2147483647 h21)))]) (by kernel_rfl)).to (by clear E1 E2 E3 E4 E5 E6;(try simp only [bI,wk,ay,aB,aa,ab,av,al,ax,aj,af,an,aE] at*);(simp [wk,ay,aB,aa,ab,av,al,ax,aj,af,an,aE, *];omega))
  exact (cZ (d:= .bool false) (E5++Vt 4 (tC (eF (nt (aD (aK (-2147483648) h17) (cQ 2147483647 h18)))))++ [tC (nt (aD (aK (-2147483648) h17) (cQ 2147483647 h18))),tT]) (by kernel_rfl)).to (by clear E1 E2 E3 E4 E5;(try simp only [bI,wk,ay,aB,aa,ab,av,al,ax,aj,af,an,aE] at*);(simp [wk,ay,aB,aa,ab,av,al,ax,aj,af,an,aE, *];omega))
 exact (cZ (d:= .bool false) (E1++Vt 4 (tC (eF (nt h6)))++ [tC (nt h6),tF,tF,tF,tF,tT,tF,tF,tF,tF,tT,tF,tF,tF,tF,tT,tF,tF,tF,tF,tT,tT]) (by kernel_rfl)).to (by clear E1;(try simp only [bI,wk,ay,aB,aa,ab,av,al,ax,aj,af,an,aE] at*);(rw [Vw];simp [wk,ay,aB,aa,ab,av,al,ax,aj,af,an,aE, *];grind))
theorem yN:o4 10:=by
 intro op w dst src base ai au cc ho h PE
 have c0:= @bh op ho
 rw [eq_of_beq h] at c0
 generalize g2:eD op=r1 at c0
 generalize g4:iu op=r3 at c0
 have c5:= @zw op w dst src base ai au cc 10 (rfl:true=true)
 let E1:EL:=([.ret _ _ _ c0]++Vt 4 (tC (eF (nt PE)))++ [.ret _ _ _ c5,tC (eF (nt PE)),tC (eF (nt PE)),.flat _ _ cD,tC (nt PE)])
 rcases cm (aa [.int .i8 0,.int .i8 0,.int .i8 dst,.int .i8 src,.int .i8 base,.int .i64 ai,.int .i64 0,.int .i8 0] [.int .i8 0,.int .i8 0,.int .i8 0,.int .i8 0,.int .i8 0,.int .i64 0,.int .i64 0,.int .i8 0]) with h6|h6
 ·have c7:= @cP dst
  generalize g9:al dst=r8 at c7
  let E2:EL:=E1++Vt 3 (tC (eF (nt h6)))++ [.ret _ _ _ c7,tC (eF (nt h6)),tC (nt h6)]
  cases r8
  ·exact (cZ (d:= .bool false) (E2++ [tF,tF,tF,tF,tT,tF,tF,tF,tF,tT,tF,tF,tF,tF,tT,tF,tF,tF,tF,tT,tT]) (by kernel_rfl)).to (by clear E1 E2;(try simp only [bI,wk,ay,aB,aa,ab,av,al,ax,aj,af,an,aE] at*);(simp [wk,ay,aB,aa,ab,av,al,ax,aj,af,an,aE, *];done))
  have Qe:= @cP src
  generalize g12:al src=QF at Qe
  let E3:EL:=E2++ [tT,tT,tT,.ret _ _ _ Qe,tT,tF]
  cases QF
  ·exact (cZ (d:= .bool false) (E3++ [tF,tF,tF,tF,tT,tF,tF,tF,tF,tT,tF,tF,tF,tF,tT,tT]) (by kernel_rfl)).to (by clear E1 E2 E3;(try simp only [bI,wk,ay,aB,aa,ab,av,al,ax,aj,af,an,aE] at*);(simp [wk,ay,aB,aa,ab,av,al,ax,aj,af,an,aE, *];done))
  have Qg:= @cP base
  generalize g15:al base=QG at Qg
  let E4:EL:=E3++ [tT,tT,tT,.ret _ _ _ Qg,tT,tF]
  cases QG
  ·exact (cZ (d:= .bool false) (E4++ [tF,tF,tF,tF,tT,tF,tF,tF,tF,tT,tT]) (by kernel_rfl)).to (by clear E1 E2 E3 E4;(try simp only [bI,wk,ay,aB,aa,ab,av,al,ax,aj,af,an,aE] at*);(simp [wk,ay,aB,aa,ab,av,al,ax,aj,af,an,aE, *];done))
  have PQ:= @bG ai (-2147483648) 2147483647
  let E5:EL:=E4++ [tT,tT,tT,.ret _ _ _ PQ,tT,tF]
  rcases cm (decide (ai<(-2147483648))) with h17|h17
  ·exact (cZ (d:= .bool false) (E5++Vt 4 (tC (eF (nt (bu (y:=decide (ai≤2147483647)) (aK (-2147483648) h17)))))++ [tC (nt (bu (y:=decide (ai≤2147483647)) (aK (-2147483648) h17))),tT]) (by kernel_rfl)).to (by clear E1 E2 E3 E4 E5;(try simp only [bI,wk,ay,aB,aa,ab,av,al,ax,aj,af,an,aE] at*);(simp [wk,ay,aB,aa,ab,av,al,ax,aj,af,an,aE, *];omega))
  rcases cm (decide (ai<2147483648)) with h18|h18
  ·have QH:= @bG au (-2147483648) 2147483647
   let E6:EL:=E5++Vt 3 (tC (eF (nt (aD (aK (-2147483648) h17) (cQ 2147483647 h18)))))++ [.ret _ _ _ QH,tC (eF (nt (aD (aK (-2147483648) h17) (cQ 2147483647 h18)))),tC (nt (aD (aK (-2147483648) h17) (cQ 2147483647 h18)))]
   rcases cm (decide (au<(-2147483648))) with h20|h20
   ·exact (cZ (d:= .bool false) (E6++ [tC (nt (bu (y:=decide (au≤2147483647)) (aK (-2147483648) h20)))]) (by kernel_rfl)).to (by clear E1 E2 E3 E4 E5 E6;(try simp only [bI,wk,ay,aB,aa,ab,av,al,ax,aj,af,an,aE] at*);(simp [wk,ay,aB,aa,ab,av,al,ax,aj,af,an,aE, *];omega))
   rcases cm (decide (au<2147483648)) with h21|h21
   ·let E7:EL:=E6++ [tC (nt (aD (aK (-2147483648) h20) (cQ 2147483647 h21)))]
    by_cases h22:w=32
    ·subst h22
     have Re:= @nh cc
     generalize g25:aE cc=r24 at Re
     exact (cZ (d:= .bool r24) (E7++ [tF,tF,tF,tT,tF,tF,tF,tF,tF,tT]++Vt 9 tF++ [tT,tT,tT,tT,.ret _ _ _ Re,tT]) (by kernel_rfl)).to (by clear E1 E2 E3 E4 E5 E6 E7;(try simp only [bI,wk,ay,aB,aa,ab,av,al,ax,aj,af,an,aE] at*);(rw [Vw];simp [wk,ay,aB,aa,ab,av,al,ax,aj,af,an,aE, *];grind))
    let E8:EL:=E7++Vt 3 (tC (eF (aH h22)))++ [tC (aH h22)]++Vt 4 (tC (eF (aH h22)))
    by_cases h26:w=8
    ·subst h26
     have RC:= @bG au (-128) 127
     let E9:EL:=E8++ [tT,tT,tT,.ret _ _ _ RC,tT,tT]++Vt 10 tF++ [tT]
     rcases cm (decide (au<(-128))) with h28|h28
     ·exact (cZ (d:= .bool false) (E9++Vt 3 (tC (eT (bu (y:=decide (au≤127)) (aK (-128) h28))))++ [tC (bu (y:=decide (au≤127)) (aK (-128) h28))]) (by kernel_rfl)).to (by clear E1 E2 E3 E4 E5 E6 E7 E8 E9;(try simp only [bI,wk,ay,aB,aa,ab,av,al,ax,aj,af,an,aE] at*);(simp [wk,ay,aB,aa,ab,av,al,ax,aj,af,an,aE, *];omega))
     rcases cm (decide (au<128)) with h29|h29
     ·have TS:= @nh cc
      generalize g32:aE cc=r31 at TS
      exact (cZ (d:= .bool r31) (E9++Vt 3 (tC (eT (aD (aK (-128) h28) (cQ 127 h29))))++ [.ret _ _ _ TS,tC (aD (aK (-128) h28) (cQ 127 h29))]) (by kernel_rfl)).to (by clear E1 E2 E3 E4 E5 E6 E7 E8 E9;(try simp only [bI,wk,ay,aB,aa,ab,av,al,ax,aj,af,an,aE] at*);(rw [Vw];simp [wk,ay,aB,aa,ab,av,al,ax,aj,af,an,aE, *];grind))
     exact (cZ (d:= .bool false) (E9++Vt 3 (tC (eT (aD (aK (-128) h28) (cQ 127 h29))))++ [tC (aD (aK (-128) h28) (cQ 127 h29))]) (by kernel_rfl)).to (by clear E1 E2 E3 E4 E5 E6 E7 E8 E9;(try simp only [bI,wk,ay,aB,aa,ab,av,al,ax,aj,af,an,aE] at*);(simp [wk,ay,aB,aa,ab,av,al,ax,aj,af,an,aE, *];omega))
    exact (cZ (d:= .bool false) (E8++Vt 3 (tC (eT (aH h26)))++ [tC (eF (aH h22)),tC (aH h26),tC (aH h22)]++Vt 9 tF++ [tT,tF,tF,tF,tF]) (by kernel_rfl)).to (by clear E1 E2 E3 E4 E5 E6 E7 E8;(try simp only [bI,wk,ay,aB,aa,ab,av,al,ax,aj,af,an,aE] at*);(simp [wk,ay,aB,aa,ab,av,al,ax,aj,af,an,aE, *];done))
   exact (cZ (d:= .bool false) (E6++ [tC (nt (aD (aK (-2147483648) h20) (cQ 2147483647 h21)))]) (by kernel_rfl)).to (by clear E1 E2 E3 E4 E5 E6;(try simp only [bI,wk,ay,aB,aa,ab,av,al,ax,aj,af,an,aE] at*);(simp [wk,ay,aB,aa,ab,av,al,ax,aj,af,an,aE, *];omega))
  exact (cZ (d:= .bool false) (E5++Vt 4 (tC (eF (nt (aD (aK (-2147483648) h17) (cQ 2147483647 h18)))))++ [tC (nt (aD (aK (-2147483648) h17) (cQ 2147483647 h18))),tT]) (by kernel_rfl)).to (by clear E1 E2 E3 E4 E5;(try simp only [bI,wk,ay,aB,aa,ab,av,al,ax,aj,af,an,aE] at*);(simp [wk,ay,aB,aa,ab,av,al,ax,aj,af,an,aE, *];omega))
 exact (cZ (d:= .bool false) (E1++Vt 4 (tC (eF (nt h6)))++ [tC (nt h6),tF,tF,tF,tF,tT,tF,tF,tF,tF,tT,tF,tF,tF,tF,tT,tF,tF,tF,tF,tT,tT]) (by kernel_rfl)).to (by clear E1;(try simp only [bI,wk,ay,aB,aa,ab,av,al,ax,aj,af,an,aE] at*);(rw [Vw];simp [wk,ay,aB,aa,ab,av,al,ax,aj,af,an,aE, *];grind))
theorem yM:o4 11:=by
 intro op w dst src base ai au cc ho h PE
 have c0:= @bh op ho
 rw [eq_of_beq h] at c0
 generalize g2:eD op=r1 at c0
 generalize g4:iu op=r3 at c0
 have c5:= @zu op w dst src base ai au cc 11 (rfl:true=true)
 let E1:EL:=([.ret _ _ _ c0]++Vt 4 (tC (eF (nt PE)))++ [.ret _ _ _ c5,tC (eF (nt PE)),tC (eF (nt PE)),.flat _ _ cD,tC (nt PE)])
 rcases cm (aa [.int .i8 0,.int .i8 w,.int .i8 dst,.int .i8 src,.int .i8 base,.int .i64 ai,.int .i64 au,.int .i8 cc] [.int .i8 0,.int .i8 0,.int .i8 0,.int .i8 0,.int .i8 0,.int .i64 0,.int .i64 0,.int .i8 0]) with h6|h6
 ·have c7:= @cP dst
  generalize g9:al dst=r8 at c7
  let E2:EL:=E1++Vt 3 (tC (eF (nt h6)))++ [.ret _ _ _ c7,tC (eF (nt h6)),tC (nt h6)]
  cases r8
  ·exact (cZ (d:= .bool false) (E2++ [tF,tF,tF,tF,tT,tF,tF,tF,tF,tT,tF,tF,tF,tF,tT,tF,tF,tF,tF,tT,tT]) (by kernel_rfl)).to (by clear E1 E2;(try simp only [bI,wk,ay,aB,aa,ab,av,al,ax,aj,af,an,aE] at*);(simp [wk,ay,aB,aa,ab,av,al,ax,aj,af,an,aE, *];done))
  have Qe:= @cP src
  generalize g12:al src=QF at Qe
  let E3:EL:=E2++ [tT,tT,tT,.ret _ _ _ Qe,tT,tF]
  cases QF
  ·exact (cZ (d:= .bool false) (E3++ [tF,tF,tF,tF,tT,tF,tF,tF,tF,tT,tF,tF,tF,tF,tT,tT]) (by kernel_rfl)).to (by clear E1 E2 E3;(try simp only [bI,wk,ay,aB,aa,ab,av,al,ax,aj,af,an,aE] at*);(simp [wk,ay,aB,aa,ab,av,al,ax,aj,af,an,aE, *];done))
  have Qg:= @cP base
  generalize g15:al base=QG at Qg
  let E4:EL:=E3++ [tT,tT,tT,.ret _ _ _ Qg,tT,tF]
  cases QG
  ·exact (cZ (d:= .bool false) (E4++ [tF,tF,tF,tF,tT,tF,tF,tF,tF,tT,tT]) (by kernel_rfl)).to (by clear E1 E2 E3 E4;(try simp only [bI,wk,ay,aB,aa,ab,av,al,ax,aj,af,an,aE] at*);(simp [wk,ay,aB,aa,ab,av,al,ax,aj,af,an,aE, *];done))
  have PQ:= @bG ai (-2147483648) 2147483647
  let E5:EL:=E4++ [tT,tT,tT,.ret _ _ _ PQ,tT,tF]
  rcases cm (decide (ai<(-2147483648))) with h17|h17
  ·exact (cZ (d:= .bool false) (E5++Vt 4 (tC (eF (nt (bu (y:=decide (ai≤2147483647)) (aK (-2147483648) h17)))))++ [tC (nt (bu (y:=decide (ai≤2147483647)) (aK (-2147483648) h17))),tT]) (by kernel_rfl)).to (by clear E1 E2 E3 E4 E5;(try simp only [bI,wk,ay,aB,aa,ab,av,al,ax,aj,af,an,aE] at*);(simp [wk,ay,aB,aa,ab,av,al,ax,aj,af,an,aE, *];omega))
  rcases cm (decide (ai<2147483648)) with h18|h18
  ·have QH:= @bG au (-2147483648) 2147483647
   let E6:EL:=E5++Vt 3 (tC (eF (nt (aD (aK (-2147483648) h17) (cQ 2147483647 h18)))))++ [.ret _ _ _ QH,tC (eF (nt (aD (aK (-2147483648) h17) (cQ 2147483647 h18)))),tC (nt (aD (aK (-2147483648) h17) (cQ 2147483647 h18)))]
   rcases cm (decide (au<(-2147483648))) with h20|h20
   ·exact (cZ (d:= .bool false) (E6++ [tC (nt (bu (y:=decide (au≤2147483647)) (aK (-2147483648) h20)))]) (by kernel_rfl)).to (by clear E1 E2 E3 E4 E5 E6;(try simp only [bI,wk,ay,aB,aa,ab,av,al,ax,aj,af,an,aE] at*);(simp [wk,ay,aB,aa,ab,av,al,ax,aj,af,an,aE, *];omega))
   rcases cm (decide (au<2147483648)) with h21|h21
   ·let E7:EL:=E6++ [tC (nt (aD (aK (-2147483648) h20) (cQ 2147483647 h21)))]
    by_cases h22:w=32
    ·subst h22
     exact (cZ (d:= .bool true) (E7++ [tF,tF,tF,tT,tF,tF,tF,tF,tF,tT]++Vt 10 tF) (by kernel_rfl)).to (by clear E1 E2 E3 E4 E5 E6 E7;(try simp only [bI,wk,ay,aB,aa,ab,av,al,ax,aj,af,an,aE] at*);(rw [Vw];simp [wk,ay,aB,aa,ab,av,al,ax,aj,af,an,aE, *];grind))
    let E8:EL:=E7++Vt 3 (tC (eF (aH h22)))++ [tC (aH h22)]++Vt 4 (tC (eF (aH h22)))
    by_cases h23:w=8
    ·subst h23
     have RE:= @bG au (-128) 127
     exact (cZ (d:= .bool true) (E8++ [tT,tT,tT,.ret _ _ _ RE,tT,tT]++Vt 11 tF) (by kernel_rfl)).to (by clear E1 E2 E3 E4 E5 E6 E7 E8;(try simp only [bI,wk,ay,aB,aa,ab,av,al,ax,aj,af,an,aE] at*);(rw [Vw];simp [wk,ay,aB,aa,ab,av,al,ax,aj,af,an,aE, *];grind))
    exact (cZ (d:= .bool true) (E8++Vt 3 (tC (eT (aH h23)))++ [tC (eF (aH h22)),tC (aH h23),tC (aH h22)]++Vt 10 tF) (by kernel_rfl)).to (by clear E1 E2 E3 E4 E5 E6 E7 E8;(try simp only [bI,wk,ay,aB,aa,ab,av,al,ax,aj,af,an,aE] at*);(rw [Vw];simp [wk,ay,aB,aa,ab,av,al,ax,aj,af,an,aE, *];grind))
   exact (cZ (d:= .bool false) (E6++ [tC (nt (aD (aK (-2147483648) h20) (cQ 2147483647 h21)))]) (by kernel_rfl)).to (by clear E1 E2 E3 E4 E5 E6;(try simp only [bI,wk,ay,aB,aa,ab,av,al,ax,aj,af,an,aE] at*);(simp [wk,ay,aB,aa,ab,av,al,ax,aj,af,an,aE, *];omega))
  exact (cZ (d:= .bool false) (E5++Vt 4 (tC (eF (nt (aD (aK (-2147483648) h17) (cQ 2147483647 h18)))))++ [tC (nt (aD (aK (-2147483648) h17) (cQ 2147483647 h18))),tT]) (by kernel_rfl)).to (by clear E1 E2 E3 E4 E5;(try simp only [bI,wk,ay,aB,aa,ab,av,al,ax,aj,af,an,aE] at*);(simp [wk,ay,aB,aa,ab,av,al,ax,aj,af,an,aE, *];omega))
 exact (cZ (d:= .bool false) (E1++Vt 4 (tC (eF (nt h6)))++ [tC (nt h6),tF,tF,tF,tF,tT,tF,tF,tF,tF,tT,tF,tF,tF,tF,tT,tF,tF,tF,tF,tT,tT]) (by kernel_rfl)).to (by clear E1;(try simp only [bI,wk,ay,aB,aa,ab,av,al,ax,aj,af,an,aE] at*);(rw [Vw];simp [wk,ay,aB,aa,ab,av,al,ax,aj,af,an,aE, *];grind))
theorem tU:∀n:Fin 32,bq (n.val:Int)=1∨bq (n.val:Int)=2∨bq (n.val:Int)=3∨bq (n.val:Int)=4∨bq (n.val:Int)=5∨bq (n.val:Int)=6∨bq (n.val:Int)=7∨bq (n.val:Int)=8∨bq (n.val:Int)=9∨bq (n.val:Int)=10∨bq (n.val:Int)=11:=by decide+kernel
theorem aU (op w dst src base ai au cc:Int) (ho:op≤127):aJ Tryz.prog 71 [xD op w dst src base ai au cc] (.bool (av op w dst src base ai au cc)):=by
 by_cases PE:0≤op∧op≤31
 ·have e:op=(((⟨op.toNat,by omega⟩:Fin 32).val:Nat):Int):=by simp;omega
  have hr:=tU ⟨op.toNat,by omega⟩
  rw [← e] at hr
  have QK:decide (0≤op∧op≤31)=true:=decide_eq_true PE
  rcases hr with h|h|h|h|h|h|h|h|h|h|h
  ·exact Bx _ _ _ _ _ _ _ _ ho (by rw [h];rfl) QK
  ·exact Bw _ _ _ _ _ _ _ _ ho (by rw [h];rfl) QK
  ·exact Bv _ _ _ _ _ _ _ _ ho (by rw [h];rfl) QK
  ·exact Bu _ _ _ _ _ _ _ _ ho (by rw [h];rfl) QK
  ·exact Bt _ _ _ _ _ _ _ _ ho (by rw [h];rfl) QK
  ·exact Bs _ _ _ _ _ _ _ _ ho (by rw [h];rfl) QK
  ·exact Br _ _ _ _ _ _ _ _ ho (by rw [h];rfl) QK
  ·exact Bq _ _ _ _ _ _ _ _ ho (by rw [h];rfl) QK
  ·exact Bp _ _ _ _ _ _ _ _ ho (by rw [h];rfl) QK
  ·exact yN _ _ _ _ _ _ _ _ ho (by rw [h];rfl) QK
  ·exact yM _ _ _ _ _ _ _ _ ho (by rw [h];rfl) QK
 ·exact Bz _ _ _ _ _ _ _ _ ho (by rw [(gF (op:=op) (by omega)).1];rfl) (decide_eq_false PE)
theorem ca (a:Int) (a0:0≤a) (a1:a≤15):aJ Tryz.prog 145 ([.aq .tight 1 [.int .i8 a]]) (.int .i64 (cE a)):=by
 exact (Ij (d:=D.int W3.i64 (W3.i64.wrap (↑(Wi (VB (64:Nat) 0|||VB (64:Nat) (W3.i64.wrap (1*2^min (VP a) (64:Nat))))):Int))) [.go 64,tT,tT,.get ([D.int W3.i8 a]) 0 (D.int W3.i8 a) rfl,tC (v:=true) (aK 0 (decide_eq_false (VH.2 a0))),tF] (by kernel_rfl)).to (by simp only [wk,D.int.injEq,true_and];obtain ⟨n_a,rfl⟩:=wC a0 a1;clear a0 a1;revert n_a;decide+kernel)
theorem ea (a:Int) (a0:0≤a) (a1:a≤15) (b:Int) (b0:0≤b) (b1:b≤15):aJ Tryz.prog 145 ([.aq .tight 1 [.int .i8 a,.int .i8 b]]) (.int .i64 (fS (cE a) (cE b))):=by
 exact (Ij (d:=D.int W3.i64 (W3.i64.wrap (↑(Wi (VB (64:Nat) (W3.i64.wrap (↑(Wi (VB (64:Nat) 0|||VB (64:Nat) (W3.i64.wrap (1*2^min (VP a) (64:Nat))))):Int))|||VB (64:Nat) (W3.i64.wrap (1*2^min (VP b) (64:Nat))))):Int))) [.go 64,tT,tT,.get ([D.int W3.i8 a,D.int W3.i8 b]) 0 (D.int W3.i8 a) rfl,tC (v:=true) (aK 0 (decide_eq_false (VH.2 a0))),tT,tT,.get ([D.int W3.i8 a,D.int W3.i8 b]) 1 (D.int W3.i8 b) rfl,tC (v:=true) (aK 0 (decide_eq_false (VH.2 b0))),tF] (by kernel_rfl)).to (by simp only [wk,D.int.injEq,true_and];obtain ⟨n_a,rfl⟩:=wC a0 a1;obtain ⟨n_b,rfl⟩:=wC b0 b1;clear a0 a1 b0 b1;revert n_a n_b;decide+kernel)
theorem Fp (a:Int) (a0:0≤a) (a1:a≤15):aJ Tryz.prog 145 ([.aq .tight 1 [.int .i8 a,.int .i8 0,.int .i8 2]]) (.int .i64 (fS (fS (cE a) (cE 0)) (cE 2))):=by
 exact (Ij (d:=D.int W3.i64 (W3.i64.wrap (↑(Wi (VB (64:Nat) (W3.i64.wrap (↑(Wi (VB (64:Nat) (W3.i64.wrap (↑(Wi (VB (64:Nat) 0|||VB (64:Nat) (W3.i64.wrap (1*2^min (VP a) (64:Nat))))):Int))|||VB (64:Nat) 1)):Int))|||VB (64:Nat) 4)):Int))) [.go 64,tT,tT,.get ([D.int W3.i8 a,D.int W3.i8 0,D.int W3.i8 2]) 0 (D.int W3.i8 a) rfl,tC (v:=true) (aK 0 (decide_eq_false (VH.2 a0))),tT,tT,.get ([D.int W3.i8 a,D.int W3.i8 0,D.int W3.i8 2]) 1 (D.int W3.i8 0) rfl,tT,tT,tT,.get ([D.int W3.i8 a,D.int W3.i8 0,D.int W3.i8 2]) 2 (D.int W3.i8 2) rfl,tT,tF] (by kernel_rfl)).to (by simp only [wk,D.int.injEq,true_and];obtain ⟨n_a,rfl⟩:=wC a0 a1;clear a0 a1;revert n_a;decide+kernel)
theorem aO (a:Int) (a0:0≤a) (a1:a≤15):aJ Tryz.prog 134 ([.int .i8 a]) (.int .i64 (cE a)):=by
 exact (LI (d:=D.int W3.i64 (W3.i64.wrap (1*2^min (VP (W3.wrap W3.u64 a)) (64:Nat)))) [tC (v:=true) (@sL a)] (by kernel_rfl)).to (by simp only [wk,D.int.injEq,true_and];obtain ⟨n_a,rfl⟩:=wC a0 a1;clear a0 a1;revert n_a;decide+kernel)
theorem kX (op w dst src base ai au cc:Int) (hc:(bU op==1)=true):aJ Tryz.prog 127 ([xD op w dst src base ai au cc]) (xD op w dst src 0 0 0 0):=by
 have c0:= @bp op
 rw [show (bU op)=1 from (eq_of_beq hc)] at c0
 exact (pO (d:=(xD op w dst src 0 0 0 0)) [.ret _ _ _ c0,tT,tT,tF,tF,tT,tF,tF,tT,tT,tT,tT,tF,tT,tT,tF,tT,tT,tF,tF,tT,tT,tF,tF,tT,tT,tF,tF] (by kernel_rfl)).to (by simp [wk,ay])
theorem sv (op w dst src base ai au cc:Int) (hc:(bU op==2)=true):aJ Tryz.prog 127 ([xD op w dst src base ai au cc]) (xD op w dst 0 0 0 au 0):=by
 have c0:= @bp op
 rw [show (bU op)=2 from (eq_of_beq hc)] at c0
 exact (pO (d:=(xD op w dst 0 0 0 au 0)) [.ret _ _ _ c0,tT,tT,tT,tT,tF,tT,tT,tF,tF,tF,tF,tT,tF,tF,tT,tF,tF,tT,tT,tT,tT,tF,tF,tT,tT,tF,tF] (by kernel_rfl)).to (by simp [wk,ay])
theorem su (op w dst src base ai au cc:Int) (hc:(bU op==3)=true):aJ Tryz.prog 127 ([xD op w dst src base ai au cc]) (xD op w dst 0 0 0 au 0):=by
 have c0:= @bp op
 rw [show (bU op)=3 from (eq_of_beq hc)] at c0
 exact (pO (d:=(xD op w dst 0 0 0 au 0)) [.ret _ _ _ c0,tT,tT,tT,tT,tF,tT,tT,tF,tF,tT,tT,tF,tF,tF,tT,tF,tF,tT,tT,tT,tT,tF,tF,tT,tT,tF,tF] (by kernel_rfl)).to (by simp [wk,ay])
theorem ss (op w dst src base ai au cc:Int) (hc:(bU op==4)=true):aJ Tryz.prog 127 ([xD op w dst src base ai au cc]) (xD op w dst 0 0 0 0 0):=by
 have c0:= @bp op
 rw [show (bU op)=4 from (eq_of_beq hc)] at c0
 exact (pO (d:=(xD op w dst 0 0 0 0 0)) [.ret _ _ _ c0,tT,tT,tT,tT,tF,tT,tT,tF,tF,tT,tT,tF,tT,tT,tF,tT,tT,tF,tF,tT,tT,tF,tF,tT,tT,tF,tF] (by kernel_rfl)).to (by simp [wk,ay])
theorem sr (op w dst src base ai au cc:Int) (hc:(bU op==5)=true):aJ Tryz.prog 127 ([xD op w dst src base ai au cc]) (xD op w dst src 0 0 0 cc):=by
 have c0:= @bp op
 rw [show (bU op)=5 from (eq_of_beq hc)] at c0
 exact (pO (d:=(xD op w dst src 0 0 0 cc)) [.ret _ _ _ c0,tT,tT,tT,tT,tF,tF,tF,tT,tT,tT,tT,tF,tT,tT,tF,tT,tT,tF,tF,tF,tF,tT,tT,tT,tT,tF,tF] (by kernel_rfl)).to (by simp [wk,ay])
theorem sq (op w dst src base ai au cc:Int) (hc:(bU op==6)=true):aJ Tryz.prog 127 ([xD op w dst src base ai au cc]) (xD op w dst 0 base ai 0 0):=by
 have c0:= @bp op
 rw [show (bU op)=6 from (eq_of_beq hc)] at c0
 exact (pO (d:=(xD op w dst 0 base ai 0 0)) [.ret _ _ _ c0,tT,tT,tT,tT,tF,tT,tT,tF,tF,tT,tT,tF,tT,tT,tF,tT,tT,tF,tF,tT,tT,tF,tF,tF,tF,tT,tT] (by kernel_rfl)).to (by simp [wk,ay])
theorem so (op w dst src base ai au cc:Int) (hc:(bU op==7)=true):aJ Tryz.prog 127 ([xD op w dst src base ai au cc]) (xD op w 0 src base ai 0 0):=by
 have c0:= @bp op
 rw [show (bU op)=7 from (eq_of_beq hc)] at c0
 exact (pO (d:=(xD op w 0 src base ai 0 0)) [.ret _ _ _ c0,tT,tF,tT,tT,tF,tT,tT,tF,tT,tT,tT,tF,tT,tT,tF,tT,tT,tF,tF,tT,tT,tF,tF,tT,tT,tF,tT] (by kernel_rfl)).to (by simp [wk,ay])
theorem sm (op w dst src base ai au cc:Int) (hc:(bU op==8)=true):aJ Tryz.prog 127 ([xD op w dst src base ai au cc]) (xD op w 0 0 0 0 au 0):=by
 have c0:= @bp op
 rw [show (bU op)=8 from (eq_of_beq hc)] at c0
 exact (pO (d:=(xD op w 0 0 0 0 au 0)) [.ret _ _ _ c0,tT,tF,tT,tT,tF,tT,tT,tF,tF,tT,tT,tF,tT,tT,tF,tF,tF,tT,tT,tT,tT,tF,tF,tT,tT,tF,tF] (by kernel_rfl)).to (by simp [wk,ay])
theorem sl (op w dst src base ai au cc:Int) (hc:(bU op==9)=true):aJ Tryz.prog 127 ([xD op w dst src base ai au cc]) (xD op w 0 0 0 0 au cc):=by
 have c0:= @bp op
 rw [show (bU op)=9 from (eq_of_beq hc)] at c0
 exact (pO (d:=(xD op w 0 0 0 0 au cc)) [.ret _ _ _ c0,tT,tF,tT,tT,tF,tT,tT,tF,tF,tT,tT,tF,tT,tT,tF,tT,tT,tF,tT,tT,tT,tF,tT,tT,tT,tF,tF] (by kernel_rfl)).to (by simp [wk,ay])
theorem pJ (op w dst src base ai au cc:Int) (hc:(bU op==10)=true):aJ Tryz.prog 127 ([xD op w dst src base ai au cc]) (xD op 0 0 0 0 0 0 0):=by
 have c0:= @bp op
 rw [show (bU op)=10 from (eq_of_beq hc)] at c0
 exact (pO (d:=(xD op 0 0 0 0 0 0 0)) [.ret _ _ _ c0,tF,tF,tT,tT,tF,tT,tT,tF,tF,tT,tT,tF,tT,tT,tF,tT,tT,tF,tF,tT,tT,tF,tF,tT,tT,tF,tF] (by kernel_rfl)).to (by simp [wk,ay])
theorem xy (op w dst src base ai au cc:Int) (h:(bq op==0)=true) (hc:(bU op==0)=true):aJ Tryz.prog 91 ([xD op w dst src base ai au cc]) (.bool (av op w dst src base ai au cc)):=by
 have c0:= @bp op
 rw [eq_of_beq hc] at c0
 exact (dP (d:= .bool false) [.ret _ _ _ c0,tF,tF,tF,tF,tT,tF,tF,tF,tF,tT,tF,tF,tF,tF,tT,tF,tF,tF,tF,tT,tF,tF,tF,tF,tT,tF,tF,tF,tF,tT,tT] (by kernel_rfl)).to (by (try simp only [bI,wk,ay,aB,aa,ab,av,al,ax,aj,af,an,aE] at*);(simp [wk,ay,aB,aa,ab,av,al,ax,aj,af,an,aE, *];done))
theorem xx (op w dst src base ai au cc:Int) (h:(bq op==1)=true) (hc:(bU op==1)=true):aJ Tryz.prog 91 ([xD op w dst src base ai au cc]) (.bool (av op w dst src base ai au cc)):=by
 have c0:= @bp op
 rw [eq_of_beq hc] at c0
 have c1:= @kX op w dst src base ai au cc (bS 1 true (eq_of_beq hc))
 let E1:EL:= [.ret _ _ _ c0,tT,tT,tT,.ret _ _ _ c1,tT,.flat _ _ cD,tF]
 rcases cm (aa [.int .i8 op,.int .i8 w,.int .i8 dst,.int .i8 src,.int .i8 base,.int .i64 ai,.int .i64 au,.int .i8 cc] [.int .i8 op,.int .i8 w,.int .i8 dst,.int .i8 src,.int .i8 0,.int .i64 0,.int .i64 0,.int .i8 0]) with h2|h2
 ·have c3:= @ck dst
  generalize g5:al dst=r4 at c3
  let E2:EL:=E1++Vt 3 (tC (eF (nt h2)))++ [.ret _ _ _ c3,tC (eF (nt h2)),tC (nt h2)]
  cases r4
  ·exact (dP (d:= .bool false) (E2++ [tF,tF,tF,tF,tT,tF,tF,tF,tF,tT,tF,tF,tF,tF,tT,tF,tF,tF,tF,tT,tT]) (by kernel_rfl)).to (by clear E1 E2;(try simp only [bI,wk,ay,aB,aa,ab,av,al,ax,aj,af,an,aE] at*);(simp [wk,ay,aB,aa,ab,av,al,ax,aj,af,an,aE, *];done))
  have c6:= @ck src
  generalize g8:al src=r7 at c6
  let E3:EL:=E2++ [tT,tT,tT,.ret _ _ _ c6,tT,tF]
  cases r7
  ·exact (dP (d:= .bool false) (E3++ [tF,tF,tF,tF,tT,tF,tF,tF,tF,tT,tF,tF,tF,tF,tT,tT]) (by kernel_rfl)).to (by clear E1 E2 E3;(try simp only [bI,wk,ay,aB,aa,ab,av,al,ax,aj,af,an,aE] at*);(simp [wk,ay,aB,aa,ab,av,al,ax,aj,af,an,aE, *];done))
  have c9:= @ck base
  generalize g11:al base=lf at c9
  let E4:EL:=E3++ [tT,tT,tT,.ret _ _ _ c9,tT,tF]
  cases lf
  ·exact (dP (d:= .bool false) (E4++ [tF,tF,tF,tF,tT,tF,tF,tF,tF,tT,tT]) (by kernel_rfl)).to (by clear E1 E2 E3 E4;(try simp only [bI,wk,ay,aB,aa,ab,av,al,ax,aj,af,an,aE] at*);(simp [wk,ay,aB,aa,ab,av,al,ax,aj,af,an,aE, *];done))
  have Qp:= @cL ai
  rcases cm (decide ((-2147483648)≤ai∧ai≤2147483647)) with Pv|Pv
  ·have QI:= @cL au
   let E5:EL:=E4++ [tT,tT,tT,.ret _ _ _ Qp,tT,tF]++Vt 3 (tC (eF (nt Pv)))++ [.ret _ _ _ QI,tC (eF (nt Pv)),tC (nt Pv)]
   rcases cm (decide ((-2147483648)≤au∧au≤2147483647)) with PO|PO
   ·have PQ:= @iq w
    generalize g18:aj w=r17 at PQ
    exact (dP (d:= .bool r17) (E5++ [tC (nt PO),tT,tT,.ret _ _ _ PQ]) (by kernel_rfl)).to (by clear E1 E2 E3 E4 E5;(try simp only [bI,wk,ay,aB,aa,ab,av,al,ax,aj,af,an,aE] at*);(rw [Vw];simp [wk,ay,aB,aa,ab,av,al,ax,aj,af,an,aE, *];grind))
   exact (dP (d:= .bool false) (E5++ [tC (nt PO)]) (by kernel_rfl)).to (by clear E1 E2 E3 E4 E5;(try simp only [bI,wk,ay,aB,aa,ab,av,al,ax,aj,af,an,aE] at*);(simp [wk,ay,aB,aa,ab,av,al,ax,aj,af,an,aE, *];done))
  exact (dP (d:= .bool false) (E4++ [tT,tT,tT,.ret _ _ _ Qp,tT,tF]++Vt 4 (tC (eF (nt Pv)))++ [tC (nt Pv),tT]) (by kernel_rfl)).to (by clear E1 E2 E3 E4;(try simp only [bI,wk,ay,aB,aa,ab,av,al,ax,aj,af,an,aE] at*);(simp [wk,ay,aB,aa,ab,av,al,ax,aj,af,an,aE, *];done))
 exact (dP (d:= .bool false) (E1++Vt 4 (tC (eF (nt h2)))++ [tC (nt h2),tF,tF,tF,tF,tT,tF,tF,tF,tF,tT,tF,tF,tF,tF,tT,tF,tF,tF,tF,tT,tT]) (by kernel_rfl)).to (by clear E1;(try simp only [bI,wk,ay,aB,aa,ab,av,al,ax,aj,af,an,aE] at*);(rw [Vw];simp [wk,ay,aB,aa,ab,av,al,ax,aj,af,an,aE, *];grind))
theorem xw (op w dst src base ai au cc:Int) (h:(bq op==2)=true) (hc:(bU op==1)=true):aJ Tryz.prog 91 ([xD op w dst src base ai au cc]) (.bool (av op w dst src base ai au cc)):=by
 have c0:= @bp op
 rw [eq_of_beq hc] at c0
 have c1:= @kX op w dst src base ai au cc (bS 1 true (eq_of_beq hc))
 let E1:EL:= [.ret _ _ _ c0,tT,tT,tT,.ret _ _ _ c1,tT,.flat _ _ cD,tF]
 rcases cm (aa [.int .i8 op,.int .i8 w,.int .i8 dst,.int .i8 src,.int .i8 base,.int .i64 ai,.int .i64 au,.int .i8 cc] [.int .i8 op,.int .i8 w,.int .i8 dst,.int .i8 src,.int .i8 0,.int .i64 0,.int .i64 0,.int .i8 0]) with h2|h2
 ·have c3:= @ck dst
  generalize g5:al dst=r4 at c3
  let E2:EL:=E1++Vt 3 (tC (eF (nt h2)))++ [.ret _ _ _ c3,tC (eF (nt h2)),tC (nt h2)]
  cases r4
  ·exact (dP (d:= .bool false) (E2++ [tF,tF,tF,tF,tT,tF,tF,tF,tF,tT,tF,tF,tF,tF,tT,tF,tF,tF,tF,tT,tT]) (by kernel_rfl)).to (by clear E1 E2;(try simp only [bI,wk,ay,aB,aa,ab,av,al,ax,aj,af,an,aE] at*);(simp [wk,ay,aB,aa,ab,av,al,ax,aj,af,an,aE, *];done))
  have c6:= @ck src
  generalize g8:al src=r7 at c6
  let E3:EL:=E2++ [tT,tT,tT,.ret _ _ _ c6,tT,tF]
  cases r7
  ·exact (dP (d:= .bool false) (E3++ [tF,tF,tF,tF,tT,tF,tF,tF,tF,tT,tF,tF,tF,tF,tT,tT]) (by kernel_rfl)).to (by clear E1 E2 E3;(try simp only [bI,wk,ay,aB,aa,ab,av,al,ax,aj,af,an,aE] at*);(simp [wk,ay,aB,aa,ab,av,al,ax,aj,af,an,aE, *];done))
  have c9:= @ck base
  generalize g11:al base=lf at c9
  let E4:EL:=E3++ [tT,tT,tT,.ret _ _ _ c9,tT,tF]
  cases lf
  ·exact (dP (d:= .bool false) (E4++ [tF,tF,tF,tF,tT,tF,tF,tF,tF,tT,tT]) (by kernel_rfl)).to (by clear E1 E2 E3 E4;(try simp only [bI,wk,ay,aB,aa,ab,av,al,ax,aj,af,an,aE] at*);(simp [wk,ay,aB,aa,ab,av,al,ax,aj,af,an,aE, *];done))
  have Qp:= @cL ai
  rcases cm (decide ((-2147483648)≤ai∧ai≤2147483647)) with Pv|Pv
  ·have QI:= @cL au
   let E5:EL:=E4++ [tT,tT,tT,.ret _ _ _ Qp,tT,tF]++Vt 3 (tC (eF (nt Pv)))++ [.ret _ _ _ QI,tC (eF (nt Pv)),tC (nt Pv)]
   rcases cm (decide ((-2147483648)≤au∧au≤2147483647)) with PO|PO
   ·have PQ:= @iq w
    generalize g18:aj w=r17 at PQ
    exact (dP (d:= .bool r17) (E5++ [tC (nt PO),tT,tT,.ret _ _ _ PQ]) (by kernel_rfl)).to (by clear E1 E2 E3 E4 E5;(try simp only [bI,wk,ay,aB,aa,ab,av,al,ax,aj,af,an,aE] at*);(rw [Vw];simp [wk,ay,aB,aa,ab,av,al,ax,aj,af,an,aE, *];grind))
   exact (dP (d:= .bool false) (E5++ [tC (nt PO)]) (by kernel_rfl)).to (by clear E1 E2 E3 E4 E5;(try simp only [bI,wk,ay,aB,aa,ab,av,al,ax,aj,af,an,aE] at*);(simp [wk,ay,aB,aa,ab,av,al,ax,aj,af,an,aE, *];done))
  exact (dP (d:= .bool false) (E4++ [tT,tT,tT,.ret _ _ _ Qp,tT,tF]++Vt 4 (tC (eF (nt Pv)))++ [tC (nt Pv),tT]) (by kernel_rfl)).to (by clear E1 E2 E3 E4;(try simp only [bI,wk,ay,aB,aa,ab,av,al,ax,aj,af,an,aE] at*);(simp [wk,ay,aB,aa,ab,av,al,ax,aj,af,an,aE, *];done))
 exact (dP (d:= .bool false) (E1++Vt 4 (tC (eF (nt h2)))++ [tC (nt h2),tF,tF,tF,tF,tT,tF,tF,tF,tF,tT,tF,tF,tF,tF,tT,tF,tF,tF,tF,tT,tT]) (by kernel_rfl)).to (by clear E1;(try simp only [bI,wk,ay,aB,aa,ab,av,al,ax,aj,af,an,aE] at*);(rw [Vw];simp [wk,ay,aB,aa,ab,av,al,ax,aj,af,an,aE, *];grind))
theorem xv (op w dst src base ai au cc:Int) (h:(bq op==3)=true) (hc:(bU op==2)=true):aJ Tryz.prog 91 ([xD op w dst src base ai au cc]) (.bool (av op w dst src base ai au cc)):=by
 have c0:= @bp op
 rw [eq_of_beq hc] at c0
 have c1:= @sv op w dst src base ai au cc (bS 2 true (eq_of_beq hc))
 let E1:EL:= [.ret _ _ _ c0,tT,tT,tT,.ret _ _ _ c1,tT,.flat _ _ cD,tF]
 rcases cm (aa [.int .i8 op,.int .i8 w,.int .i8 dst,.int .i8 src,.int .i8 base,.int .i64 ai,.int .i64 au,.int .i8 cc] [.int .i8 op,.int .i8 w,.int .i8 dst,.int .i8 0,.int .i8 0,.int .i64 0,.int .i64 au,.int .i8 0]) with h2|h2
 ·have c3:= @ck dst
  generalize g5:al dst=r4 at c3
  let E2:EL:=E1++Vt 3 (tC (eF (nt h2)))++ [.ret _ _ _ c3,tC (eF (nt h2)),tC (nt h2)]
  cases r4
  ·exact (dP (d:= .bool false) (E2++ [tF,tF,tF,tF,tT,tF,tF,tF,tF,tT,tF,tF,tF,tF,tT,tF,tF,tF,tF,tT,tT]) (by kernel_rfl)).to (by clear E1 E2;(try simp only [bI,wk,ay,aB,aa,ab,av,al,ax,aj,af,an,aE,aY] at*);(simp [wk,ay,aB,aa,ab,av,al,ax,aj,af,an,aE,aY, *];done))
  have c6:= @ck src
  generalize g8:al src=r7 at c6
  let E3:EL:=E2++ [tT,tT,tT,.ret _ _ _ c6,tT,tF]
  cases r7
  ·exact (dP (d:= .bool false) (E3++ [tF,tF,tF,tF,tT,tF,tF,tF,tF,tT,tF,tF,tF,tF,tT,tT]) (by kernel_rfl)).to (by clear E1 E2 E3;(try simp only [bI,wk,ay,aB,aa,ab,av,al,ax,aj,af,an,aE,aY] at*);(simp [wk,ay,aB,aa,ab,av,al,ax,aj,af,an,aE,aY, *];done))
  have c9:= @ck base
  generalize g11:al base=lf at c9
  let E4:EL:=E3++ [tT,tT,tT,.ret _ _ _ c9,tT,tF]
  cases lf
  ·exact (dP (d:= .bool false) (E4++ [tF,tF,tF,tF,tT,tF,tF,tF,tF,tT,tT]) (by kernel_rfl)).to (by clear E1 E2 E3 E4;(try simp only [bI,wk,ay,aB,aa,ab,av,al,ax,aj,af,an,aE,aY] at*);(simp [wk,ay,aB,aa,ab,av,al,ax,aj,af,an,aE,aY, *];done))
  have Qp:= @cL ai
  rcases cm (decide ((-2147483648)≤ai∧ai≤2147483647)) with Pv|Pv
  ·have QI:= @cL au
   let E5:EL:=E4++ [tT,tT,tT,.ret _ _ _ Qp,tT,tF]++Vt 3 (tC (eF (nt Pv)))++ [.ret _ _ _ QI,tC (eF (nt Pv)),tC (nt Pv)]
   rcases cm (decide ((-2147483648)≤au∧au≤2147483647)) with PO|PO
   ·have PQ:= @iq w
    generalize g18:aj w=r17 at PQ
    exact (dP (d:= .bool r17) (E5++ [tC (nt PO),tF,tT,tT,.ret _ _ _ PQ]) (by kernel_rfl)).to (by clear E1 E2 E3 E4 E5;(try simp only [bI,wk,ay,aB,aa,ab,av,al,ax,aj,af,an,aE,aY] at*);(rw [Vw];simp [wk,ay,aB,aa,ab,av,al,ax,aj,af,an,aE,aY, *];grind))
   exact (dP (d:= .bool false) (E5++ [tC (nt PO)]) (by kernel_rfl)).to (by clear E1 E2 E3 E4 E5;(try simp only [bI,wk,ay,aB,aa,ab,av,al,ax,aj,af,an,aE,aY] at*);(simp [wk,ay,aB,aa,ab,av,al,ax,aj,af,an,aE,aY, *];done))
  exact (dP (d:= .bool false) (E4++ [tT,tT,tT,.ret _ _ _ Qp,tT,tF]++Vt 4 (tC (eF (nt Pv)))++ [tC (nt Pv),tT]) (by kernel_rfl)).to (by clear E1 E2 E3 E4;(try simp only [bI,wk,ay,aB,aa,ab,av,al,ax,aj,af,an,aE,aY] at*);(simp [wk,ay,aB,aa,ab,av,al,ax,aj,af,an,aE,aY, *];done))
 exact (dP (d:= .bool false) (E1++Vt 4 (tC (eF (nt h2)))++ [tC (nt h2),tF,tF,tF,tF,tT,tF,tF,tF,tF,tT,tF,tF,tF,tF,tT,tF,tF,tF,tF,tT,tT]) (by kernel_rfl)).to (by clear E1;(try simp only [bI,wk,ay,aB,aa,ab,av,al,ax,aj,af,an,aE,aY] at*);(rw [Vw];simp [wk,ay,aB,aa,ab,av,al,ax,aj,af,an,aE,aY, *];grind))
theorem xu (op w dst src base ai au cc:Int) (h:(bq op==4)=true) (hc:(bU op==3)=true):aJ Tryz.prog 91 ([xD op w dst src base ai au cc]) (.bool (av op w dst src base ai au cc)):=by
 have c0:= @bp op
 rw [eq_of_beq hc] at c0
 have c1:= @su op w dst src base ai au cc (bS 3 true (eq_of_beq hc))
 let E1:EL:= [.ret _ _ _ c0,tT,tT,tT,.ret _ _ _ c1,tT,.flat _ _ cD,tF]
 rcases cm (aa [.int .i8 op,.int .i8 w,.int .i8 dst,.int .i8 src,.int .i8 base,.int .i64 ai,.int .i64 au,.int .i8 cc] [.int .i8 op,.int .i8 w,.int .i8 dst,.int .i8 0,.int .i8 0,.int .i64 0,.int .i64 au,.int .i8 0]) with h2|h2
 ·have c3:= @ck dst
  generalize g5:al dst=r4 at c3
  let E2:EL:=E1++Vt 3 (tC (eF (nt h2)))++ [.ret _ _ _ c3,tC (eF (nt h2)),tC (nt h2)]
  cases r4
  ·exact (dP (d:= .bool false) (E2++ [tF,tF,tF,tF,tT,tF,tF,tF,tF,tT,tF,tF,tF,tF,tT,tF,tF,tF,tF,tT,tT]) (by kernel_rfl)).to (by clear E1 E2;(try simp only [bI,wk,ay,aB,aa,ab,av,al,ax,aj,af,an,aE,aY] at*);(simp [wk,ay,aB,aa,ab,av,al,ax,aj,af,an,aE,aY, *];done))
  have c6:= @ck src
  generalize g8:al src=r7 at c6
  let E3:EL:=E2++ [tT,tT,tT,.ret _ _ _ c6,tT,tF]
  cases r7
  ·exact (dP (d:= .bool false) (E3++ [tF,tF,tF,tF,tT,tF,tF,tF,tF,tT,tF,tF,tF,tF,tT,tT]) (by kernel_rfl)).to (by clear E1 E2 E3;(try simp only [bI,wk,ay,aB,aa,ab,av,al,ax,aj,af,an,aE,aY] at*);(simp [wk,ay,aB,aa,ab,av,al,ax,aj,af,an,aE,aY, *];done))
  have c9:= @ck base
  generalize g11:al base=lf at c9
  let E4:EL:=E3++ [tT,tT,tT,.ret _ _ _ c9,tT,tF]
  cases lf
  ·exact (dP (d:= .bool false) (E4++ [tF,tF,tF,tF,tT,tF,tF,tF,tF,tT,tT]) (by kernel_rfl)).to (by clear E1 E2 E3 E4;(try simp only [bI,wk,ay,aB,aa,ab,av,al,ax,aj,af,an,aE,aY] at*);(simp [wk,ay,aB,aa,ab,av,al,ax,aj,af,an,aE,aY, *];done))
  have Qp:= @cL ai
  let E5:EL:=E4++ [tT,tT,tT,.ret _ _ _ Qp,tT,tF]
  rcases cm (decide ((-2147483648)≤ai∧ai≤2147483647)) with Pv|Pv
  ·have QI:= @cL au
   let E6:EL:=E5++Vt 3 (tC (eF (nt Pv)))++ [.ret _ _ _ QI,tC (eF (nt Pv)),tC (nt Pv)]
   rcases cm (decide ((-2147483648)≤au∧au≤2147483647)) with PO|PO
   ·have PQ:= @iq w
    generalize g18:aj w=r17 at PQ
    let E7:EL:=E6++ [tC (nt PO),tF,tF,tF,tT,.ret _ _ _ PQ]
    cases r17
    ·exact (dP (d:= .bool false) (E7++Vt 11 tF) (by kernel_rfl)).to (by clear E1 E2 E3 E4 E5 E6 E7;(try simp only [bI,wk,ay,aB,aa,ab,av,al,ax,aj,af,an,aE,aY] at*);(simp [wk,ay,aB,aa,ab,av,al,ax,aj,af,an,aE,aY, *];done))
    rcases cm (decide (au<0)) with h19|h19
    ·exact (dP (d:= .bool false) (E7++ [tT,tT,tT,tT]++Vt 6 (tC (eT (aK 0 h19)))++ [tC (aK 0 h19)]) (by kernel_rfl)).to (by clear E1 E2 E3 E4 E5 E6 E7;(try simp only [bI,wk,ay,aB,aa,ab,av,al,ax,aj,af,an,aE,aY] at*);(simp [wk,ay,aB,aa,ab,av,al,ax,aj,af,an,aE,aY, *];omega))
    exact (dP (d:= .bool (decide (au<W3.wrap W3.i64 w))) (E7++ [tT,tT,tT,tT]++Vt 6 (tC (eT (aK 0 h19)))++ [tC (aK 0 h19)]) (by kernel_rfl)).to (by clear E1 E2 E3 E4 E5 E6 E7;(try simp only [bI,wk,ay,aB,aa,ab,av,al,ax,aj,af,an,aE,aY] at*);(rw [Vw];simp [wk,ay,aB,aa,ab,av,al,ax,aj,af,an,aE,aY, *];grind))
   exact (dP (d:= .bool false) (E6++ [tC (nt PO)]) (by kernel_rfl)).to (by clear E1 E2 E3 E4 E5 E6;(try simp only [bI,wk,ay,aB,aa,ab,av,al,ax,aj,af,an,aE,aY] at*);(simp [wk,ay,aB,aa,ab,av,al,ax,aj,af,an,aE,aY, *];done))
  exact (dP (d:= .bool false) (E5++Vt 4 (tC (eF (nt Pv)))++ [tC (nt Pv),tT]) (by kernel_rfl)).to (by clear E1 E2 E3 E4 E5;(try simp only [bI,wk,ay,aB,aa,ab,av,al,ax,aj,af,an,aE,aY] at*);(simp [wk,ay,aB,aa,ab,av,al,ax,aj,af,an,aE,aY, *];done))
 exact (dP (d:= .bool false) (E1++Vt 4 (tC (eF (nt h2)))++ [tC (nt h2),tF,tF,tF,tF,tT,tF,tF,tF,tF,tT,tF,tF,tF,tF,tT,tF,tF,tF,tF,tT,tT]) (by kernel_rfl)).to (by clear E1;(try simp only [bI,wk,ay,aB,aa,ab,av,al,ax,aj,af,an,aE,aY] at*);(rw [Vw];simp [wk,ay,aB,aa,ab,av,al,ax,aj,af,an,aE,aY, *];grind))
theorem xr (op w dst src base ai au cc:Int) (h:(bq op==5)=true) (hc:(bU op==4)=true):aJ Tryz.prog 91 ([xD op w dst src base ai au cc]) (.bool (av op w dst src base ai au cc)):=by
 have c0:= @bp op
 rw [eq_of_beq hc] at c0
 have c1:= @ss op w dst src base ai au cc (bS 4 true (eq_of_beq hc))
 let E1:EL:= [.ret _ _ _ c0,tT,tT,tT,.ret _ _ _ c1,tT,.flat _ _ cD,tF]
 rcases cm (aa [.int .i8 op,.int .i8 w,.int .i8 dst,.int .i8 src,.int .i8 base,.int .i64 ai,.int .i64 au,.int .i8 cc] [.int .i8 op,.int .i8 w,.int .i8 dst,.int .i8 0,.int .i8 0,.int .i64 0,.int .i64 0,.int .i8 0]) with h2|h2
 ·have c3:= @ck dst
  generalize g5:al dst=r4 at c3
  let E2:EL:=E1++Vt 3 (tC (eF (nt h2)))++ [.ret _ _ _ c3,tC (eF (nt h2)),tC (nt h2)]
  cases r4
  ·exact (dP (d:= .bool false) (E2++ [tF,tF,tF,tF,tT,tF,tF,tF,tF,tT,tF,tF,tF,tF,tT,tF,tF,tF,tF,tT,tT]) (by kernel_rfl)).to (by clear E1 E2;(try simp only [bI,wk,ay,aB,aa,ab,av,al,ax,aj,af,an,aE,aY] at*);(simp [wk,ay,aB,aa,ab,av,al,ax,aj,af,an,aE,aY, *];done))
  have c6:= @ck src
  generalize g8:al src=r7 at c6
  let E3:EL:=E2++ [tT,tT,tT,.ret _ _ _ c6,tT,tF]
  cases r7
  ·exact (dP (d:= .bool false) (E3++ [tF,tF,tF,tF,tT,tF,tF,tF,tF,tT,tF,tF,tF,tF,tT,tT]) (by kernel_rfl)).to (by clear E1 E2 E3;(try simp only [bI,wk,ay,aB,aa,ab,av,al,ax,aj,af,an,aE,aY] at*);(simp [wk,ay,aB,aa,ab,av,al,ax,aj,af,an,aE,aY, *];done))
  have c9:= @ck base
  generalize g11:al base=lf at c9
  let E4:EL:=E3++ [tT,tT,tT,.ret _ _ _ c9,tT,tF]
  cases lf
  ·exact (dP (d:= .bool false) (E4++ [tF,tF,tF,tF,tT,tF,tF,tF,tF,tT,tT]) (by kernel_rfl)).to (by clear E1 E2 E3 E4;(try simp only [bI,wk,ay,aB,aa,ab,av,al,ax,aj,af,an,aE,aY] at*);(simp [wk,ay,aB,aa,ab,av,al,ax,aj,af,an,aE,aY, *];done))
  have Qp:= @cL ai
  rcases cm (decide ((-2147483648)≤ai∧ai≤2147483647)) with Pv|Pv
  ·have QI:= @cL au
   let E5:EL:=E4++ [tT,tT,tT,.ret _ _ _ Qp,tT,tF]++Vt 3 (tC (eF (nt Pv)))++ [.ret _ _ _ QI,tC (eF (nt Pv)),tC (nt Pv)]
   rcases cm (decide ((-2147483648)≤au∧au≤2147483647)) with PO|PO
   ·have PQ:= @iq w
    generalize g18:aj w=r17 at PQ
    exact (dP (d:= .bool r17) (E5++ [tC (nt PO),tF,tF,tT,.ret _ _ _ PQ]) (by kernel_rfl)).to (by clear E1 E2 E3 E4 E5;(try simp only [bI,wk,ay,aB,aa,ab,av,al,ax,aj,af,an,aE,aY] at*);(rw [Vw];simp [wk,ay,aB,aa,ab,av,al,ax,aj,af,an,aE,aY, *];grind))
   exact (dP (d:= .bool false) (E5++ [tC (nt PO)]) (by kernel_rfl)).to (by clear E1 E2 E3 E4 E5;(try simp only [bI,wk,ay,aB,aa,ab,av,al,ax,aj,af,an,aE,aY] at*);(simp [wk,ay,aB,aa,ab,av,al,ax,aj,af,an,aE,aY, *];done))
  exact (dP (d:= .bool false) (E4++ [tT,tT,tT,.ret _ _ _ Qp,tT,tF]++Vt 4 (tC (eF (nt Pv)))++ [tC (nt Pv),tT]) (by kernel_rfl)).to (by clear E1 E2 E3 E4;(try simp only [bI,wk,ay,aB,aa,ab,av,al,ax,aj,af,an,aE,aY] at*);(simp [wk,ay,aB,aa,ab,av,al,ax,aj,af,an,aE,aY, *];done))
 exact (dP (d:= .bool false) (E1++Vt 4 (tC (eF (nt h2)))++ [tC (nt h2),tF,tF,tF,tF,tT,tF,tF,tF,tF,tT,tF,tF,tF,tF,tT,tF,tF,tF,tF,tT,tT]) (by kernel_rfl)).to (by clear E1;(try simp only [bI,wk,ay,aB,aa,ab,av,al,ax,aj,af,an,aE,aY] at*);(rw [Vw];simp [wk,ay,aB,aa,ab,av,al,ax,aj,af,an,aE,aY, *];grind))
theorem xq (op w dst src base ai au cc:Int) (h:(bq op==6)=true) (hc:(bU op==5)=true):aJ Tryz.prog 91 ([xD op w dst src base ai au cc]) (.bool (av op w dst src base ai au cc)):=by
 have c0:= @bp op
 rw [eq_of_beq hc] at c0
 have c1:= @sr op w dst src base ai au cc (bS 5 true (eq_of_beq hc))
 let E1:EL:= [.ret _ _ _ c0,tT,tT,tT,.ret _ _ _ c1,tT,.flat _ _ cD,tF]
 rcases cm (aa [.int .i8 op,.int .i8 w,.int .i8 dst,.int .i8 src,.int .i8 base,.int .i64 ai,.int .i64 au,.int .i8 cc] [.int .i8 op,.int .i8 w,.int .i8 dst,.int .i8 src,.int .i8 0,.int .i64 0,.int .i64 0,.int .i8 cc]) with h2|h2
 ·have c3:= @ck dst
  generalize g5:al dst=r4 at c3
  let E2:EL:=E1++Vt 3 (tC (eF (nt h2)))++ [.ret _ _ _ c3,tC (eF (nt h2)),tC (nt h2)]
  cases r4
  ·exact (dP (d:= .bool false) (E2++ [tF,tF,tF,tF,tT,tF,tF,tF,tF,tT,tF,tF,tF,tF,tT,tF,tF,tF,tF,tT,tT]) (by kernel_rfl)).to (by clear E1 E2;(try simp only [bI,wk,ay,aB,aa,ab,av,al,ax,aj,af,an,aE] at*);(simp [wk,ay,aB,aa,ab,av,al,ax,aj,af,an,aE, *];done))
  have c6:= @ck src
  generalize g8:al src=r7 at c6
  let E3:EL:=E2++ [tT,tT,tT,.ret _ _ _ c6,tT,tF]
  cases r7
  ·exact (dP (d:= .bool false) (E3++ [tF,tF,tF,tF,tT,tF,tF,tF,tF,tT,tF,tF,tF,tF,tT,tT]) (by kernel_rfl)).to (by clear E1 E2 E3;(try simp only [bI,wk,ay,aB,aa,ab,av,al,ax,aj,af,an,aE] at*);(simp [wk,ay,aB,aa,ab,av,al,ax,aj,af,an,aE, *];done))
  have c9:= @ck base
  generalize g11:al base=lf at c9
  let E4:EL:=E3++ [tT,tT,tT,.ret _ _ _ c9,tT,tF]
  cases lf
  ·exact (dP (d:= .bool false) (E4++ [tF,tF,tF,tF,tT,tF,tF,tF,tF,tT,tT]) (by kernel_rfl)).to (by clear E1 E2 E3 E4;(try simp only [bI,wk,ay,aB,aa,ab,av,al,ax,aj,af,an,aE] at*);(simp [wk,ay,aB,aa,ab,av,al,ax,aj,af,an,aE, *];done))
  have Qp:= @cL ai
  let E5:EL:=E4++ [tT,tT,tT,.ret _ _ _ Qp,tT,tF]
  rcases cm (decide ((-2147483648)≤ai∧ai≤2147483647)) with Pv|Pv
  ·have QI:= @cL au
   let E6:EL:=E5++Vt 3 (tC (eF (nt Pv)))++ [.ret _ _ _ QI,tC (eF (nt Pv)),tC (nt Pv)]
   rcases cm (decide ((-2147483648)≤au∧au≤2147483647)) with PO|PO
   ·have PQ:= @iq w
    generalize g18:aj w=r17 at PQ
    cases r17
    ·exact (dP (d:= .bool false) (E6++ [tC (nt PO),tF,tF,tF,tF,tT,.ret _ _ _ PQ,tF,tF,tF,tF]) (by kernel_rfl)).to (by clear E1 E2 E3 E4 E5 E6;(try simp only [bI,wk,ay,aB,aa,ab,av,al,ax,aj,af,an,aE] at*);(simp [wk,ay,aB,aa,ab,av,al,ax,aj,af,an,aE, *];done))
    have QH:= @yc cc
    generalize g21:aE cc=r20 at QH
    exact (dP (d:= .bool r20) (E6++ [tC (nt PO),tF,tF,tF,tF,tT,.ret _ _ _ PQ,tT,tT,tT,.ret _ _ _ QH,tT]) (by kernel_rfl)).to (by clear E1 E2 E3 E4 E5 E6;(try simp only [bI,wk,ay,aB,aa,ab,av,al,ax,aj,af,an,aE] at*);(rw [Vw];simp [wk,ay,aB,aa,ab,av,al,ax,aj,af,an,aE, *];grind))
   exact (dP (d:= .bool false) (E6++ [tC (nt PO)]) (by kernel_rfl)).to (by clear E1 E2 E3 E4 E5 E6;(try simp only [bI,wk,ay,aB,aa,ab,av,al,ax,aj,af,an,aE] at*);(simp [wk,ay,aB,aa,ab,av,al,ax,aj,af,an,aE, *];done))
  exact (dP (d:= .bool false) (E5++Vt 4 (tC (eF (nt Pv)))++ [tC (nt Pv),tT]) (by kernel_rfl)).to (by clear E1 E2 E3 E4 E5;(try simp only [bI,wk,ay,aB,aa,ab,av,al,ax,aj,af,an,aE] at*);(simp [wk,ay,aB,aa,ab,av,al,ax,aj,af,an,aE, *];done))
 exact (dP (d:= .bool false) (E1++Vt 4 (tC (eF (nt h2)))++ [tC (nt h2),tF,tF,tF,tF,tT,tF,tF,tF,tF,tT,tF,tF,tF,tF,tT,tF,tF,tF,tF,tT,tT]) (by kernel_rfl)).to (by clear E1;(try simp only [bI,wk,ay,aB,aa,ab,av,al,ax,aj,af,an,aE] at*);(rw [Vw];simp [wk,ay,aB,aa,ab,av,al,ax,aj,af,an,aE, *];grind))
theorem xp (op w dst src base ai au cc:Int) (h:(bq op==7)=true) (hc:(bU op==6)=true):aJ Tryz.prog 91 ([xD op w dst src base ai au cc]) (.bool (av op w dst src base ai au cc)):=by
 have c0:= @bp op
 rw [eq_of_beq hc] at c0
 have c1:= @sq op w dst src base ai au cc (bS 6 true (eq_of_beq hc))
 let E1:EL:= [.ret _ _ _ c0,tT,tT,tT,.ret _ _ _ c1,tT,.flat _ _ cD,tF]
 rcases cm (aa [.int .i8 op,.int .i8 w,.int .i8 dst,.int .i8 src,.int .i8 base,.int .i64 ai,.int .i64 au,.int .i8 cc] [.int .i8 op,.int .i8 w,.int .i8 dst,.int .i8 0,.int .i8 base,.int .i64 ai,.int .i64 0,.int .i8 0]) with h2|h2
 ·have c3:= @ck dst
  generalize g5:al dst=r4 at c3
  let E2:EL:=E1++Vt 3 (tC (eF (nt h2)))++ [.ret _ _ _ c3,tC (eF (nt h2)),tC (nt h2)]
  cases r4
  ·exact (dP (d:= .bool false) (E2++ [tF,tF,tF,tF,tT,tF,tF,tF,tF,tT,tF,tF,tF,tF,tT,tF,tF,tF,tF,tT,tT]) (by kernel_rfl)).to (by clear E1 E2;(try simp only [bI,wk,ay,aB,aa,ab,av,al,ax,aj,af,an,aE] at*);(simp [wk,ay,aB,aa,ab,av,al,ax,aj,af,an,aE, *];done))
  have c6:= @ck src
  generalize g8:al src=r7 at c6
  let E3:EL:=E2++ [tT,tT,tT,.ret _ _ _ c6,tT,tF]
  cases r7
  ·exact (dP (d:= .bool false) (E3++ [tF,tF,tF,tF,tT,tF,tF,tF,tF,tT,tF,tF,tF,tF,tT,tT]) (by kernel_rfl)).to (by clear E1 E2 E3;(try simp only [bI,wk,ay,aB,aa,ab,av,al,ax,aj,af,an,aE] at*);(simp [wk,ay,aB,aa,ab,av,al,ax,aj,af,an,aE, *];done))
  have c9:= @ck base
  generalize g11:al base=lf at c9
  let E4:EL:=E3++ [tT,tT,tT,.ret _ _ _ c9,tT,tF]
  cases lf
  ·exact (dP (d:= .bool false) (E4++ [tF,tF,tF,tF,tT,tF,tF,tF,tF,tT,tT]) (by kernel_rfl)).to (by clear E1 E2 E3 E4;(try simp only [bI,wk,ay,aB,aa,ab,av,al,ax,aj,af,an,aE] at*);(simp [wk,ay,aB,aa,ab,av,al,ax,aj,af,an,aE, *];done))
  have Qp:= @cL ai
  rcases cm (decide ((-2147483648)≤ai∧ai≤2147483647)) with Pv|Pv
  ·have QI:= @cL au
   let E5:EL:=E4++ [tT,tT,tT,.ret _ _ _ Qp,tT,tF]++Vt 3 (tC (eF (nt Pv)))++ [.ret _ _ _ QI,tC (eF (nt Pv)),tC (nt Pv)]
   rcases cm (decide ((-2147483648)≤au∧au≤2147483647)) with PO|PO
   ·have PQ:= @p3 w
    generalize g18:af w=r17 at PQ
    exact (dP (d:= .bool r17) (E5++ [tC (nt PO),tF,tF,tF,tF,tF,tT,tT,.ret _ _ _ PQ]) (by kernel_rfl)).to (by clear E1 E2 E3 E4 E5;(try simp only [bI,wk,ay,aB,aa,ab,av,al,ax,aj,af,an,aE] at*);(rw [Vw];simp [wk,ay,aB,aa,ab,av,al,ax,aj,af,an,aE, *];grind))
   exact (dP (d:= .bool false) (E5++ [tC (nt PO)]) (by kernel_rfl)).to (by clear E1 E2 E3 E4 E5;(try simp only [bI,wk,ay,aB,aa,ab,av,al,ax,aj,af,an,aE] at*);(simp [wk,ay,aB,aa,ab,av,al,ax,aj,af,an,aE, *];done))
  exact (dP (d:= .bool false) (E4++ [tT,tT,tT,.ret _ _ _ Qp,tT,tF]++Vt 4 (tC (eF (nt Pv)))++ [tC (nt Pv),tT]) (by kernel_rfl)).to (by clear E1 E2 E3 E4;(try simp only [bI,wk,ay,aB,aa,ab,av,al,ax,aj,af,an,aE] at*);(simp [wk,ay,aB,aa,ab,av,al,ax,aj,af,an,aE, *];done))
 exact (dP (d:= .bool false) (E1++Vt 4 (tC (eF (nt h2)))++ [tC (nt h2),tF,tF,tF,tF,tT,tF,tF,tF,tF,tT,tF,tF,tF,tF,tT,tF,tF,tF,tF,tT,tT]) (by kernel_rfl)).to (by clear E1;(try simp only [bI,wk,ay,aB,aa,ab,av,al,ax,aj,af,an,aE] at*);(rw [Vw];simp [wk,ay,aB,aa,ab,av,al,ax,aj,af,an,aE, *];grind))
theorem xo (op w dst src base ai au cc:Int) (h:(bq op==8)=true) (hc:(bU op==7)=true):aJ Tryz.prog 91 ([xD op w dst src base ai au cc]) (.bool (av op w dst src base ai au cc)):=by
 have c0:= @bp op
 rw [eq_of_beq hc] at c0
 have c1:= @so op w dst src base ai au cc (bS 7 true (eq_of_beq hc))
 let E1:EL:= [.ret _ _ _ c0,tT,tT,tT,.ret _ _ _ c1,tT,.flat _ _ cD,tF]
 rcases cm (aa [.int .i8 op,.int .i8 w,.int .i8 dst,.int .i8 src,.int .i8 base,.int .i64 ai,.int .i64 au,.int .i8 cc] [.int .i8 op,.int .i8 w,.int .i8 0,.int .i8 src,.int .i8 base,.int .i64 ai,.int .i64 0,.int .i8 0]) with h2|h2
 ·have c3:= @ck dst
  generalize g5:al dst=r4 at c3
  let E2:EL:=E1++Vt 3 (tC (eF (nt h2)))++ [.ret _ _ _ c3,tC (eF (nt h2)),tC (nt h2)]
  cases r4
  ·exact (dP (d:= .bool false) (E2++ [tF,tF,tF,tF,tT,tF,tF,tF,tF,tT,tF,tF,tF,tF,tT,tF,tF,tF,tF,tT,tT]) (by kernel_rfl)).to (by clear E1 E2;(try simp only [bI,wk,ay,aB,aa,ab,av,al,ax,aj,af,an,aE] at*);(simp [wk,ay,aB,aa,ab,av,al,ax,aj,af,an,aE, *];done))
  have c6:= @ck src
  generalize g8:al src=r7 at c6
  let E3:EL:=E2++ [tT,tT,tT,.ret _ _ _ c6,tT,tF]
  cases r7
  ·exact (dP (d:= .bool false) (E3++ [tF,tF,tF,tF,tT,tF,tF,tF,tF,tT,tF,tF,tF,tF,tT,tT]) (by kernel_rfl)).to (by clear E1 E2 E3;(try simp only [bI,wk,ay,aB,aa,ab,av,al,ax,aj,af,an,aE] at*);(simp [wk,ay,aB,aa,ab,av,al,ax,aj,af,an,aE, *];done))
  have c9:= @ck base
  generalize g11:al base=lf at c9
  let E4:EL:=E3++ [tT,tT,tT,.ret _ _ _ c9,tT,tF]
  cases lf
  ·exact (dP (d:= .bool false) (E4++ [tF,tF,tF,tF,tT,tF,tF,tF,tF,tT,tT]) (by kernel_rfl)).to (by clear E1 E2 E3 E4;(try simp only [bI,wk,ay,aB,aa,ab,av,al,ax,aj,af,an,aE] at*);(simp [wk,ay,aB,aa,ab,av,al,ax,aj,af,an,aE, *];done))
  have Qp:= @cL ai
  rcases cm (decide ((-2147483648)≤ai∧ai≤2147483647)) with Pv|Pv
  ·have QI:= @cL au
   let E5:EL:=E4++ [tT,tT,tT,.ret _ _ _ Qp,tT,tF]++Vt 3 (tC (eF (nt Pv)))++ [.ret _ _ _ QI,tC (eF (nt Pv)),tC (nt Pv)]
   rcases cm (decide ((-2147483648)≤au∧au≤2147483647)) with PO|PO
   ·have PQ:= @p3 w
    generalize g18:af w=r17 at PQ
    exact (dP (d:= .bool r17) (E5++ [tC (nt PO),tF,tF,tF,tF,tF,tF,tT,.ret _ _ _ PQ]) (by kernel_rfl)).to (by clear E1 E2 E3 E4 E5;(try simp only [bI,wk,ay,aB,aa,ab,av,al,ax,aj,af,an,aE] at*);(rw [Vw];simp [wk,ay,aB,aa,ab,av,al,ax,aj,af,an,aE, *];grind))
   exact (dP (d:= .bool false) (E5++ [tC (nt PO)]) (by kernel_rfl)).to (by clear E1 E2 E3 E4 E5;(try simp only [bI,wk,ay,aB,aa,ab,av,al,ax,aj,af,an,aE] at*);(simp [wk,ay,aB,aa,ab,av,al,ax,aj,af,an,aE, *];done))
  exact (dP (d:= .bool false) (E4++ [tT,tT,tT,.ret _ _ _ Qp,tT,tF]++Vt 4 (tC (eF (nt Pv)))++ [tC (nt Pv),tT]) (by kernel_rfl)).to (by clear E1 E2 E3 E4;(try simp only [bI,wk,ay,aB,aa,ab,av,al,ax,aj,af,an,aE] at*);(simp [wk,ay,aB,aa,ab,av,al,ax,aj,af,an,aE, *];done))
 exact (dP (d:= .bool false) (E1++Vt 4 (tC (eF (nt h2)))++ [tC (nt h2),tF,tF,tF,tF,tT,tF,tF,tF,tF,tT,tF,tF,tF,tF,tT,tF,tF,tF,tF,tT,tT]) (by kernel_rfl)).to (by clear E1;(try simp only [bI,wk,ay,aB,aa,ab,av,al,ax,aj,af,an,aE] at*);(rw [Vw];simp [wk,ay,aB,aa,ab,av,al,ax,aj,af,an,aE, *];grind))
theorem xn (op w dst src base ai au cc:Int) (h:(bq op==9)=true) (hc:(bU op==8)=true):aJ Tryz.prog 91 ([xD op w dst src base ai au cc]) (.bool (av op w dst src base ai au cc)):=by
 have c0:= @bp op
 rw [eq_of_beq hc] at c0
 have c1:= @sm op w dst src base ai au cc (bS 8 true (eq_of_beq hc))
 let E1:EL:= [.ret _ _ _ c0,tT,tT,tT,.ret _ _ _ c1,tT,.flat _ _ cD,tF]
 rcases cm (aa [.int .i8 op,.int .i8 w,.int .i8 dst,.int .i8 src,.int .i8 base,.int .i64 ai,.int .i64 au,.int .i8 cc] [.int .i8 op,.int .i8 w,.int .i8 0,.int .i8 0,.int .i8 0,.int .i64 0,.int .i64 au,.int .i8 0]) with h2|h2
 ·have c3:= @ck dst
  generalize g5:al dst=r4 at c3
  let E2:EL:=E1++Vt 3 (tC (eF (nt h2)))++ [.ret _ _ _ c3,tC (eF (nt h2)),tC (nt h2)]
  cases r4
  ·exact (dP (d:= .bool false) (E2++ [tF,tF,tF,tF,tT,tF,tF,tF,tF,tT,tF,tF,tF,tF,tT,tF,tF,tF,tF,tT,tT]) (by kernel_rfl)).to (by clear E1 E2;(try simp only [bI,wk,ay,aB,aa,ab,av,al,ax,aj,af,an,aE] at*);(simp [wk,ay,aB,aa,ab,av,al,ax,aj,af,an,aE, *];done))
  have c6:= @ck src
  generalize g8:al src=r7 at c6
  let E3:EL:=E2++ [tT,tT,tT,.ret _ _ _ c6,tT,tF]
  cases r7
  ·exact (dP (d:= .bool false) (E3++ [tF,tF,tF,tF,tT,tF,tF,tF,tF,tT,tF,tF,tF,tF,tT,tT]) (by kernel_rfl)).to (by clear E1 E2 E3;(try simp only [bI,wk,ay,aB,aa,ab,av,al,ax,aj,af,an,aE] at*);(simp [wk,ay,aB,aa,ab,av,al,ax,aj,af,an,aE, *];done))
  have c9:= @ck base
  generalize g11:al base=lf at c9
  let E4:EL:=E3++ [tT,tT,tT,.ret _ _ _ c9,tT,tF]
  cases lf
  ·exact (dP (d:= .bool false) (E4++ [tF,tF,tF,tF,tT,tF,tF,tF,tF,tT,tT]) (by kernel_rfl)).to (by clear E1 E2 E3 E4;(try simp only [bI,wk,ay,aB,aa,ab,av,al,ax,aj,af,an,aE] at*);(simp [wk,ay,aB,aa,ab,av,al,ax,aj,af,an,aE, *];done))
  have Qp:= @cL ai
  let E5:EL:=E4++ [tT,tT,tT,.ret _ _ _ Qp,tT,tF]
  rcases cm (decide ((-2147483648)≤ai∧ai≤2147483647)) with Pv|Pv
  ·have QI:= @cL au
   let E6:EL:=E5++Vt 3 (tC (eF (nt Pv)))++ [.ret _ _ _ QI,tC (eF (nt Pv)),tC (nt Pv)]
   rcases cm (decide ((-2147483648)≤au∧au≤2147483647)) with PO|PO
   ·let E7:EL:=E6++ [tC (nt PO),tF,tF,tF,tF,tF,tF,tF,tT]
    by_cases h16:w=32
    ·subst h16
     exact (dP (d:= .bool true) (E7++ [tF,tF,tF,tF,tF,tT]) (by kernel_rfl)).to (by clear E1 E2 E3 E4 E5 E6 E7;(try simp only [bI,wk,ay,aB,aa,ab,av,al,ax,aj,af,an,aE] at*);(rw [Vw];simp [wk,ay,aB,aa,ab,av,al,ax,aj,af,an,aE, *];grind))
    by_cases h17:w=8
    ·subst h17
     have c18:= @zV au
     exact (dP (d:= .bool (decide ((-128)≤au∧au≤127))) (E7++Vt 4 (tC (eF (aH h16)))++ [tT,tT,tT,.ret _ _ _ c18,tT,tT,tF]) (by kernel_rfl)).to (by clear E1 E2 E3 E4 E5 E6 E7;(try simp only [bI,wk,ay,aB,aa,ab,av,al,ax,aj,af,an,aE] at*);(rw [Vw];simp [wk,ay,aB,aa,ab,av,al,ax,aj,af,an,aE, *];grind))
    exact (dP (d:= .bool false) (E7++Vt 4 (tC (eF (aH h16)))++Vt 3 (tC (eT (aH h17)))++ [tC (eF (aH h16)),tC (aH h17),tC (aH h16)]) (by kernel_rfl)).to (by clear E1 E2 E3 E4 E5 E6 E7;(try simp only [bI,wk,ay,aB,aa,ab,av,al,ax,aj,af,an,aE] at*);(simp [wk,ay,aB,aa,ab,av,al,ax,aj,af,an,aE, *];done))
   exact (dP (d:= .bool false) (E6++ [tC (nt PO)]) (by kernel_rfl)).to (by clear E1 E2 E3 E4 E5 E6;(try simp only [bI,wk,ay,aB,aa,ab,av,al,ax,aj,af,an,aE] at*);(simp [wk,ay,aB,aa,ab,av,al,ax,aj,af,an,aE, *];done))
  exact (dP (d:= .bool false) (E5++Vt 4 (tC (eF (nt Pv)))++ [tC (nt Pv),tT]) (by kernel_rfl)).to (by clear E1 E2 E3 E4 E5;(try simp only [bI,wk,ay,aB,aa,ab,av,al,ax,aj,af,an,aE] at*);(simp [wk,ay,aB,aa,ab,av,al,ax,aj,af,an,aE, *];done))
 exact (dP (d:= .bool false) (E1++Vt 4 (tC (eF (nt h2)))++ [tC (nt h2),tF,tF,tF,tF,tT,tF,tF,tF,tF,tT,tF,tF,tF,tF,tT,tF,tF,tF,tF,tT,tT]) (by kernel_rfl)).to (by clear E1;(try simp only [bI,wk,ay,aB,aa,ab,av,al,ax,aj,af,an,aE] at*);(rw [Vw];simp [wk,ay,aB,aa,ab,av,al,ax,aj,af,an,aE, *];grind))
theorem uK (op w dst src base ai au cc:Int) (h:(bq op==10)=true) (hc:(bU op==9)=true):aJ Tryz.prog 91 ([xD op w dst src base ai au cc]) (.bool (av op w dst src base ai au cc)):=by
 have c0:= @bp op
 rw [eq_of_beq hc] at c0
 have c1:= @sl op w dst src base ai au cc (bS 9 true (eq_of_beq hc))
 let E1:EL:= [.ret _ _ _ c0,tT,tT,tT,.ret _ _ _ c1,tT,.flat _ _ cD,tF]
 rcases cm (aa [.int .i8 op,.int .i8 w,.int .i8 dst,.int .i8 src,.int .i8 base,.int .i64 ai,.int .i64 au,.int .i8 cc] [.int .i8 op,.int .i8 w,.int .i8 0,.int .i8 0,.int .i8 0,.int .i64 0,.int .i64 au,.int .i8 cc]) with h2|h2
 ·have c3:= @ck dst
  generalize g5:al dst=r4 at c3
  let E2:EL:=E1++Vt 3 (tC (eF (nt h2)))++ [.ret _ _ _ c3,tC (eF (nt h2)),tC (nt h2)]
  cases r4
  ·exact (dP (d:= .bool false) (E2++ [tF,tF,tF,tF,tT,tF,tF,tF,tF,tT,tF,tF,tF,tF,tT,tF,tF,tF,tF,tT,tT]) (by kernel_rfl)).to (by clear E1 E2;(try simp only [bI,wk,ay,aB,aa,ab,av,al,ax,aj,af,an,aE] at*);(simp [wk,ay,aB,aa,ab,av,al,ax,aj,af,an,aE, *];done))
  have c6:= @ck src
  generalize g8:al src=r7 at c6
  let E3:EL:=E2++ [tT,tT,tT,.ret _ _ _ c6,tT,tF]
  cases r7
  ·exact (dP (d:= .bool false) (E3++ [tF,tF,tF,tF,tT,tF,tF,tF,tF,tT,tF,tF,tF,tF,tT,tT]) (by kernel_rfl)).to (by clear E1 E2 E3;(try simp only [bI,wk,ay,aB,aa,ab,av,al,ax,aj,af,an,aE] at*);(simp [wk,ay,aB,aa,ab,av,al,ax,aj,af,an,aE, *];done))
  have c9:= @ck base
  generalize g11:al base=lf at c9
  let E4:EL:=E3++ [tT,tT,tT,.ret _ _ _ c9,tT,tF]
  cases lf
  ·exact (dP (d:= .bool false) (E4++ [tF,tF,tF,tF,tT,tF,tF,tF,tF,tT,tT]) (by kernel_rfl)).to (by clear E1 E2 E3 E4;(try simp only [bI,wk,ay,aB,aa,ab,av,al,ax,aj,af,an,aE] at*);(simp [wk,ay,aB,aa,ab,av,al,ax,aj,af,an,aE, *];done))
  have Qp:= @cL ai
  let E5:EL:=E4++ [tT,tT,tT,.ret _ _ _ Qp,tT,tF]
  rcases cm (decide ((-2147483648)≤ai∧ai≤2147483647)) with Pv|Pv
  ·have QI:= @cL au
   let E6:EL:=E5++Vt 3 (tC (eF (nt Pv)))++ [.ret _ _ _ QI,tC (eF (nt Pv)),tC (nt Pv)]
   rcases cm (decide ((-2147483648)≤au∧au≤2147483647)) with PO|PO
   ·let E7:EL:=E6++ [tC (nt PO)]++Vt 8 tF++ [tT]
    by_cases h16:w=32
    ·subst h16
     have TL:= @yc cc
     generalize g19:aE cc=r18 at TL
     exact (dP (d:= .bool r18) (E7++ [tF,tF,tF,tF,tF,tT,tT,tT,tT,.ret _ _ _ TL,tT]) (by kernel_rfl)).to (by clear E1 E2 E3 E4 E5 E6 E7;(try simp only [bI,wk,ay,aB,aa,ab,av,al,ax,aj,af,an,aE] at*);(rw [Vw];simp [wk,ay,aB,aa,ab,av,al,ax,aj,af,an,aE, *];grind))
    let E8:EL:=E7++Vt 4 (tC (eF (aH h16)))
    by_cases h20:w=8
    ·subst h20
     have T2:= @zV au
     rcases cm (decide ((-128)≤au∧au≤127)) with h22|h22
     ·have Re:= @yc cc
      generalize g25:aE cc=r24 at Re
      exact (dP (d:= .bool r24) (E8++ [tT,tT,tT,.ret _ _ _ T2,tT,tT,tF,tC (eT h22),tC (eT h22),tC (eT h22),.ret _ _ _ Re,tC h22]) (by kernel_rfl)).to (by clear E1 E2 E3 E4 E5 E6 E7 E8;(try simp only [bI,wk,ay,aB,aa,ab,av,al,ax,aj,af,an,aE] at*);(rw [Vw];simp [wk,ay,aB,aa,ab,av,al,ax,aj,af,an,aE, *];grind))
     exact (dP (d:= .bool false) (E8++ [tT,tT,tT,.ret _ _ _ T2,tT,tT,tF,tC (eT h22),tC (eT h22),tC (eT h22),tC h22]) (by kernel_rfl)).to (by clear E1 E2 E3 E4 E5 E6 E7 E8;(try simp only [bI,wk,ay,aB,aa,ab,av,al,ax,aj,af,an,aE] at*);(simp [wk,ay,aB,aa,ab,av,al,ax,aj,af,an,aE, *];done))
    exact (dP (d:= .bool false) (E8++Vt 3 (tC (eT (aH h20)))++ [tC (eF (aH h16)),tC (aH h20),tC (aH h16),tF,tF,tF,tF]) (by kernel_rfl)).to (by clear E1 E2 E3 E4 E5 E6 E7 E8;(try simp only [bI,wk,ay,aB,aa,ab,av,al,ax,aj,af,an,aE] at*);(simp [wk,ay,aB,aa,ab,av,al,ax,aj,af,an,aE, *];done))
   exact (dP (d:= .bool false) (E6++ [tC (nt PO)]) (by kernel_rfl)).to (by clear E1 E2 E3 E4 E5 E6;(try simp only [bI,wk,ay,aB,aa,ab,av,al,ax,aj,af,an,aE] at*);(simp [wk,ay,aB,aa,ab,av,al,ax,aj,af,an,aE, *];done))
  exact (dP (d:= .bool false) (E5++Vt 4 (tC (eF (nt Pv)))++ [tC (nt Pv),tT]) (by kernel_rfl)).to (by clear E1 E2 E3 E4 E5;(try simp only [bI,wk,ay,aB,aa,ab,av,al,ax,aj,af,an,aE] at*);(simp [wk,ay,aB,aa,ab,av,al,ax,aj,af,an,aE, *];done))
 exact (dP (d:= .bool false) (E1++Vt 4 (tC (eF (nt h2)))++ [tC (nt h2),tF,tF,tF,tF,tT,tF,tF,tF,tF,tT,tF,tF,tF,tF,tT,tF,tF,tF,tF,tT,tT]) (by kernel_rfl)).to (by clear E1;(try simp only [bI,wk,ay,aB,aa,ab,av,al,ax,aj,af,an,aE] at*);(rw [Vw];simp [wk,ay,aB,aa,ab,av,al,ax,aj,af,an,aE, *];grind))
theorem uJ (op w dst src base ai au cc:Int) (h:(bq op==11)=true) (hc:(bU op==10)=true):aJ Tryz.prog 91 ([xD op w dst src base ai au cc]) (.bool (av op w dst src base ai au cc)):=by
 have c0:= @bp op
 rw [eq_of_beq hc] at c0
 have c1:= @pJ op w dst src base ai au cc (bS 10 true (eq_of_beq hc))
 let E1:EL:= [.ret _ _ _ c0,tT,tT,tT,.ret _ _ _ c1,tT,.flat _ _ cD,tF]
 rcases cm (aa [.int .i8 op,.int .i8 w,.int .i8 dst,.int .i8 src,.int .i8 base,.int .i64 ai,.int .i64 au,.int .i8 cc] [.int .i8 op,.int .i8 0,.int .i8 0,.int .i8 0,.int .i8 0,.int .i64 0,.int .i64 0,.int .i8 0]) with h2|h2
 ·have c3:= @ck dst
  generalize g5:al dst=r4 at c3
  let E2:EL:=E1++Vt 3 (tC (eF (nt h2)))++ [.ret _ _ _ c3,tC (eF (nt h2)),tC (nt h2)]
  cases r4
  ·exact (dP (d:= .bool false) (E2++ [tF,tF,tF,tF,tT,tF,tF,tF,tF,tT,tF,tF,tF,tF,tT,tF,tF,tF,tF,tT,tT]) (by kernel_rfl)).to (by clear E1 E2;(try simp only [bI,wk,ay,aB,aa,ab,av,al,ax,aj,af,an,aE] at*);(simp [wk,ay,aB,aa,ab,av,al,ax,aj,af,an,aE, *];done))
  have c6:= @ck src
  generalize g8:al src=r7 at c6
  let E3:EL:=E2++ [tT,tT,tT,.ret _ _ _ c6,tT,tF]
  cases r7
  ·exact (dP (d:= .bool false) (E3++ [tF,tF,tF,tF,tT,tF,tF,tF,tF,tT,tF,tF,tF,tF,tT,tT]) (by kernel_rfl)).to (by clear E1 E2 E3;(try simp only [bI,wk,ay,aB,aa,ab,av,al,ax,aj,af,an,aE] at*);(simp [wk,ay,aB,aa,ab,av,al,ax,aj,af,an,aE, *];done))
  have c9:= @ck base
  generalize g11:al base=lf at c9
  let E4:EL:=E3++ [tT,tT,tT,.ret _ _ _ c9,tT,tF]
  cases lf
  ·exact (dP (d:= .bool false) (E4++ [tF,tF,tF,tF,tT,tF,tF,tF,tF,tT,tT]) (by kernel_rfl)).to (by clear E1 E2 E3 E4;(try simp only [bI,wk,ay,aB,aa,ab,av,al,ax,aj,af,an,aE] at*);(simp [wk,ay,aB,aa,ab,av,al,ax,aj,af,an,aE, *];done))
  have Qp:= @cL ai
  rcases cm (decide ((-2147483648)≤ai∧ai≤2147483647)) with Pv|Pv
  ·have QI:= @cL au
   let E5:EL:=E4++ [tT,tT,tT,.ret _ _ _ Qp,tT,tF]++Vt 3 (tC (eF (nt Pv)))++ [.ret _ _ _ QI,tC (eF (nt Pv)),tC (nt Pv)]
   rcases cm (decide ((-2147483648)≤au∧au≤2147483647)) with PO|PO
   ·exact (dP (d:= .bool true) (E5++ [tC (nt PO)]++Vt 9 tF) (by kernel_rfl)).to (by clear E1 E2 E3 E4 E5;(try simp only [bI,wk,ay,aB,aa,ab,av,al,ax,aj,af,an,aE] at*);(rw [Vw];simp [wk,ay,aB,aa,ab,av,al,ax,aj,af,an,aE, *];grind))
   exact (dP (d:= .bool false) (E5++ [tC (nt PO)]) (by kernel_rfl)).to (by clear E1 E2 E3 E4 E5;(try simp only [bI,wk,ay,aB,aa,ab,av,al,ax,aj,af,an,aE] at*);(simp [wk,ay,aB,aa,ab,av,al,ax,aj,af,an,aE, *];done))
  exact (dP (d:= .bool false) (E4++ [tT,tT,tT,.ret _ _ _ Qp,tT,tF]++Vt 4 (tC (eF (nt Pv)))++ [tC (nt Pv),tT]) (by kernel_rfl)).to (by clear E1 E2 E3 E4;(try simp only [bI,wk,ay,aB,aa,ab,av,al,ax,aj,af,an,aE] at*);(simp [wk,ay,aB,aa,ab,av,al,ax,aj,af,an,aE, *];done))
 exact (dP (d:= .bool false) (E1++Vt 4 (tC (eF (nt h2)))++ [tC (nt h2),tF,tF,tF,tF,tT,tF,tF,tF,tF,tT,tF,tF,tF,tF,tT,tF,tF,tF,tF,tT,tT]) (by kernel_rfl)).to (by clear E1;(try simp only [bI,wk,ay,aB,aa,ab,av,al,ax,aj,af,an,aE] at*);(rw [Vw];simp [wk,ay,aB,aa,ab,av,al,ax,aj,af,an,aE, *];grind))
theorem rG:∀n:Fin 32,bq (n.val:Int)=1∨bq (n.val:Int)=2∨bq (n.val:Int)=3∨bq (n.val:Int)=4∨bq (n.val:Int)=5∨bq (n.val:Int)=6∨bq (n.val:Int)=7∨bq (n.val:Int)=8∨bq (n.val:Int)=9∨bq (n.val:Int)=10∨bq (n.val:Int)=11:=by decide+kernel
theorem aM (op w dst src base ai au cc:Int):aJ Tryz.prog 91 [xD op w dst src base ai au cc] (.bool (av op w dst src base ai au cc)):=by
 by_cases PE:0≤op∧op≤31
 ·have e:op=(((⟨op.toNat,by omega⟩:Fin 32).val:Nat):Int):=by simp;omega
  have hr:=rG ⟨op.toNat,by omega⟩
  rw [← e] at hr
  rcases hr with h|h|h|h|h|h|h|h|h|h|h
  ·exact xx _ _ _ _ _ _ _ _ (by rw [h];rfl) (by simp [bU,h])
  ·exact xw _ _ _ _ _ _ _ _ (by rw [h];rfl) (by simp [bU,h])
  ·exact xv _ _ _ _ _ _ _ _ (by rw [h];rfl) (by simp [bU,h])
  ·exact xu _ _ _ _ _ _ _ _ (by rw [h];rfl) (by simp [bU,h])
  ·exact xr _ _ _ _ _ _ _ _ (by rw [h];rfl) (by simp [bU,h])
  ·exact xq _ _ _ _ _ _ _ _ (by rw [h];rfl) (by simp [bU,h])
  ·exact xp _ _ _ _ _ _ _ _ (by rw [h];rfl) (by simp [bU,h])
  ·exact xo _ _ _ _ _ _ _ _ (by rw [h];rfl) (by simp [bU,h])
  ·exact xn _ _ _ _ _ _ _ _ (by rw [h];rfl) (by simp [bU,h])
  ·exact uK _ _ _ _ _ _ _ _ (by rw [h];rfl) (by simp [bU,h])
  ·exact uJ _ _ _ _ _ _ _ _ (by rw [h];rfl) (by simp [bU,h])
 ·exact xy _ _ _ _ _ _ _ _ (by rw [(gF (op:=op) (by omega)).1];rfl) (by simp [bU,(gF (op:=op) (by omega)).1])
end Go.Proofs.YtkpneibifdoecaaGreat
