import Derived.WalkKit
import Derived.IntWalk
import Derived.KernelRfl
import Derived.LoopN
import Derived.Test.YtbfpahigdpigpaaGreatC05
import Derived.Test.YtbfpahigdpigpaaGreatC06
import Derived.Test.YtbfpahigdpigpaaGreatC07
open List renaming replicate→Sx,getElem?_map→SW
open BitVec renaming ofInt→Sy,toNat→SF
open Bool renaming eq_iff_iff→SM
open Go renaming IntKind→T8
/- Contracts and plain laws that a statement's proof leans on (texts merged:XMay1,XMay2,XMay3,XMayA,XB0,NumA,XB1,XB2a,XB2b). -/
set_option linter.unusedVariables false
set_option linter.unusedSimpArgs false
set_option maxRecDepth 100000
set_option maxHeartbeats 8000000
namespace Go.Proofs.YtbfpahigdpigpaaGreat
open Go Go.Ev
def rV (Me:Int):Prop:= ∀(op w dst src base aa ai cc:Int) (ho:op≤127) (h:(aA op==Me)=true) (L1:decide (0≤op∧op≤31)=true),aF Tryz.prog 72 ([xD op w dst src base aa ai cc]) (.bool (ct op w dst src base aa ai cc))
theorem CB:rV 3:=by
 intro op w dst src base aa ai cc ho h L1
 have c0:= @cj op ho
 rw [eq_of_beq h] at c0
 generalize g2:bp op=r1 at c0
 generalize g4:cI op=r3 at c0
 have c5:= @Ds op w dst src base aa ai cc 3 (rfl:true=true)
 let E1:EL:=([.ret _ _ _ c0]++Sx 4 (tC (eF (nt L1)))++ [.ret _ _ _ c5,tC (eF (nt L1)),tC (eF (nt L1)),.flat _ _ eC,tC (nt L1)])
 rcases ef (ae [.int .i8 0,.int .i8 0,.int .i8 0,.int .i8 src,.int .i8 base,.int .i64 aa,.int .i64 0,.int .i8 cc] [.int .i8 0,.int .i8 0,.int .i8 0,.int .i8 0,.int .i8 0,.int .i64 0,.int .i64 0,.int .i8 0]) with h6|h6
 ·have c7:= @cW dst
  generalize g9:bA dst=r8 at c7
  let E2:EL:=E1++Sx 3 (tC (eF (nt h6)))++ [.ret _ _ _ c7,tC (eF (nt h6)),tC (nt h6)]
  cases r8
  ·exact (dj (d:= .bool false) (E2++ [tF,tF,tF,tF,tT,tF,tF,tF,tF,tT,tF,tF,tF,tF,tT,tF,tF,tF,tF,tT,tT]) (by kernel_rfl)).to (by clear E1 E2;(try simp only [cP,wk,ax,aO,ae,ak,sM] at*);(simp [wk,ax,aO,ae,ak,sM, *];done))
  have LZ:= @cW src
  generalize g12:bA src=Mf at LZ
  let E3:EL:=E2++ [tT,tT,tT,.ret _ _ _ LZ,tT,tF]
  cases Mf
  ·exact (dj (d:= .bool false) (E3++ [tF,tF,tF,tF,tT,tF,tF,tF,tF,tT,tF,tF,tF,tF,tT,tT]) (by kernel_rfl)).to (by clear E1 E2 E3;(try simp only [cP,wk,ax,aO,ae,ak,sM] at*);(simp [wk,ax,aO,ae,ak,sM, *];done))
  have MB:= @cW base
  generalize g15:bA base=Ns at MB
  let E4:EL:=E3++ [tT,tT,tT,.ret _ _ _ MB,tT,tF]
  cases Ns
  ·exact (dj (d:= .bool false) (E4++ [tF,tF,tF,tF,tT,tF,tF,tF,tF,tT,tT]) (by kernel_rfl)).to (by clear E1 E2 E3 E4;(try simp only [cP,wk,ax,aO,ae,ak,sM] at*);(simp [wk,ax,aO,ae,ak,sM, *];done))
  have MS:= @br aa (-2147483648) 2147483647
  let E5:EL:=E4++ [tT,tT,tT,.ret _ _ _ MS,tT,tF]
  rcases ef (decide (aa<(-2147483648))) with h17|h17
  ·exact (dj (d:= .bool false) (E5++Sx 4 (tC (eF (nt (cz (y:=decide (aa≤2147483647)) (bB (-2147483648) h17)))))++ [tC (nt (cz (y:=decide (aa≤2147483647)) (bB (-2147483648) h17))),tT]) (by kernel_rfl)).to (by clear E1 E2 E3 E4 E5;(try simp only [cP,wk,ax,aO,ae,ak,sM] at*);(simp [wk,ax,aO,ae,ak,sM, *];omega))
  rcases ef (decide (aa<2147483648)) with h18|h18
  ·have M9:= @br ai (-2147483648) 2147483647
   let E6:EL:=E5++Sx 3 (tC (eF (nt (aB (bB (-2147483648) h17) (dP 2147483647 h18)))))++ [.ret _ _ _ M9,tC (eF (nt (aB (bB (-2147483648) h17) (dP 2147483647 h18)))),tC (nt (aB (bB (-2147483648) h17) (dP 2147483647 h18)))]
   rcases ef (decide (ai<(-2147483648))) with h20|h20
   ·exact (dj (d:= .bool false) (E6++ [tC (nt (cz (y:=decide (ai≤2147483647)) (bB (-2147483648) h20)))]) (by kernel_rfl)).to (by clear E1 E2 E3 E4 E5 E6;(try simp only [cP,wk,ax,aO,ae,ak,sM] at*);(simp [wk,ax,aO,ae,ak,sM, *];omega))
   rcases ef (decide (ai<2147483648)) with h21|h21
   ·let E7:EL:=E6++ [tC (nt (aB (bB (-2147483648) h20) (dP 2147483647 h21)))]
    by_cases h22:w=32
    ·subst h22
     exact (dj (d:= .bool true) (E7++ [tF,tF,tF,tT,tF,tF,tF,tF,tF,tT,tF,tF,tT,tT]) (by kernel_rfl)).to (by clear E1 E2 E3 E4 E5 E6 E7;(try simp only [cP,wk,ax,aO,ae,ak,sM] at*);(rw [SM];simp [wk,ax,aO,ae,ak,sM, *];grind))
    let E8:EL:=E7++Sx 3 (tC (eF (aw h22)))++ [tC (aw h22)]++Sx 4 (tC (eF (aw h22)))
    by_cases h23:w=8
    ·subst h23
     have OP:= @br ai (-128) 127
     exact (dj (d:= .bool false) (E8++ [tT,tT,tT,.ret _ _ _ OP,tT,tT,tF,tF,tF,tT,tT]) (by kernel_rfl)).to (by clear E1 E2 E3 E4 E5 E6 E7 E8;(try simp only [cP,wk,ax,aO,ae,ak,sM] at*);(simp [wk,ax,aO,ae,ak,sM, *];done))
    exact (dj (d:= .bool (w==64)) (E8++Sx 3 (tC (eT (aw h23)))++ [tC (eF (aw h22)),tC (aw h23),tC (aw h22),tF,tF,tT,tT]) (by kernel_rfl)).to (by clear E1 E2 E3 E4 E5 E6 E7 E8;(try simp only [cP,wk,ax,aO,ae,ak,sM] at*);(rw [SM];simp [wk,ax,aO,ae,ak,sM, *];grind))
   exact (dj (d:= .bool false) (E6++ [tC (nt (aB (bB (-2147483648) h20) (dP 2147483647 h21)))]) (by kernel_rfl)).to (by clear E1 E2 E3 E4 E5 E6;(try simp only [cP,wk,ax,aO,ae,ak,sM] at*);(simp [wk,ax,aO,ae,ak,sM, *];omega))
  exact (dj (d:= .bool false) (E5++Sx 4 (tC (eF (nt (aB (bB (-2147483648) h17) (dP 2147483647 h18)))))++ [tC (nt (aB (bB (-2147483648) h17) (dP 2147483647 h18))),tT]) (by kernel_rfl)).to (by clear E1 E2 E3 E4 E5;(try simp only [cP,wk,ax,aO,ae,ak,sM] at*);(simp [wk,ax,aO,ae,ak,sM, *];omega))
 exact (dj (d:= .bool false) (E1++Sx 4 (tC (eF (nt h6)))++ [tC (nt h6),tF,tF,tF,tF,tT,tF,tF,tF,tF,tT,tF,tF,tF,tF,tT,tF,tF,tF,tF,tT,tT]) (by kernel_rfl)).to (by clear E1;(try simp only [cP,wk,ax,aO,ae,ak,sM] at*);(rw [SM];simp [wk,ax,aO,ae,ak,sM, *];grind))
theorem CA:rV 4:=by
 intro op w dst src base aa ai cc ho h L1
 have c0:= @cj op ho
 rw [eq_of_beq h] at c0
 generalize g2:bp op=r1 at c0
 generalize g4:cI op=r3 at c0
 have c5:= @Dr op w dst src base aa ai cc 4 (rfl:true=true)
 let E1:EL:=([.ret _ _ _ c0]++Sx 4 (tC (eF (nt L1)))++ [.ret _ _ _ c5,tC (eF (nt L1)),tC (eF (nt L1)),.flat _ _ eC,tC (nt L1)])
 rcases ef (ae [.int .i8 0,.int .i8 0,.int .i8 0,.int .i8 src,.int .i8 base,.int .i64 aa,.int .i64 0,.int .i8 cc] [.int .i8 0,.int .i8 0,.int .i8 0,.int .i8 0,.int .i8 0,.int .i64 0,.int .i64 0,.int .i8 0]) with h6|h6
 ·have c7:= @cW dst
  generalize g9:bA dst=r8 at c7
  let E2:EL:=E1++Sx 3 (tC (eF (nt h6)))++ [.ret _ _ _ c7,tC (eF (nt h6)),tC (nt h6)]
  cases r8
  ·exact (dj (d:= .bool false) (E2++ [tF,tF,tF,tF,tT,tF,tF,tF,tF,tT,tF,tF,tF,tF,tT,tF,tF,tF,tF,tT,tT]) (by kernel_rfl)).to (by clear E1 E2;(try simp only [cP,wk,ax,aO,ae,ak,sM] at*);(simp [wk,ax,aO,ae,ak,sM, *];done))
  have LZ:= @cW src
  generalize g12:bA src=Mf at LZ
  let E3:EL:=E2++ [tT,tT,tT,.ret _ _ _ LZ,tT,tF]
  cases Mf
  ·exact (dj (d:= .bool false) (E3++ [tF,tF,tF,tF,tT,tF,tF,tF,tF,tT,tF,tF,tF,tF,tT,tT]) (by kernel_rfl)).to (by clear E1 E2 E3;(try simp only [cP,wk,ax,aO,ae,ak,sM] at*);(simp [wk,ax,aO,ae,ak,sM, *];done))
  have MB:= @cW base
  generalize g15:bA base=Ns at MB
  let E4:EL:=E3++ [tT,tT,tT,.ret _ _ _ MB,tT,tF]
  cases Ns
  ·exact (dj (d:= .bool false) (E4++ [tF,tF,tF,tF,tT,tF,tF,tF,tF,tT,tT]) (by kernel_rfl)).to (by clear E1 E2 E3 E4;(try simp only [cP,wk,ax,aO,ae,ak,sM] at*);(simp [wk,ax,aO,ae,ak,sM, *];done))
  have MS:= @br aa (-2147483648) 2147483647
  let E5:EL:=E4++ [tT,tT,tT,.ret _ _ _ MS,tT,tF]
  rcases ef (decide (aa<(-2147483648))) with h17|h17
  ·exact (dj (d:= .bool false) (E5++Sx 4 (tC (eF (nt (cz (y:=decide (aa≤2147483647)) (bB (-2147483648) h17)))))++ [tC (nt (cz (y:=decide (aa≤2147483647)) (bB (-2147483648) h17))),tT]) (by kernel_rfl)).to (by clear E1 E2 E3 E4 E5;(try simp only [cP,wk,ax,aO,ae,ak,sM] at*);(simp [wk,ax,aO,ae,ak,sM, *];omega))
  rcases ef (decide (aa<2147483648)) with h18|h18
  ·have M9:= @br ai (-2147483648) 2147483647
   let E6:EL:=E5++Sx 3 (tC (eF (nt (aB (bB (-2147483648) h17) (dP 2147483647 h18)))))++ [.ret _ _ _ M9,tC (eF (nt (aB (bB (-2147483648) h17) (dP 2147483647 h18)))),tC (nt (aB (bB (-2147483648) h17) (dP 2147483647 h18)))]
   rcases ef (decide (ai<(-2147483648))) with h20|h20
   ·exact (dj (d:= .bool false) (E6++ [tC (nt (cz (y:=decide (ai≤2147483647)) (bB (-2147483648) h20)))]) (by kernel_rfl)).to (by clear E1 E2 E3 E4 E5 E6;(try simp only [cP,wk,ax,aO,ae,ak,sM] at*);(simp [wk,ax,aO,ae,ak,sM, *];omega))
   rcases ef (decide (ai<2147483648)) with h21|h21
   ·let E7:EL:=E6++ [tC (nt (aB (bB (-2147483648) h20) (dP 2147483647 h21)))]
    by_cases h22:w=32
    ·subst h22
     have NT:= @br ai 0 31
     exact (dj (d:= .bool (decide (0≤ai)&&decide (ai≤31))) (E7++ [tF,tF,tF,tT,tF,tF,tF,tF,tF,tT,tF,tF,tF,tF]++Sx 8 tT++ [.ret _ _ _ NT,tT]) (by kernel_rfl)).to (by clear E1 E2 E3 E4 E5 E6 E7;(try simp only [cP,wk,ax,aO,ae,ak,sM] at*);(rw [SM];simp [wk,ax,aO,ae,ak,sM, *];grind))
    let E8:EL:=E7++Sx 3 (tC (eF (aw h22)))++ [tC (aw h22)]++Sx 4 (tC (eF (aw h22)))
    by_cases h24:w=8
    ·subst h24
     have P1:= @br ai (-128) 127
     exact (dj (d:= .bool false) (E8++ [tT,tT,tT,.ret _ _ _ P1,tT,tT,tF,tF,tF,tF,tF,tT]++Sx 8 tF) (by kernel_rfl)).to (by clear E1 E2 E3 E4 E5 E6 E7 E8;(try simp only [cP,wk,ax,aO,ae,ak,sM] at*);(simp [wk,ax,aO,ae,ak,sM, *];done))
    let E9:EL:=E8++Sx 3 (tC (eT (aw h24)))++ [tC (eF (aw h22)),tC (aw h24),tC (aw h22),tF,tF,tF,tF,tT]
    by_cases h26:w=64
    ·subst h26
     have NG:= @br ai 0 63
     exact (dj (d:= .bool (decide (0≤ai)&&decide (ai≤63))) (E9++ [tT,tT,tT,tT,tT,tT,tT,.ret _ _ _ NG,tT]) (by kernel_rfl)).to (by clear E1 E2 E3 E4 E5 E6 E7 E8 E9;(try simp only [cP,wk,ax,aO,ae,ak,sM] at*);(rw [SM];simp [wk,ax,aO,ae,ak,sM, *];grind))
    exact (dj (d:= .bool false) (E9++Sx 7 (tC (eT (aw h26)))++ [tC (aw h26)]) (by kernel_rfl)).to (by clear E1 E2 E3 E4 E5 E6 E7 E8 E9;(try simp only [cP,wk,ax,aO,ae,ak,sM] at*);(simp [wk,ax,aO,ae,ak,sM, *];done))
   exact (dj (d:= .bool false) (E6++ [tC (nt (aB (bB (-2147483648) h20) (dP 2147483647 h21)))]) (by kernel_rfl)).to (by clear E1 E2 E3 E4 E5 E6;(try simp only [cP,wk,ax,aO,ae,ak,sM] at*);(simp [wk,ax,aO,ae,ak,sM, *];omega))
  exact (dj (d:= .bool false) (E5++Sx 4 (tC (eF (nt (aB (bB (-2147483648) h17) (dP 2147483647 h18)))))++ [tC (nt (aB (bB (-2147483648) h17) (dP 2147483647 h18))),tT]) (by kernel_rfl)).to (by clear E1 E2 E3 E4 E5;(try simp only [cP,wk,ax,aO,ae,ak,sM] at*);(simp [wk,ax,aO,ae,ak,sM, *];omega))
 exact (dj (d:= .bool false) (E1++Sx 4 (tC (eF (nt h6)))++ [tC (nt h6),tF,tF,tF,tF,tT,tF,tF,tF,tF,tT,tF,tF,tF,tF,tT,tF,tF,tF,tF,tT,tT]) (by kernel_rfl)).to (by clear E1;(try simp only [cP,wk,ax,aO,ae,ak,sM] at*);(rw [SM];simp [wk,ax,aO,ae,ak,sM, *];grind))
theorem Cz:rV 5:=by
 intro op w dst src base aa ai cc ho h L1
 have c0:= @cj op ho
 rw [eq_of_beq h] at c0
 generalize g2:bp op=r1 at c0
 generalize g4:cI op=r3 at c0
 have c5:= @Dq op w dst src base aa ai cc 5 (rfl:true=true)
 let E1:EL:=([.ret _ _ _ c0]++Sx 4 (tC (eF (nt L1)))++ [.ret _ _ _ c5,tC (eF (nt L1)),tC (eF (nt L1)),.flat _ _ eC,tC (nt L1)])
 rcases ef (ae [.int .i8 0,.int .i8 0,.int .i8 0,.int .i8 src,.int .i8 base,.int .i64 aa,.int .i64 ai,.int .i8 cc] [.int .i8 0,.int .i8 0,.int .i8 0,.int .i8 0,.int .i8 0,.int .i64 0,.int .i64 0,.int .i8 0]) with h6|h6
 ·have c7:= @cW dst
  generalize g9:bA dst=r8 at c7
  let E2:EL:=E1++Sx 3 (tC (eF (nt h6)))++ [.ret _ _ _ c7,tC (eF (nt h6)),tC (nt h6)]
  cases r8
  ·exact (dj (d:= .bool false) (E2++ [tF,tF,tF,tF,tT,tF,tF,tF,tF,tT,tF,tF,tF,tF,tT,tF,tF,tF,tF,tT,tT]) (by kernel_rfl)).to (by clear E1 E2;(try simp only [cP,wk,ax,aO,ae,ak,sM] at*);(simp [wk,ax,aO,ae,ak,sM, *];done))
  have LZ:= @cW src
  generalize g12:bA src=Mf at LZ
  let E3:EL:=E2++ [tT,tT,tT,.ret _ _ _ LZ,tT,tF]
  cases Mf
  ·exact (dj (d:= .bool false) (E3++ [tF,tF,tF,tF,tT,tF,tF,tF,tF,tT,tF,tF,tF,tF,tT,tT]) (by kernel_rfl)).to (by clear E1 E2 E3;(try simp only [cP,wk,ax,aO,ae,ak,sM] at*);(simp [wk,ax,aO,ae,ak,sM, *];done))
  have MB:= @cW base
  generalize g15:bA base=Ns at MB
  let E4:EL:=E3++ [tT,tT,tT,.ret _ _ _ MB,tT,tF]
  cases Ns
  ·exact (dj (d:= .bool false) (E4++ [tF,tF,tF,tF,tT,tF,tF,tF,tF,tT,tT]) (by kernel_rfl)).to (by clear E1 E2 E3 E4;(try simp only [cP,wk,ax,aO,ae,ak,sM] at*);(simp [wk,ax,aO,ae,ak,sM, *];done))
  have MS:= @br aa (-2147483648) 2147483647
  let E5:EL:=E4++ [tT,tT,tT,.ret _ _ _ MS,tT,tF]
  rcases ef (decide (aa<(-2147483648))) with h17|h17
  ·exact (dj (d:= .bool false) (E5++Sx 4 (tC (eF (nt (cz (y:=decide (aa≤2147483647)) (bB (-2147483648) h17)))))++ [tC (nt (cz (y:=decide (aa≤2147483647)) (bB (-2147483648) h17))),tT]) (by kernel_rfl)).to (by clear E1 E2 E3 E4 E5;(try simp only [cP,wk,ax,aO,ae,ak,sM] at*);(simp [wk,ax,aO,ae,ak,sM, *];omega))
  rcases ef (decide (aa<2147483648)) with h18|h18
  ·have M9:= @br ai (-2147483648) 2147483647
   let E6:EL:=E5++Sx 3 (tC (eF (nt (aB (bB (-2147483648) h17) (dP 2147483647 h18)))))++ [.ret _ _ _ M9,tC (eF (nt (aB (bB (-2147483648) h17) (dP 2147483647 h18)))),tC (nt (aB (bB (-2147483648) h17) (dP 2147483647 h18)))]
   rcases ef (decide (ai<(-2147483648))) with h20|h20
   ·exact (dj (d:= .bool false) (E6++ [tC (nt (cz (y:=decide (ai≤2147483647)) (bB (-2147483648) h20)))]) (by kernel_rfl)).to (by clear E1 E2 E3 E4 E5 E6;(try simp only [cP,wk,ax,aO,ae,ak,sM] at*);(simp [wk,ax,aO,ae,ak,sM, *];omega))
   rcases ef (decide (ai<2147483648)) with h21|h21
   ·let E7:EL:=E6++ [tC (nt (aB (bB (-2147483648) h20) (dP 2147483647 h21)))]
    by_cases h22:w=32
    ·subst h22
     exact (dj (d:= .bool true) (E7++ [tF,tF,tF,tT,tF,tF,tF,tF,tF,tT,tF,tF,tF,tT]) (by kernel_rfl)).to (by clear E1 E2 E3 E4 E5 E6 E7;(try simp only [cP,wk,ax,aO,ae,ak,sM] at*);(rw [SM];simp [wk,ax,aO,ae,ak,sM, *];grind))
    let E8:EL:=E7++Sx 3 (tC (eF (aw h22)))++ [tC (aw h22)]++Sx 4 (tC (eF (aw h22)))
    by_cases h23:w=8
    ·subst h23
     have OP:= @br ai (-128) 127
     exact (dj (d:= .bool false) (E8++ [tT,tT,tT,.ret _ _ _ OP,tT,tT,tF,tF,tF,tF,tT]) (by kernel_rfl)).to (by clear E1 E2 E3 E4 E5 E6 E7 E8;(try simp only [cP,wk,ax,aO,ae,ak,sM] at*);(simp [wk,ax,aO,ae,ak,sM, *];done))
    exact (dj (d:= .bool (w==64)) (E8++Sx 3 (tC (eT (aw h23)))++ [tC (eF (aw h22)),tC (aw h23),tC (aw h22),tF,tF,tF,tT]) (by kernel_rfl)).to (by clear E1 E2 E3 E4 E5 E6 E7 E8;(try simp only [cP,wk,ax,aO,ae,ak,sM] at*);(rw [SM];simp [wk,ax,aO,ae,ak,sM, *];grind))
   exact (dj (d:= .bool false) (E6++ [tC (nt (aB (bB (-2147483648) h20) (dP 2147483647 h21)))]) (by kernel_rfl)).to (by clear E1 E2 E3 E4 E5 E6;(try simp only [cP,wk,ax,aO,ae,ak,sM] at*);(simp [wk,ax,aO,ae,ak,sM, *];omega))
  exact (dj (d:= .bool false) (E5++Sx 4 (tC (eF (nt (aB (bB (-2147483648) h17) (dP 2147483647 h18)))))++ [tC (nt (aB (bB (-2147483648) h17) (dP 2147483647 h18))),tT]) (by kernel_rfl)).to (by clear E1 E2 E3 E4 E5;(try simp only [cP,wk,ax,aO,ae,ak,sM] at*);(simp [wk,ax,aO,ae,ak,sM, *];omega))
 exact (dj (d:= .bool false) (E1++Sx 4 (tC (eF (nt h6)))++ [tC (nt h6),tF,tF,tF,tF,tT,tF,tF,tF,tF,tT,tF,tF,tF,tF,tT,tF,tF,tF,tF,tT,tT]) (by kernel_rfl)).to (by clear E1;(try simp only [cP,wk,ax,aO,ae,ak,sM] at*);(rw [SM];simp [wk,ax,aO,ae,ak,sM, *];grind))
def rU (Me:Int):Prop:= ∀(op w dst src base aa ai cc:Int) (ho:op≤127) (h:(aA op==Me)=true) (L1:decide (0≤op∧op≤31)=true),aF Tryz.prog 72 ([xD op w dst src base aa ai cc]) (.bool (ct op w dst src base aa ai cc))
theorem Cy:rU 6:=by
 intro op w dst src base aa ai cc ho h L1
 have c0:= @cj op ho
 rw [eq_of_beq h] at c0
 generalize g2:bp op=r1 at c0
 generalize g4:cI op=r3 at c0
 have c5:= @Dp op w dst src base aa ai cc 6 (rfl:true=true)
 let E1:EL:=([.ret _ _ _ c0]++Sx 4 (tC (eF (nt L1)))++ [.ret _ _ _ c5,tC (eF (nt L1)),tC (eF (nt L1)),.flat _ _ eC,tC (nt L1)])
 rcases ef (ae [.int .i8 0,.int .i8 0,.int .i8 0,.int .i8 0,.int .i8 base,.int .i64 aa,.int .i64 ai,.int .i8 0] [.int .i8 0,.int .i8 0,.int .i8 0,.int .i8 0,.int .i8 0,.int .i64 0,.int .i64 0,.int .i8 0]) with h6|h6
 ·have c7:= @cW dst
  generalize g9:bA dst=r8 at c7
  let E2:EL:=E1++Sx 3 (tC (eF (nt h6)))++ [.ret _ _ _ c7,tC (eF (nt h6)),tC (nt h6)]
  cases r8
  ·exact (dj (d:= .bool false) (E2++ [tF,tF,tF,tF,tT,tF,tF,tF,tF,tT,tF,tF,tF,tF,tT,tF,tF,tF,tF,tT,tT]) (by kernel_rfl)).to (by clear E1 E2;(try simp only [cP,wk,ax,aO,ae,ak,sM] at*);(simp [wk,ax,aO,ae,ak,sM, *];done))
  have LZ:= @cW src
  generalize g12:bA src=Mf at LZ
  let E3:EL:=E2++ [tT,tT,tT,.ret _ _ _ LZ,tT,tF]
  cases Mf
  ·exact (dj (d:= .bool false) (E3++ [tF,tF,tF,tF,tT,tF,tF,tF,tF,tT,tF,tF,tF,tF,tT,tT]) (by kernel_rfl)).to (by clear E1 E2 E3;(try simp only [cP,wk,ax,aO,ae,ak,sM] at*);(simp [wk,ax,aO,ae,ak,sM, *];done))
  have MB:= @cW base
  generalize g15:bA base=Ns at MB
  let E4:EL:=E3++ [tT,tT,tT,.ret _ _ _ MB,tT,tF]
  cases Ns
  ·exact (dj (d:= .bool false) (E4++ [tF,tF,tF,tF,tT,tF,tF,tF,tF,tT,tT]) (by kernel_rfl)).to (by clear E1 E2 E3 E4;(try simp only [cP,wk,ax,aO,ae,ak,sM] at*);(simp [wk,ax,aO,ae,ak,sM, *];done))
  have MS:= @br aa (-2147483648) 2147483647
  let E5:EL:=E4++ [tT,tT,tT,.ret _ _ _ MS,tT,tF]
  rcases ef (decide (aa<(-2147483648))) with h17|h17
  ·exact (dj (d:= .bool false) (E5++Sx 4 (tC (eF (nt (cz (y:=decide (aa≤2147483647)) (bB (-2147483648) h17)))))++ [tC (nt (cz (y:=decide (aa≤2147483647)) (bB (-2147483648) h17))),tT]) (by kernel_rfl)).to (by clear E1 E2 E3 E4 E5;(try simp only [cP,wk,ax,aO,ae,ak,sM] at*);(simp [wk,ax,aO,ae,ak,sM, *];omega))
  rcases ef (decide (aa<2147483648)) with h18|h18
  ·have M9:= @br ai (-2147483648) 2147483647
   let E6:EL:=E5++Sx 3 (tC (eF (nt (aB (bB (-2147483648) h17) (dP 2147483647 h18)))))++ [.ret _ _ _ M9,tC (eF (nt (aB (bB (-2147483648) h17) (dP 2147483647 h18)))),tC (nt (aB (bB (-2147483648) h17) (dP 2147483647 h18)))]
   rcases ef (decide (ai<(-2147483648))) with h20|h20
   ·exact (dj (d:= .bool false) (E6++ [tC (nt (cz (y:=decide (ai≤2147483647)) (bB (-2147483648) h20)))]) (by kernel_rfl)).to (by clear E1 E2 E3 E4 E5 E6;(try simp only [cP,wk,ax,aO,ae,ak,sM] at*);(simp [wk,ax,aO,ae,ak,sM, *];omega))
   rcases ef (decide (ai<2147483648)) with h21|h21
   ·let E7:EL:=E6++ [tC (nt (aB (bB (-2147483648) h20) (dP 2147483647 h21)))]
    by_cases h22:w=32
    ·subst h22
     have NT:= @pM cc
     generalize g25:fE cc=r24 at NT
     exact (dj (d:= .bool r24) (E7++ [tF,tF,tF,tT,tF,tF,tF,tF,tF,tT,tF,tF,tF,tF,tF,tT,tT,tT,tT,.ret _ _ _ NT,tT]) (by kernel_rfl)).to (by clear E1 E2 E3 E4 E5 E6 E7;(try simp only [cP,wk,ax,aO,ae,ak,sM] at*);(rw [SM];simp [wk,ax,aO,ae,ak,sM, *];grind))
    let E8:EL:=E7++Sx 3 (tC (eF (aw h22)))++ [tC (aw h22)]++Sx 4 (tC (eF (aw h22)))
    by_cases h26:w=8
    ·subst h26
     have NG:= @br ai (-128) 127
     exact (dj (d:= .bool false) (E8++ [tT,tT,tT,.ret _ _ _ NG,tT,tT,tF,tF,tF,tF,tF,tF,tT,tF,tF,tF,tF]) (by kernel_rfl)).to (by clear E1 E2 E3 E4 E5 E6 E7 E8;(try simp only [cP,wk,ax,aO,ae,ak,sM] at*);(simp [wk,ax,aO,ae,ak,sM, *];done))
    let E9:EL:=E8++Sx 3 (tC (eT (aw h26)))++ [tC (eF (aw h22)),tC (aw h26),tC (aw h22),tF,tF,tF,tF,tF,tT]
    by_cases h28:w=64
    ·subst h28
     have Re:= @pM cc
     generalize g31:fE cc=r30 at Re
     exact (dj (d:= .bool r30) (E9++ [tT,tT,tT,.ret _ _ _ Re,tT]) (by kernel_rfl)).to (by clear E1 E2 E3 E4 E5 E6 E7 E8 E9;(try simp only [cP,wk,ax,aO,ae,ak,sM] at*);(rw [SM];simp [wk,ax,aO,ae,ak,sM, *];grind))
    exact (dj (d:= .bool false) (E9++Sx 3 (tC (eT (aw h28)))++ [tC (aw h28)]) (by kernel_rfl)).to (by clear E1 E2 E3 E4 E5 E6 E7 E8 E9;(try simp only [cP,wk,ax,aO,ae,ak,sM] at*);(simp [wk,ax,aO,ae,ak,sM, *];done))
   exact (dj (d:= .bool false) (E6++ [tC (nt (aB (bB (-2147483648) h20) (dP 2147483647 h21)))]) (by kernel_rfl)).to (by clear E1 E2 E3 E4 E5 E6;(try simp only [cP,wk,ax,aO,ae,ak,sM] at*);(simp [wk,ax,aO,ae,ak,sM, *];omega))
  exact (dj (d:= .bool false) (E5++Sx 4 (tC (eF (nt (aB (bB (-2147483648) h17) (dP 2147483647 h18)))))++ [tC (nt (aB (bB (-2147483648) h17) (dP 2147483647 h18))),tT]) (by kernel_rfl)).to (by clear E1 E2 E3 E4 E5;(try simp only [cP,wk,ax,aO,ae,ak,sM] at*);(simp [wk,ax,aO,ae,ak,sM, *];omega))
 exact (dj (d:= .bool false) (E1++Sx 4 (tC (eF (nt h6)))++ [tC (nt h6),tF,tF,tF,tF,tT,tF,tF,tF,tF,tT,tF,tF,tF,tF,tT,tF,tF,tF,tF,tT,tT]) (by kernel_rfl)).to (by clear E1;(try simp only [cP,wk,ax,aO,ae,ak,sM] at*);(rw [SM];simp [wk,ax,aO,ae,ak,sM, *];grind))
theorem Cx:rU 7:=by
 intro op w dst src base aa ai cc ho h L1
 have c0:= @cj op ho
 rw [eq_of_beq h] at c0
 generalize g2:bp op=r1 at c0
 generalize g4:cI op=r3 at c0
 have c5:= @Dn op w dst src base aa ai cc 7 (rfl:true=true)
 let E1:EL:=([.ret _ _ _ c0]++Sx 4 (tC (eF (nt L1)))++ [.ret _ _ _ c5,tC (eF (nt L1)),tC (eF (nt L1)),.flat _ _ eC,tC (nt L1)])
 rcases ef (ae [.int .i8 0,.int .i8 0,.int .i8 0,.int .i8 src,.int .i8 0,.int .i64 0,.int .i64 ai,.int .i8 cc] [.int .i8 0,.int .i8 0,.int .i8 0,.int .i8 0,.int .i8 0,.int .i64 0,.int .i64 0,.int .i8 0]) with h6|h6
 ·have c7:= @cW dst
  generalize g9:bA dst=r8 at c7
  let E2:EL:=E1++Sx 3 (tC (eF (nt h6)))++ [.ret _ _ _ c7,tC (eF (nt h6)),tC (nt h6)]
  cases r8
  ·exact (dj (d:= .bool false) (E2++ [tF,tF,tF,tF,tT,tF,tF,tF,tF,tT,tF,tF,tF,tF,tT,tF,tF,tF,tF,tT,tT]) (by kernel_rfl)).to (by clear E1 E2;(try simp only [cP,wk,ax,aO,ae,ak,sM] at*);(simp [wk,ax,aO,ae,ak,sM, *];done))
  have LZ:= @cW src
  generalize g12:bA src=Mf at LZ
  let E3:EL:=E2++ [tT,tT,tT,.ret _ _ _ LZ,tT,tF]
  cases Mf
  ·exact (dj (d:= .bool false) (E3++ [tF,tF,tF,tF,tT,tF,tF,tF,tF,tT,tF,tF,tF,tF,tT,tT]) (by kernel_rfl)).to (by clear E1 E2 E3;(try simp only [cP,wk,ax,aO,ae,ak,sM] at*);(simp [wk,ax,aO,ae,ak,sM, *];done))
  have MB:= @cW base
  generalize g15:bA base=Ns at MB
  let E4:EL:=E3++ [tT,tT,tT,.ret _ _ _ MB,tT,tF]
  cases Ns
  ·exact (dj (d:= .bool false) (E4++ [tF,tF,tF,tF,tT,tF,tF,tF,tF,tT,tT]) (by kernel_rfl)).to (by clear E1 E2 E3 E4;(try simp only [cP,wk,ax,aO,ae,ak,sM] at*);(simp [wk,ax,aO,ae,ak,sM, *];done))
  have MS:= @br aa (-2147483648) 2147483647
  let E5:EL:=E4++ [tT,tT,tT,.ret _ _ _ MS,tT,tF]
  rcases ef (decide (aa<(-2147483648))) with h17|h17
  ·exact (dj (d:= .bool false) (E5++Sx 4 (tC (eF (nt (cz (y:=decide (aa≤2147483647)) (bB (-2147483648) h17)))))++ [tC (nt (cz (y:=decide (aa≤2147483647)) (bB (-2147483648) h17))),tT]) (by kernel_rfl)).to (by clear E1 E2 E3 E4 E5;(try simp only [cP,wk,ax,aO,ae,ak,sM] at*);(simp [wk,ax,aO,ae,ak,sM, *];omega))
  rcases ef (decide (aa<2147483648)) with h18|h18
  ·have M9:= @br ai (-2147483648) 2147483647
   let E6:EL:=E5++Sx 3 (tC (eF (nt (aB (bB (-2147483648) h17) (dP 2147483647 h18)))))++ [.ret _ _ _ M9,tC (eF (nt (aB (bB (-2147483648) h17) (dP 2147483647 h18)))),tC (nt (aB (bB (-2147483648) h17) (dP 2147483647 h18)))]
   rcases ef (decide (ai<(-2147483648))) with h20|h20
   ·exact (dj (d:= .bool false) (E6++ [tC (nt (cz (y:=decide (ai≤2147483647)) (bB (-2147483648) h20)))]) (by kernel_rfl)).to (by clear E1 E2 E3 E4 E5 E6;(try simp only [cP,wk,ax,aO,ae,ak,sM] at*);(simp [wk,ax,aO,ae,ak,sM, *];omega))
   rcases ef (decide (ai<2147483648)) with h21|h21
   ·let E7:EL:=E6++ [tC (nt (aB (bB (-2147483648) h20) (dP 2147483647 h21)))]
    by_cases h22:w=32
    ·subst h22
     have NT:= @jL 32
     exact (dj (d:= .bool true) (E7++ [tF,tF,tF,tT,tF,tF,tF,tF,tF,tT,tF,tF,tF,tF,tF,tF,tT,tT,.ret _ _ _ NT]) (by kernel_rfl)).to (by clear E1 E2 E3 E4 E5 E6 E7;(try simp only [cP,wk,ax,aO,ae,ak,sM] at*);(rw [SM];simp [wk,ax,aO,ae,ak,sM, *];grind))
    let E8:EL:=E7++Sx 3 (tC (eF (aw h22)))++ [tC (aw h22)]++Sx 4 (tC (eF (aw h22)))
    by_cases h24:w=8
    ·subst h24
     have P1:= @br ai (-128) 127
     have Oy:= @jL 8
     exact (dj (d:= .bool true) (E8++ [tT,tT,tT,.ret _ _ _ P1,tT,tT,tF,tF,tF,tF,tF,tF,tF,tT,tT,.ret _ _ _ Oy]) (by kernel_rfl)).to (by clear E1 E2 E3 E4 E5 E6 E7 E8;(try simp only [cP,wk,ax,aO,ae,ak,sM] at*);(rw [SM];simp [wk,ax,aO,ae,ak,sM, *];grind))
    have NG:= @jL w
    generalize g29:bu w=r28 at NG
    exact (dj (d:= .bool r28) (E8++Sx 3 (tC (eT (aw h24)))++ [tC (eF (aw h22)),tC (aw h24),tC (aw h22),tF,tF,tF,tF,tF,tF,tT,tT,.ret _ _ _ NG]) (by kernel_rfl)).to (by clear E1 E2 E3 E4 E5 E6 E7 E8;(try simp only [cP,wk,ax,aO,ae,ak,sM] at*);(rw [SM];simp [wk,ax,aO,ae,ak,sM, *];grind))
   exact (dj (d:= .bool false) (E6++ [tC (nt (aB (bB (-2147483648) h20) (dP 2147483647 h21)))]) (by kernel_rfl)).to (by clear E1 E2 E3 E4 E5 E6;(try simp only [cP,wk,ax,aO,ae,ak,sM] at*);(simp [wk,ax,aO,ae,ak,sM, *];omega))
  exact (dj (d:= .bool false) (E5++Sx 4 (tC (eF (nt (aB (bB (-2147483648) h17) (dP 2147483647 h18)))))++ [tC (nt (aB (bB (-2147483648) h17) (dP 2147483647 h18))),tT]) (by kernel_rfl)).to (by clear E1 E2 E3 E4 E5;(try simp only [cP,wk,ax,aO,ae,ak,sM] at*);(simp [wk,ax,aO,ae,ak,sM, *];omega))
 exact (dj (d:= .bool false) (E1++Sx 4 (tC (eF (nt h6)))++ [tC (nt h6),tF,tF,tF,tF,tT,tF,tF,tF,tF,tT,tF,tF,tF,tF,tT,tF,tF,tF,tF,tT,tT]) (by kernel_rfl)).to (by clear E1;(try simp only [cP,wk,ax,aO,ae,ak,sM] at*);(rw [SM];simp [wk,ax,aO,ae,ak,sM, *];grind))
theorem Cw:rU 8:=by
 intro op w dst src base aa ai cc ho h L1
 have c0:= @cj op ho
 rw [eq_of_beq h] at c0
 generalize g2:bp op=r1 at c0
 generalize g4:cI op=r3 at c0
 have c5:= @Dm op w dst src base aa ai cc 8 (rfl:true=true)
 let E1:EL:=([.ret _ _ _ c0]++Sx 4 (tC (eF (nt L1)))++ [.ret _ _ _ c5,tC (eF (nt L1)),tC (eF (nt L1)),.flat _ _ eC,tC (nt L1)])
 rcases ef (ae [.int .i8 0,.int .i8 0,.int .i8 dst,.int .i8 0,.int .i8 0,.int .i64 0,.int .i64 ai,.int .i8 cc] [.int .i8 0,.int .i8 0,.int .i8 0,.int .i8 0,.int .i8 0,.int .i64 0,.int .i64 0,.int .i8 0]) with h6|h6
 ·have c7:= @cW dst
  generalize g9:bA dst=r8 at c7
  let E2:EL:=E1++Sx 3 (tC (eF (nt h6)))++ [.ret _ _ _ c7,tC (eF (nt h6)),tC (nt h6)]
  cases r8
  ·exact (dj (d:= .bool false) (E2++ [tF,tF,tF,tF,tT,tF,tF,tF,tF,tT,tF,tF,tF,tF,tT,tF,tF,tF,tF,tT,tT]) (by kernel_rfl)).to (by clear E1 E2;(try simp only [cP,wk,ax,aO,ae,ak,sM] at*);(simp [wk,ax,aO,ae,ak,sM, *];done))
  have LZ:= @cW src
  generalize g12:bA src=Mf at LZ
  let E3:EL:=E2++ [tT,tT,tT,.ret _ _ _ LZ,tT,tF]
  cases Mf
  ·exact (dj (d:= .bool false) (E3++ [tF,tF,tF,tF,tT,tF,tF,tF,tF,tT,tF,tF,tF,tF,tT,tT]) (by kernel_rfl)).to (by clear E1 E2 E3;(try simp only [cP,wk,ax,aO,ae,ak,sM] at*);(simp [wk,ax,aO,ae,ak,sM, *];done))
  have MB:= @cW base
  generalize g15:bA base=Ns at MB
  let E4:EL:=E3++ [tT,tT,tT,.ret _ _ _ MB,tT,tF]
  cases Ns
  ·exact (dj (d:= .bool false) (E4++ [tF,tF,tF,tF,tT,tF,tF,tF,tF,tT,tT]) (by kernel_rfl)).to (by clear E1 E2 E3 E4;(try simp only [cP,wk,ax,aO,ae,ak,sM] at*);(simp [wk,ax,aO,ae,ak,sM, *];done))
  have MS:= @br aa (-2147483648) 2147483647
  let E5:EL:=E4++ [tT,tT,tT,.ret _ _ _ MS,tT,tF]
  rcases ef (decide (aa<(-2147483648))) with h17|h17
  ·exact (dj (d:= .bool false) (E5++Sx 4 (tC (eF (nt (cz (y:=decide (aa≤2147483647)) (bB (-2147483648) h17)))))++ [tC (nt (cz (y:=decide (aa≤2147483647)) (bB (-2147483648) h17))),tT]) (by kernel_rfl)).to (by clear E1 E2 E3 E4 E5;(try simp only [cP,wk,ax,aO,ae,ak,sM] at*);(simp [wk,ax,aO,ae,ak,sM, *];omega))
  rcases ef (decide (aa<2147483648)) with h18|h18
  ·have M9:= @br ai (-2147483648) 2147483647
   let E6:EL:=E5++Sx 3 (tC (eF (nt (aB (bB (-2147483648) h17) (dP 2147483647 h18)))))++ [.ret _ _ _ M9,tC (eF (nt (aB (bB (-2147483648) h17) (dP 2147483647 h18)))),tC (nt (aB (bB (-2147483648) h17) (dP 2147483647 h18)))]
   rcases ef (decide (ai<(-2147483648))) with h20|h20
   ·exact (dj (d:= .bool false) (E6++ [tC (nt (cz (y:=decide (ai≤2147483647)) (bB (-2147483648) h20)))]) (by kernel_rfl)).to (by clear E1 E2 E3 E4 E5 E6;(try simp only [cP,wk,ax,aO,ae,ak,sM] at*);(simp [wk,ax,aO,ae,ak,sM, *];omega))
   rcases ef (decide (ai<2147483648)) with h21|h21
   ·let E7:EL:=E6++ [tC (nt (aB (bB (-2147483648) h20) (dP 2147483647 h21)))]
    by_cases h22:w=32
    ·subst h22
     have NT:= @jL 32
     exact (dj (d:= .bool true) (E7++ [tF,tF,tF,tT,tF,tF,tF,tF,tF,tT,tF,tF,tF,tF,tF,tF,tF,tT,.ret _ _ _ NT]) (by kernel_rfl)).to (by clear E1 E2 E3 E4 E5 E6 E7;(try simp only [cP,wk,ax,aO,ae,ak,sM] at*);(rw [SM];simp [wk,ax,aO,ae,ak,sM, *];grind))
    let E8:EL:=E7++Sx 3 (tC (eF (aw h22)))++ [tC (aw h22)]++Sx 4 (tC (eF (aw h22)))
    by_cases h24:w=8
    ·subst h24
     have P1:= @br ai (-128) 127
     have Oy:= @jL 8
     exact (dj (d:= .bool true) (E8++ [tT,tT,tT,.ret _ _ _ P1,tT,tT]++Sx 8 tF++ [tT,.ret _ _ _ Oy]) (by kernel_rfl)).to (by clear E1 E2 E3 E4 E5 E6 E7 E8;(try simp only [cP,wk,ax,aO,ae,ak,sM] at*);(rw [SM];simp [wk,ax,aO,ae,ak,sM, *];grind))
    have NG:= @jL w
    generalize g29:bu w=r28 at NG
    exact (dj (d:= .bool r28) (E8++Sx 3 (tC (eT (aw h24)))++ [tC (eF (aw h22)),tC (aw h24),tC (aw h22),tF,tF,tF,tF,tF,tF,tF,tT,.ret _ _ _ NG]) (by kernel_rfl)).to (by clear E1 E2 E3 E4 E5 E6 E7 E8;(try simp only [cP,wk,ax,aO,ae,ak,sM] at*);(rw [SM];simp [wk,ax,aO,ae,ak,sM, *];grind))
   exact (dj (d:= .bool false) (E6++ [tC (nt (aB (bB (-2147483648) h20) (dP 2147483647 h21)))]) (by kernel_rfl)).to (by clear E1 E2 E3 E4 E5 E6;(try simp only [cP,wk,ax,aO,ae,ak,sM] at*);(simp [wk,ax,aO,ae,ak,sM, *];omega))
  exact (dj (d:= .bool false) (E5++Sx 4 (tC (eF (nt (aB (bB (-2147483648) h17) (dP 2147483647 h18)))))++ [tC (nt (aB (bB (-2147483648) h17) (dP 2147483647 h18))),tT]) (by kernel_rfl)).to (by clear E1 E2 E3 E4 E5;(try simp only [cP,wk,ax,aO,ae,ak,sM] at*);(simp [wk,ax,aO,ae,ak,sM, *];omega))
 exact (dj (d:= .bool false) (E1++Sx 4 (tC (eF (nt h6)))++ [tC (nt h6),tF,tF,tF,tF,tT,tF,tF,tF,tF,tT,tF,tF,tF,tF,tT,tF,tF,tF,tF,tT,tT]) (by kernel_rfl)).to (by clear E1;(try simp only [cP,wk,ax,aO,ae,ak,sM] at*);(rw [SM];simp [wk,ax,aO,ae,ak,sM, *];grind))
def rT (Me:Int):Prop:= ∀(op w dst src base aa ai cc:Int) (ho:op≤127) (h:(aA op==Me)=true) (L1:decide (0≤op∧op≤31)=true),aF Tryz.prog 72 ([xD op w dst src base aa ai cc]) (.bool (ct op w dst src base aa ai cc))
theorem Cv:rT 9:=by
 intro op w dst src base aa ai cc ho h L1
 have c0:= @cj op ho
 rw [eq_of_beq h] at c0
 generalize g2:bp op=r1 at c0
 generalize g4:cI op=r3 at c0
 have c5:= @Dl op w dst src base aa ai cc 9 (rfl:true=true)
 let E1:EL:=([.ret _ _ _ c0]++Sx 4 (tC (eF (nt L1)))++ [.ret _ _ _ c5,tC (eF (nt L1)),tC (eF (nt L1)),.flat _ _ eC,tC (nt L1)])
 rcases ef (ae [.int .i8 0,.int .i8 0,.int .i8 dst,.int .i8 src,.int .i8 base,.int .i64 aa,.int .i64 0,.int .i8 cc] [.int .i8 0,.int .i8 0,.int .i8 0,.int .i8 0,.int .i8 0,.int .i64 0,.int .i64 0,.int .i8 0]) with h6|h6
 ·have c7:= @cW dst
  generalize g9:bA dst=r8 at c7
  let E2:EL:=E1++Sx 3 (tC (eF (nt h6)))++ [.ret _ _ _ c7,tC (eF (nt h6)),tC (nt h6)]
  cases r8
  ·exact (dj (d:= .bool false) (E2++ [tF,tF,tF,tF,tT,tF,tF,tF,tF,tT,tF,tF,tF,tF,tT,tF,tF,tF,tF,tT,tT]) (by kernel_rfl)).to (by clear E1 E2;(try simp only [cP,wk,ax,aO,ae,ak,sM] at*);(simp [wk,ax,aO,ae,ak,sM, *];done))
  have LZ:= @cW src
  generalize g12:bA src=Mf at LZ
  let E3:EL:=E2++ [tT,tT,tT,.ret _ _ _ LZ,tT,tF]
  cases Mf
  ·exact (dj (d:= .bool false) (E3++ [tF,tF,tF,tF,tT,tF,tF,tF,tF,tT,tF,tF,tF,tF,tT,tT]) (by kernel_rfl)).to (by clear E1 E2 E3;(try simp only [cP,wk,ax,aO,ae,ak,sM] at*);(simp [wk,ax,aO,ae,ak,sM, *];done))
  have MB:= @cW base
  generalize g15:bA base=Ns at MB
  let E4:EL:=E3++ [tT,tT,tT,.ret _ _ _ MB,tT,tF]
  cases Ns
  ·exact (dj (d:= .bool false) (E4++ [tF,tF,tF,tF,tT,tF,tF,tF,tF,tT,tT]) (by kernel_rfl)).to (by clear E1 E2 E3 E4;(try simp only [cP,wk,ax,aO,ae,ak,sM] at*);(simp [wk,ax,aO,ae,ak,sM, *];done))
  have MS:= @br aa (-2147483648) 2147483647
  let E5:EL:=E4++ [tT,tT,tT,.ret _ _ _ MS,tT,tF]
  rcases ef (decide (aa<(-2147483648))) with h17|h17
  ·exact (dj (d:= .bool false) (E5++Sx 4 (tC (eF (nt (cz (y:=decide (aa≤2147483647)) (bB (-2147483648) h17)))))++ [tC (nt (cz (y:=decide (aa≤2147483647)) (bB (-2147483648) h17))),tT]) (by kernel_rfl)).to (by clear E1 E2 E3 E4 E5;(try simp only [cP,wk,ax,aO,ae,ak,sM] at*);(simp [wk,ax,aO,ae,ak,sM, *];omega))
  rcases ef (decide (aa<2147483648)) with h18|h18
  ·have M9:= @br ai (-2147483648) 2147483647
   let E6:EL:=E5++Sx 3 (tC (eF (nt (aB (bB (-2147483648) h17) (dP 2147483647 h18)))))++ [.ret _ _ _ M9,tC (eF (nt (aB (bB (-2147483648) h17) (dP 2147483647 h18)))),tC (nt (aB (bB (-2147483648) h17) (dP 2147483647 h18)))]
   rcases ef (decide (ai<(-2147483648))) with h20|h20
   ·exact (dj (d:= .bool false) (E6++ [tC (nt (cz (y:=decide (ai≤2147483647)) (bB (-2147483648) h20)))]) (by kernel_rfl)).to (by clear E1 E2 E3 E4 E5 E6;(try simp only [cP,wk,ax,aO,ae,ak,sM] at*);(simp [wk,ax,aO,ae,ak,sM, *];omega))
   rcases ef (decide (ai<2147483648)) with h21|h21
   ·let E7:EL:=E6++ [tC (nt (aB (bB (-2147483648) h20) (dP 2147483647 h21)))]
    by_cases h22:w=32
    ·subst h22
     exact (dj (d:= .bool true) (E7++ [tF,tF,tF,tT,tF,tF,tF,tF,tF,tT]++Sx 8 tF++ [tT]) (by kernel_rfl)).to (by clear E1 E2 E3 E4 E5 E6 E7;(try simp only [cP,wk,ax,aO,ae,ak,sM] at*);(rw [SM];simp [wk,ax,aO,ae,ak,sM, *];grind))
    let E8:EL:=E7++Sx 3 (tC (eF (aw h22)))++ [tC (aw h22)]++Sx 4 (tC (eF (aw h22)))
    by_cases h23:w=8
    ·subst h23
     have OP:= @br ai (-128) 127
     exact (dj (d:= .bool (decide ((-128)≤ai)&&decide (ai≤127))) (E8++ [tT,tT,tT,.ret _ _ _ OP,tT,tT]++Sx 9 tF++ [tT]) (by kernel_rfl)).to (by clear E1 E2 E3 E4 E5 E6 E7 E8;(try simp only [cP,wk,ax,aO,ae,ak,sM] at*);(rw [SM];simp [wk,ax,aO,ae,ak,sM, *];grind))
    exact (dj (d:= .bool false) (E8++Sx 3 (tC (eT (aw h23)))++ [tC (eF (aw h22)),tC (aw h23),tC (aw h22)]++Sx 8 tF++ [tT]) (by kernel_rfl)).to (by clear E1 E2 E3 E4 E5 E6 E7 E8;(try simp only [cP,wk,ax,aO,ae,ak,sM] at*);(simp [wk,ax,aO,ae,ak,sM, *];done))
   exact (dj (d:= .bool false) (E6++ [tC (nt (aB (bB (-2147483648) h20) (dP 2147483647 h21)))]) (by kernel_rfl)).to (by clear E1 E2 E3 E4 E5 E6;(try simp only [cP,wk,ax,aO,ae,ak,sM] at*);(simp [wk,ax,aO,ae,ak,sM, *];omega))
  exact (dj (d:= .bool false) (E5++Sx 4 (tC (eF (nt (aB (bB (-2147483648) h17) (dP 2147483647 h18)))))++ [tC (nt (aB (bB (-2147483648) h17) (dP 2147483647 h18))),tT]) (by kernel_rfl)).to (by clear E1 E2 E3 E4 E5;(try simp only [cP,wk,ax,aO,ae,ak,sM] at*);(simp [wk,ax,aO,ae,ak,sM, *];omega))
 exact (dj (d:= .bool false) (E1++Sx 4 (tC (eF (nt h6)))++ [tC (nt h6),tF,tF,tF,tF,tT,tF,tF,tF,tF,tT,tF,tF,tF,tF,tT,tF,tF,tF,tF,tT,tT]) (by kernel_rfl)).to (by clear E1;(try simp only [cP,wk,ax,aO,ae,ak,sM] at*);(rw [SM];simp [wk,ax,aO,ae,ak,sM, *];grind))
theorem yD:rT 10:=by
 intro op w dst src base aa ai cc ho h L1
 have c0:= @cj op ho
 rw [eq_of_beq h] at c0
 generalize g2:bp op=r1 at c0
 generalize g4:cI op=r3 at c0
 have c5:= @zN op w dst src base aa ai cc 10 (rfl:true=true)
 let E1:EL:=([.ret _ _ _ c0]++Sx 4 (tC (eF (nt L1)))++ [.ret _ _ _ c5,tC (eF (nt L1)),tC (eF (nt L1)),.flat _ _ eC,tC (nt L1)])
 rcases ef (ae [.int .i8 0,.int .i8 0,.int .i8 dst,.int .i8 src,.int .i8 base,.int .i64 aa,.int .i64 0,.int .i8 0] [.int .i8 0,.int .i8 0,.int .i8 0,.int .i8 0,.int .i8 0,.int .i64 0,.int .i64 0,.int .i8 0]) with h6|h6
 ·have c7:= @cW dst
  generalize g9:bA dst=r8 at c7
  let E2:EL:=E1++Sx 3 (tC (eF (nt h6)))++ [.ret _ _ _ c7,tC (eF (nt h6)),tC (nt h6)]
  cases r8
  ·exact (dj (d:= .bool false) (E2++ [tF,tF,tF,tF,tT,tF,tF,tF,tF,tT,tF,tF,tF,tF,tT,tF,tF,tF,tF,tT,tT]) (by kernel_rfl)).to (by clear E1 E2;(try simp only [cP,wk,ax,aO,ae,ak,sM] at*);(simp [wk,ax,aO,ae,ak,sM, *];done))
  have LZ:= @cW src
  generalize g12:bA src=Mf at LZ
  let E3:EL:=E2++ [tT,tT,tT,.ret _ _ _ LZ,tT,tF]
  cases Mf
  ·exact (dj (d:= .bool false) (E3++ [tF,tF,tF,tF,tT,tF,tF,tF,tF,tT,tF,tF,tF,tF,tT,tT]) (by kernel_rfl)).to (by clear E1 E2 E3;(try simp only [cP,wk,ax,aO,ae,ak,sM] at*);(simp [wk,ax,aO,ae,ak,sM, *];done))
  have MB:= @cW base
  generalize g15:bA base=Ns at MB
  let E4:EL:=E3++ [tT,tT,tT,.ret _ _ _ MB,tT,tF]
  cases Ns
  ·exact (dj (d:= .bool false) (E4++ [tF,tF,tF,tF,tT,tF,tF,tF,tF,tT,tT]) (by kernel_rfl)).to (by clear E1 E2 E3 E4;(try simp only [cP,wk,ax,aO,ae,ak,sM] at*);(simp [wk,ax,aO,ae,ak,sM, *];done))
  have MS:= @br aa (-2147483648) 2147483647
  let E5:EL:=E4++ [tT,tT,tT,.ret _ _ _ MS,tT,tF]
  rcases ef (decide (aa<(-2147483648))) with h17|h17
  ·exact (dj (d:= .bool false) (E5++Sx 4 (tC (eF (nt (cz (y:=decide (aa≤2147483647)) (bB (-2147483648) h17)))))++ [tC (nt (cz (y:=decide (aa≤2147483647)) (bB (-2147483648) h17))),tT]) (by kernel_rfl)).to (by clear E1 E2 E3 E4 E5;(try simp only [cP,wk,ax,aO,ae,ak,sM] at*);(simp [wk,ax,aO,ae,ak,sM, *];omega))
  rcases ef (decide (aa<2147483648)) with h18|h18
  ·have M9:= @br ai (-2147483648) 2147483647
   let E6:EL:=E5++Sx 3 (tC (eF (nt (aB (bB (-2147483648) h17) (dP 2147483647 h18)))))++ [.ret _ _ _ M9,tC (eF (nt (aB (bB (-2147483648) h17) (dP 2147483647 h18)))),tC (nt (aB (bB (-2147483648) h17) (dP 2147483647 h18)))]
   rcases ef (decide (ai<(-2147483648))) with h20|h20
   ·exact (dj (d:= .bool false) (E6++ [tC (nt (cz (y:=decide (ai≤2147483647)) (bB (-2147483648) h20)))]) (by kernel_rfl)).to (by clear E1 E2 E3 E4 E5 E6;(try simp only [cP,wk,ax,aO,ae,ak,sM] at*);(simp [wk,ax,aO,ae,ak,sM, *];omega))
   rcases ef (decide (ai<2147483648)) with h21|h21
   ·let E7:EL:=E6++ [tC (nt (aB (bB (-2147483648) h20) (dP 2147483647 h21)))]
    by_cases h22:w=32
    ·subst h22
     have NT:= @pM cc
     generalize g25:fE cc=r24 at NT
     exact (dj (d:= .bool r24) (E7++ [tF,tF,tF,tT,tF,tF,tF,tF,tF,tT]++Sx 9 tF++ [tT,tT,tT,tT,.ret _ _ _ NT,tT]) (by kernel_rfl)).to (by clear E1 E2 E3 E4 E5 E6 E7;(try simp only [cP,wk,ax,aO,ae,ak,sM] at*);(rw [SM];simp [wk,ax,aO,ae,ak,sM, *];grind))
    let E8:EL:=E7++Sx 3 (tC (eF (aw h22)))++ [tC (aw h22)]++Sx 4 (tC (eF (aw h22)))
    by_cases h26:w=8
    ·subst h26
     have NG:= @br ai (-128) 127
     let E9:EL:=E8++ [tT,tT,tT,.ret _ _ _ NG,tT,tT]++Sx 10 tF++ [tT]
     rcases ef (decide (ai<(-128))) with h28|h28
     ·exact (dj (d:= .bool false) (E9++Sx 3 (tC (eT (cz (y:=decide (ai≤127)) (bB (-128) h28))))++ [tC (cz (y:=decide (ai≤127)) (bB (-128) h28))]) (by kernel_rfl)).to (by clear E1 E2 E3 E4 E5 E6 E7 E8 E9;(try simp only [cP,wk,ax,aO,ae,ak,sM] at*);(simp [wk,ax,aO,ae,ak,sM, *];omega))
     rcases ef (decide (ai<128)) with h29|h29
     ·have OU:= @pM cc
      generalize g32:fE cc=r31 at OU
      exact (dj (d:= .bool r31) (E9++Sx 3 (tC (eT (aB (bB (-128) h28) (dP 127 h29))))++ [.ret _ _ _ OU,tC (aB (bB (-128) h28) (dP 127 h29))]) (by kernel_rfl)).to (by clear E1 E2 E3 E4 E5 E6 E7 E8 E9;(try simp only [cP,wk,ax,aO,ae,ak,sM] at*);(rw [SM];simp [wk,ax,aO,ae,ak,sM, *];grind))
     exact (dj (d:= .bool false) (E9++Sx 3 (tC (eT (aB (bB (-128) h28) (dP 127 h29))))++ [tC (aB (bB (-128) h28) (dP 127 h29))]) (by kernel_rfl)).to (by clear E1 E2 E3 E4 E5 E6 E7 E8 E9;(try simp only [cP,wk,ax,aO,ae,ak,sM] at*);(simp [wk,ax,aO,ae,ak,sM, *];omega))
    exact (dj (d:= .bool false) (E8++Sx 3 (tC (eT (aw h26)))++ [tC (eF (aw h22)),tC (aw h26),tC (aw h22)]++Sx 9 tF++ [tT,tF,tF,tF,tF]) (by kernel_rfl)).to (by clear E1 E2 E3 E4 E5 E6 E7 E8;(try simp only [cP,wk,ax,aO,ae,ak,sM] at*);(simp [wk,ax,aO,ae,ak,sM, *];done))
   exact (dj (d:= .bool false) (E6++ [tC (nt (aB (bB (-2147483648) h20) (dP 2147483647 h21)))]) (by kernel_rfl)).to (by clear E1 E2 E3 E4 E5 E6;(try simp only [cP,wk,ax,aO,ae,ak,sM] at*);(simp [wk,ax,aO,ae,ak,sM, *];omega))
  exact (dj (d:= .bool false) (E5++Sx 4 (tC (eF (nt (aB (bB (-2147483648) h17) (dP 2147483647 h18)))))++ [tC (nt (aB (bB (-2147483648) h17) (dP 2147483647 h18))),tT]) (by kernel_rfl)).to (by clear E1 E2 E3 E4 E5;(try simp only [cP,wk,ax,aO,ae,ak,sM] at*);(simp [wk,ax,aO,ae,ak,sM, *];omega))
 exact (dj (d:= .bool false) (E1++Sx 4 (tC (eF (nt h6)))++ [tC (nt h6),tF,tF,tF,tF,tT,tF,tF,tF,tF,tT,tF,tF,tF,tF,tT,tF,tF,tF,tF,tT,tT]) (by kernel_rfl)).to (by clear E1;(try simp only [cP,wk,ax,aO,ae,ak,sM] at*);(rw [SM];simp [wk,ax,aO,ae,ak,sM, *];grind))
theorem yC:rT 11:=by
 intro op w dst src base aa ai cc ho h L1
 have c0:= @cj op ho
 rw [eq_of_beq h] at c0
 generalize g2:bp op=r1 at c0
 generalize g4:cI op=r3 at c0
 have c5:= @zM op w dst src base aa ai cc 11 (rfl:true=true)
 let E1:EL:=([.ret _ _ _ c0]++Sx 4 (tC (eF (nt L1)))++ [.ret _ _ _ c5,tC (eF (nt L1)),tC (eF (nt L1)),.flat _ _ eC,tC (nt L1)])
 rcases ef (ae [.int .i8 0,.int .i8 w,.int .i8 dst,.int .i8 src,.int .i8 base,.int .i64 aa,.int .i64 ai,.int .i8 cc] [.int .i8 0,.int .i8 0,.int .i8 0,.int .i8 0,.int .i8 0,.int .i64 0,.int .i64 0,.int .i8 0]) with h6|h6
 ·have c7:= @cW dst
  generalize g9:bA dst=r8 at c7
  let E2:EL:=E1++Sx 3 (tC (eF (nt h6)))++ [.ret _ _ _ c7,tC (eF (nt h6)),tC (nt h6)]
  cases r8
  ·exact (dj (d:= .bool false) (E2++ [tF,tF,tF,tF,tT,tF,tF,tF,tF,tT,tF,tF,tF,tF,tT,tF,tF,tF,tF,tT,tT]) (by kernel_rfl)).to (by clear E1 E2;(try simp only [cP,wk,ax,aO,ae,ak,sM] at*);(simp [wk,ax,aO,ae,ak,sM, *];done))
  have LZ:= @cW src
  generalize g12:bA src=Mf at LZ
  let E3:EL:=E2++ [tT,tT,tT,.ret _ _ _ LZ,tT,tF]
  cases Mf
  ·exact (dj (d:= .bool false) (E3++ [tF,tF,tF,tF,tT,tF,tF,tF,tF,tT,tF,tF,tF,tF,tT,tT]) (by kernel_rfl)).to (by clear E1 E2 E3;(try simp only [cP,wk,ax,aO,ae,ak,sM] at*);(simp [wk,ax,aO,ae,ak,sM, *];done))
  have MB:= @cW base
  generalize g15:bA base=Ns at MB
  let E4:EL:=E3++ [tT,tT,tT,.ret _ _ _ MB,tT,tF]
  cases Ns
  ·exact (dj (d:= .bool false) (E4++ [tF,tF,tF,tF,tT,tF,tF,tF,tF,tT,tT]) (by kernel_rfl)).to (by clear E1 E2 E3 E4;(try simp only [cP,wk,ax,aO,ae,ak,sM] at*);(simp [wk,ax,aO,ae,ak,sM, *];done))
  have MS:= @br aa (-2147483648) 2147483647
  let E5:EL:=E4++ [tT,tT,tT,.ret _ _ _ MS,tT,tF]
  rcases ef (decide (aa<(-2147483648))) with h17|h17
  ·exact (dj (d:= .bool false) (E5++Sx 4 (tC (eF (nt (cz (y:=decide (aa≤2147483647)) (bB (-2147483648) h17)))))++ [tC (nt (cz (y:=decide (aa≤2147483647)) (bB (-2147483648) h17))),tT]) (by kernel_rfl)).to (by clear E1 E2 E3 E4 E5;(try simp only [cP,wk,ax,aO,ae,ak,sM] at*);(simp [wk,ax,aO,ae,ak,sM, *];omega))
  rcases ef (decide (aa<2147483648)) with h18|h18
  ·have M9:= @br ai (-2147483648) 2147483647
   let E6:EL:=E5++Sx 3 (tC (eF (nt (aB (bB (-2147483648) h17) (dP 2147483647 h18)))))++ [.ret _ _ _ M9,tC (eF (nt (aB (bB (-2147483648) h17) (dP 2147483647 h18)))),tC (nt (aB (bB (-2147483648) h17) (dP 2147483647 h18)))]
   rcases ef (decide (ai<(-2147483648))) with h20|h20
   ·exact (dj (d:= .bool false) (E6++ [tC (nt (cz (y:=decide (ai≤2147483647)) (bB (-2147483648) h20)))]) (by kernel_rfl)).to (by clear E1 E2 E3 E4 E5 E6;(try simp only [cP,wk,ax,aO,ae,ak,sM] at*);(simp [wk,ax,aO,ae,ak,sM, *];omega))
   rcases ef (decide (ai<2147483648)) with h21|h21
   ·let E7:EL:=E6++ [tC (nt (aB (bB (-2147483648) h20) (dP 2147483647 h21)))]
    by_cases h22:w=32
    ·subst h22
     exact (dj (d:= .bool true) (E7++ [tF,tF,tF,tT,tF,tF,tF,tF,tF,tT]++Sx 10 tF) (by kernel_rfl)).to (by clear E1 E2 E3 E4 E5 E6 E7;(try simp only [cP,wk,ax,aO,ae,ak,sM] at*);(rw [SM];simp [wk,ax,aO,ae,ak,sM, *];grind))
    let E8:EL:=E7++Sx 3 (tC (eF (aw h22)))++ [tC (aw h22)]++Sx 4 (tC (eF (aw h22)))
    by_cases h23:w=8
    ·subst h23
     have OP:= @br ai (-128) 127
     exact (dj (d:= .bool true) (E8++ [tT,tT,tT,.ret _ _ _ OP,tT,tT]++Sx 11 tF) (by kernel_rfl)).to (by clear E1 E2 E3 E4 E5 E6 E7 E8;(try simp only [cP,wk,ax,aO,ae,ak,sM] at*);(rw [SM];simp [wk,ax,aO,ae,ak,sM, *];grind))
    exact (dj (d:= .bool true) (E8++Sx 3 (tC (eT (aw h23)))++ [tC (eF (aw h22)),tC (aw h23),tC (aw h22)]++Sx 10 tF) (by kernel_rfl)).to (by clear E1 E2 E3 E4 E5 E6 E7 E8;(try simp only [cP,wk,ax,aO,ae,ak,sM] at*);(rw [SM];simp [wk,ax,aO,ae,ak,sM, *];grind))
   exact (dj (d:= .bool false) (E6++ [tC (nt (aB (bB (-2147483648) h20) (dP 2147483647 h21)))]) (by kernel_rfl)).to (by clear E1 E2 E3 E4 E5 E6;(try simp only [cP,wk,ax,aO,ae,ak,sM] at*);(simp [wk,ax,aO,ae,ak,sM, *];omega))
  exact (dj (d:= .bool false) (E5++Sx 4 (tC (eF (nt (aB (bB (-2147483648) h17) (dP 2147483647 h18)))))++ [tC (nt (aB (bB (-2147483648) h17) (dP 2147483647 h18))),tT]) (by kernel_rfl)).to (by clear E1 E2 E3 E4 E5;(try simp only [cP,wk,ax,aO,ae,ak,sM] at*);(simp [wk,ax,aO,ae,ak,sM, *];omega))
 exact (dj (d:= .bool false) (E1++Sx 4 (tC (eF (nt h6)))++ [tC (nt h6),tF,tF,tF,tF,tT,tF,tF,tF,tF,tT,tF,tF,tF,tF,tT,tF,tF,tF,tF,tT,tT]) (by kernel_rfl)).to (by clear E1;(try simp only [cP,wk,ax,aO,ae,ak,sM] at*);(rw [SM];simp [wk,ax,aO,ae,ak,sM, *];grind))
theorem jn:∀n:Fin 32,aA (n.val:Int)=1∨aA (n.val:Int)=2∨aA (n.val:Int)=3∨aA (n.val:Int)=4∨aA (n.val:Int)=5∨aA (n.val:Int)=6∨aA (n.val:Int)=7∨aA (n.val:Int)=8∨aA (n.val:Int)=9∨aA (n.val:Int)=10∨aA (n.val:Int)=11:=by decide+kernel
theorem aK (op w dst src base aa ai cc:Int) (ho:op≤127):aF Tryz.prog 72 [xD op w dst src base aa ai cc] (.bool (ct op w dst src base aa ai cc)):=by
 by_cases L1:0≤op∧op≤31
 ·have e:op=(((⟨op.toNat,by omega⟩:Fin 32).val:Nat):Int):=by simp;omega
  have hr:=jn ⟨op.toNat,by omega⟩
  rw [← e] at hr
  have NK:decide (0≤op∧op≤31)=true:=decide_eq_true L1
  rcases hr with h|h|h|h|h|h|h|h|h|h|h
  ·exact CD _ _ _ _ _ _ _ _ ho (by rw [h];rfl) NK
  ·exact CC _ _ _ _ _ _ _ _ ho (by rw [h];rfl) NK
  ·exact CB _ _ _ _ _ _ _ _ ho (by rw [h];rfl) NK
  ·exact CA _ _ _ _ _ _ _ _ ho (by rw [h];rfl) NK
  ·exact Cz _ _ _ _ _ _ _ _ ho (by rw [h];rfl) NK
  ·exact Cy _ _ _ _ _ _ _ _ ho (by rw [h];rfl) NK
  ·exact Cx _ _ _ _ _ _ _ _ ho (by rw [h];rfl) NK
  ·exact Cw _ _ _ _ _ _ _ _ ho (by rw [h];rfl) NK
  ·exact Cv _ _ _ _ _ _ _ _ ho (by rw [h];rfl) NK
  ·exact yD _ _ _ _ _ _ _ _ ho (by rw [h];rfl) NK
  ·exact yC _ _ _ _ _ _ _ _ ho (by rw [h];rfl) NK
 ·exact CE _ _ _ _ _ _ _ _ ho (by rw [(mA (op:=op) (by omega)).1];rfl) (decide_eq_false L1)
theorem cL (r:Int):aF Tryz.prog 136 ([.int .i8 r]) (.bool (bA r)):=by
 rcases ef (decide (r<0)) with h0|h0
 ·exact (Jx (d:= .bool false) [tC (eT (bB 0 h0)),tC (eT (bB 0 h0)),tC (bB 0 h0)] (by kernel_rfl)).to (by (try simp only [cP,wk,ax,aO,ae,ak,bA] at*);first|(simp [wk,ax,aO,ae,ak,bA, *];done)|(simp [wk,ax,aO,ae,ak,bA, *];omega)|(rw [SM];simp [wk,ax,aO,ae,ak,bA, *];done)|(rw [SM];simp [wk,ax,aO,ae,ak,bA, *];omega)|(rw [SM];simp [wk,ax,aO,ae,ak,bA, *];grind)|(subst_vars;rw [SM];simp;grind))
 exact (Jx (d:= .bool (decide (r<16))) [tC (eT (bB 0 h0)),tC (eT (bB 0 h0)),tC (bB 0 h0)] (by kernel_rfl)).to (by (try simp only [cP,wk,ax,aO,ae,ak,bA] at*);first|(simp [wk,ax,aO,ae,ak,bA, *];done)|(simp [wk,ax,aO,ae,ak,bA, *];omega)|(rw [SM];simp [wk,ax,aO,ae,ak,bA, *];done)|(rw [SM];simp [wk,ax,aO,ae,ak,bA, *];omega)|(rw [SM];simp [wk,ax,aO,ae,ak,bA, *];grind)|(subst_vars;rw [SM];simp;grind))
theorem sT (r:Int) (r0:0≤r) (r1:r≤15):aF Tryz.prog 137 ([.int .i8 r,.int .u64 0]) (.int .u8 (r / 8)):=by
 exact (Jw (d:= .int .u8 (T8.wrap T8.u8 (T8.wrap T8.u8 (↑(SF (Sy (8:Nat) (Int.fdiv (T8.wrap T8.u8 r) 8)&&&Sy (8:Nat) 1)):Int)*1))) [tT] (by kernel_rfl)).to (by simp only [wk,D.int.injEq,true_and];obtain ⟨n,rfl⟩:=gY r0 r1;clear r0 r1;revert n;decide+kernel)
theorem sS (r:Int) (r0:0≤r) (r1:r≤15):aF Tryz.prog 137 ([.int .i8 r,.int .u64 2]) (.int .u8 (4*(r / 8))):=by
 exact (Jw (d:= .int .u8 (T8.wrap T8.u8 (T8.wrap T8.u8 (↑(SF (Sy (8:Nat) (Int.fdiv (T8.wrap T8.u8 r) 8)&&&Sy (8:Nat) 1)):Int)*4))) [tT] (by kernel_rfl)).to (by simp only [wk,D.int.injEq,true_and];obtain ⟨n,rfl⟩:=gY r0 r1;clear r0 r1;revert n;decide+kernel)
theorem yz (r m:Int) (r0:0≤r) (r1:r≤15) (m0:0≤m) (m1:m≤15):aF Tryz.prog 138 ([.int .u8 192,.int .i8 r,.int .i8 m]) (.int .u8 (b8 r m)):=by
 exact (Jv (d:= .int .u8 (T8.wrap T8.u8 (↑(SF (Sy (8:Nat) (T8.wrap T8.u8 (↑(SF (Sy (8:Nat) 192|||Sy (8:Nat) (T8.wrap T8.u8 (T8.wrap T8.u8 (↑(SF (Sy (8:Nat) (T8.wrap T8.u8 r)&&&Sy (8:Nat) 7)):Int)*8)))):Int))|||Sy (8:Nat) (T8.wrap T8.u8 (↑(SF (Sy (8:Nat) (T8.wrap T8.u8 m)&&&Sy (8:Nat) 7)):Int)))):Int))) [] (by kernel_rfl)).to (by simp only [wk,D.int.injEq,true_and];obtain ⟨n,rfl⟩:=gY r0 r1;obtain ⟨k,rfl⟩:=gY m0 m1;clear r0 r1 m0 m1;revert n k;decide+kernel)
theorem qG (r m:Int) (r0:0≤r) (r1:r≤15) (m0:0≤m) (m1:m≤15):aF Tryz.prog 138 ([.int .u8 128,.int .i8 r,.int .i8 m]) (.int .u8 (128+8*(r%8)+m%8)):=by
 exact (Jv (d:= .int .u8 (T8.wrap T8.u8 (↑(SF (Sy (8:Nat) (T8.wrap T8.u8 (↑(SF (Sy (8:Nat) 128|||Sy (8:Nat) (T8.wrap T8.u8 (T8.wrap T8.u8 (↑(SF (Sy (8:Nat) (T8.wrap T8.u8 r)&&&Sy (8:Nat) 7)):Int)*8)))):Int))|||Sy (8:Nat) (T8.wrap T8.u8 (↑(SF (Sy (8:Nat) (T8.wrap T8.u8 m)&&&Sy (8:Nat) 7)):Int)))):Int))) [] (by kernel_rfl)).to (by simp only [wk,D.int.injEq,true_and];obtain ⟨n,rfl⟩:=gY r0 r1;obtain ⟨k,rfl⟩:=gY m0 m1;clear r0 r1 m0 m1;revert n k;decide+kernel)
theorem wQ (r m:Int) (r0:0≤r) (r1:r≤15) (m0:0≤m) (m1:m≤15) (hn:decide (8≤r∨8≤m)=true):aF Tryz.prog 104 ([.int .i8 r,.int .i8 m]) (.bool true):=by
 have c0:= @cL r
 rw [show (bA r)=true from (@fF r r0 r1)] at c0
 have c1:= @cL m
 rw [show (bA m)=true from (@fF m m0 m1)] at c1
 exact (JA (d:= .bool (T8.wrap T8.i8 (↑(SF (Sy (8:Nat) (T8.wrap T8.i8 (↑(SF (Sy (8:Nat) r|||Sy (8:Nat) m)):Int))&&&Sy (8:Nat) 8)):Int) !=0)) [.ret _ _ _ c0,tT,tT,.ret _ _ _ c1,tT,tT,tT,tT,tT,tT,tT] (by kernel_rfl)).to (by simp only [wk,D.bool.injEq];rw [AA r0 r1 m0 m1];exact hn)
theorem wR (r m:Int) (r0:0≤r) (r1:r≤15) (m0:0≤m) (m1:m≤15) (hn:decide (8≤r∨8≤m)=false):aF Tryz.prog 104 ([.int .i8 r,.int .i8 m]) (.bool false):=by
 have c0:= @cL r
 rw [show (bA r)=true from (@fF r r0 r1)] at c0
 have c1:= @cL m
 rw [show (bA m)=true from (@fF m m0 m1)] at c1
 exact (JA (d:= .bool (T8.wrap T8.i8 (↑(SF (Sy (8:Nat) (T8.wrap T8.i8 (↑(SF (Sy (8:Nat) r|||Sy (8:Nat) m)):Int))&&&Sy (8:Nat) 8)):Int) !=0)) [.ret _ _ _ c0,tT,tT,.ret _ _ _ c1,tT,tT,tT,tT,tT,tT,tT] (by kernel_rfl)).to (by simp only [wk,D.bool.injEq];rw [AA r0 r1 m0 m1];exact hn)
open Go Go.RowKit Go.Ev
set_option maxHeartbeats 4000000 in
theorem Cp (v:Int) (h0: -2147483648≤v) (h1:v≤2147483647) (w:World):
  Calls Tryz.prog 139 #[.int .i64 v,.int .i64 4] w fun e w'=>e= .returned (.tuple #[.slice (some ⟨w.heap.size,0,none⟩) 4 4,.int .i64 0])∧
   w'=w.alloc (.cells #[.int .u8 (v%256),.int .u8 (v / 256%256),.int .u8 (v / 65536%256),.int .u8 (v / 16777216%256)] 5):=by
 have Nx:∀w,(Instr.makeSlice 22 (.int .i64 4) (.int .i64 4)).run Tryz.prog w= .ok (.slice (some ⟨w.heap.size,0,none⟩) 4 4) (w.alloc (.cells #[.int .u8 0,.int .u8 0,.int .u8 0,.int .u8 0] 5)):=fun _=>by kernel_rfl
 go_enter Tryz.func139,Tryz.ntmps139
 go_wp2
 refine wp_loop_rounds 5 ?_
 rw [rounds_succ];go_wp2
 rw [rounds_succ];go_wp2
 rw [rounds_succ];go_wp2
 rw [rounds_succ];go_wp2
 rw [rounds_succ];go_wp2
 go_ret2
 exact ⟨rfl,rfl⟩
theorem CY {C:Nat→Nat→Option Value} {w:World} (hC:∀b o v,C b o=some v→w.cell? ⟨b,o,none⟩=some v) (cells:Array Value) (ty:TypeId):
  Ext (eY C) w (eY fun b o=>if b=w.heap.size then cells[o]? else C b o) (w.alloc (.cells cells ty)):=by
 have LN:∀b o v,C b o=some v→b<w.heap.size:=fun b o v h=>World.block_lt_of_cell? w _ (hC b o v h)
 refine ⟨(Below.refl _ _).alloc (Nat.le_refl _) _,?_,?_,?_⟩
 ·intro b o v h
  have:=LN b o v h
  show (if b=w.heap.size then cells[o]? else C b o)=some v
  rw [if_neg (by omega)]
  exact h
 ·intro b o v h hb
  have h':(if b=w.heap.size then cells[o]? else C b o)=some v:=h
  rw [if_neg (by omega)] at h'
  exact h'
 ·intro b o v h
  have h':(if b=w.heap.size then cells[o]? else C b o)=some v:=h
  split at h'
  ·rename_i e
   subst e
   have hh:(w.alloc (.cells cells ty)).heap[w.heap.size]? =some (.cells cells ty):=by
    show (w.heap.push _)[w.heap.size]? =_
    simp
   simp only [World.cell?,hh]
   exact h'
  ·have hb:=LN b o v h'
   rw [World.cell?_alloc_lt _ _ _ hb]
   exact hC b o v h'
theorem Gt {C:Nat→Nat→Option Value} {b:Nat} {k:T8} (xs:List Int) (cells:Array Value) (hc:cells=(xs.map fun n=>Value.int k n).toArray):
  bk (eY fun b' o=>if b'=b then cells[o]? else C b' o) (.aj .tight 1 (xs.map fun n=> .int k n)) (.slice (some ⟨b,0,none⟩) xs.length xs.length):=by
 subst hc
 have key:∀(i:Nat) (x:D) (cs:List D) (j:Nat) (c:D),(xs.map fun n=>D.int k n)[i]? =some x→x.cells=some cs→cs[j]? =some c→∃n,xs[i]? =some n∧c= .int k n∧j=0:=by
  intro i x cs j c h1 h2 h3
  rw [SW,Option.map_eq_some_iff] at h1
  obtain ⟨n,hn,rfl⟩:=h1
  simp only [D.cells,Option.some.injEq] at h2
  subst h2
  cases j with
  |zero=>simp at h3;exact ⟨n,hn,h3.symm,rfl⟩
  |succ j=>simp at h3
 refine .aj b 0 (fun i _=> .int k (xs.getD i 0)) (by simp) (Nat.le_refl _) (fun _=>rfl) ?_ ?_ ?_ ?_ rfl
 ·intro i x hx
  rw [SW,Option.map_eq_some_iff] at hx
  obtain ⟨n,hn,rfl⟩:=hx
  exact ⟨[.int k n],rfl,rfl⟩
 ·intro i x cs j c h1 h2 h3
  obtain ⟨n,hn,rfl,rfl⟩:=key i x cs j c h1 h2 h3
  simp [eY,hn]
 ·intro i x cs j c h1 h2 h3
  obtain ⟨n,hn,rfl,rfl⟩:=key i x cs j c h1 h2 h3
  simp only [List.getD_eq_getElem?_getD,hn,Option.getD_some]
  exact .int k n
 ·intro i x cs c h1 h2 h3
  rw [SW,Option.map_eq_some_iff] at h1
  obtain ⟨n,hn,rfl⟩:=h1
  simp only [D.cells,Option.some.injEq] at h2
  subst h2
  simp at h3
  subst h3
  rfl
theorem Ax (v:Int) (h0: -2147483648≤v) (h1:v≤2147483647):aF Tryz.prog 139 [.int .i64 v,.int .i64 4] (.aC [.aj .tight 1 [.int .u8 (v%256),.int .u8 (v / 256%256),.int .u8 (v / 65536%256),.int .u8 (v / 16777216%256)],.int .i64 0]):=by
 refine ⟨⟨_,_,Tryz.func139,rfl,by kernel_rfl⟩,fun w C vs hC ha=> ?_⟩
 obtain ⟨hl,hr⟩:=ha
 obtain ⟨a,b,rfl⟩:∃a b,vs= #[a,b]:=by
  rcases vs with ⟨l⟩
  match l,hl with
  | [a,b],_=>exact ⟨a,b,rfl⟩
 have ra:=hr 0 _ a rfl rfl
 have rb:=hr 1 _ b rfl rfl
 cases ra
 cases rb
 refine Calls.mono (Cp v h0 h1 w) ?_
 rintro e w' ⟨rfl,rfl⟩
 have rl:=Gt (C:=C) (b:=w.heap.size) (k:= .u8) [v%256,v / 256%256,v / 65536%256,v / 16777216%256] _ rfl
 refine ⟨_,_,rfl,CY hC _ _,.aC rfl ?_,?_⟩
 ·intro i d u p q
  match i,p,q with
  |0,p,q=>simp at p q;subst p q;exact rl
  |1,p,q=>simp at p q;subst p q;exact .int _ _
 ·refine ⟨fun sz L4 xs h=>(by cases h),?_⟩
  intro ds vs hd hv i sz L4 xs hi
  simp only [D.aC.injEq] at hd
  subst hd
  match i,hi with
  |0,hi=>simp at hi
  |1,hi=>simp at hi
theorem om (r m:Int) (r0:0≤r) (r1:r≤15) (m0:0≤m) (m1:m≤15):aF Tryz.prog 105 ([.bool false,.int .i8 r,.int .i8 m]) (.aC [.int .u8 (fw false r m),.int .i64 0]):=by
 have c0:= @cL r
 rw [show (bA r)=true from (@fF r r0 r1)] at c0
 have c1:= @cL m
 rw [show (bA m)=true from (@fF m m0 m1)] at c1
 have c2:= @sS r r0 r1
 have c3:= @sT m m0 m1
 exact (Jz (d:= .aC [.int .u8 (T8.wrap T8.u8 (↑(SF (Sy (8:Nat) (T8.wrap T8.u8 (↑(SF (Sy (8:Nat) 64|||Sy (8:Nat) (4*(r / 8)))):Int))|||Sy (8:Nat) (m / 8))):Int)),.int .i64 0]) [.ret _ _ _ c0,tT,tT,.ret _ _ _ c1,tT,tF,tF,.ret _ _ _ c2,.ret _ _ _ c3,tF] (by kernel_rfl)).to (by simp only [wk,ax,D.int.injEq,true_and,and_true];exact D2 r0 r1 m0 m1)
theorem sV (r m:Int) (r0:0≤r) (r1:r≤15) (m0:0≤m) (m1:m≤15):aF Tryz.prog 105 ([.bool true,.int .i8 r,.int .i8 m]) (.aC [.int .u8 (fw true r m),.int .i64 0]):=by
 have c0:= @cL r
 rw [show (bA r)=true from (@fF r r0 r1)] at c0
 have c1:= @cL m
 rw [show (bA m)=true from (@fF m m0 m1)] at c1
 have c2:= @sS r r0 r1
 have c3:= @sT m m0 m1
 exact (Jz (d:= .aC [.int .u8 (T8.wrap T8.u8 (↑(SF (Sy (8:Nat) (T8.wrap T8.u8 (↑(SF (Sy (8:Nat) (T8.wrap T8.u8 (↑(SF (Sy (8:Nat) 64|||Sy (8:Nat) (4*(r / 8)))):Int))|||Sy (8:Nat) (m / 8))):Int))|||Sy (8:Nat) 8)):Int)),.int .i64 0]) [.ret _ _ _ c0,tT,tT,.ret _ _ _ c1,tT,tF,tF,.ret _ _ _ c2,.ret _ _ _ c3,tT] (by kernel_rfl)).to (by simp only [wk,ax,D.int.injEq,true_and,and_true];exact D1 r0 r1 m0 m1)
theorem Fa (r m:Int) (r0:0≤r) (r1:r≤15) (m0:0≤m) (m1:m≤15):aF Tryz.prog 106 ([.int .i8 r,.int .i8 m]) (.aC [.aj .tight 1 [.int .u8 (b8 r m)],.int .i64 0]):=by
 have c0:= @cL r
 rw [show (bA r)=true from (@fF r r0 r1)] at c0
 have c1:= @cL m
 rw [show (bA m)=true from (@fF m m0 m1)] at c1
 have c2:= @yz r m r0 r1 m0 m1
 generalize g4:b8 r m=r3 at c2
 exact (Ky (d:= .aC [.aj .tight 1 [.int .u8 r3],.int .i64 0]) [.ret _ _ _ c0,tT,tT,.ret _ _ _ c1,tT,tF,tF,.ret _ _ _ c2] (by kernel_rfl)).to (by subst_vars;simp [wk,ax,aO])
theorem eW (r b aa:Int) (r0:0≤r) (r1:r≤15) (m0:0≤b) (m1:b≤15) (h0: -2147483648≤aa) (h1:aa≤2147483647) (hb:decide (b%8=4)=true):aF Tryz.prog 108 ([.int .i8 r,.int .i8 b,.int .i64 aa]) (.aC [.aj .no 1 [.int .u8 (128+8*(r%8)+b%8),.int .u8 36,.int .u8 (aa%256),.int .u8 (aa / 256%256),.int .u8 (aa / 65536%256),.int .u8 (aa / 16777216%256)],.int .i64 0]):=by
 have c0:= @Ax aa h0 h1
 have c1:= @cL r
 rw [show (bA r)=true from (@fF r r0 r1)] at c1
 have c2:= @cL b
 rw [show (bA b)=true from (@fF b m0 m1)] at c2
 have c3:= @qG r b r0 r1 m0 m1
 exact (Jy (d:= .aC [.aj (.fresh 1) 1 [.int .u8 (128+8*(r%8)+b%8),.int .u8 36,.int .u8 (aa%256),.int .u8 (aa / 256%256),.int .u8 (aa / 65536%256),.int .u8 (aa / 16777216%256)],.int .i64 0]) [.ret _ _ _ c0,tT,tT,.ret _ _ _ c1,tT,tF,tT,tT,.ret _ _ _ c2,tT,tF,tF,tC (dx 4 true (eq_of_beq (@Jj b hb))),.ret _ _ _ c3,.inl,.go 64,tT,tT,.get ([.aj .tight 1 [.int .u8 (128+8*(r%8)+b%8)],.aj .tight 1 [.int .u8 36],.aj .tight 1 [.int .u8 (aa%256),.int .u8 (aa / 256%256),.int .u8 (aa / 65536%256),.int .u8 (aa / 16777216%256)]]) 0 (.aj .tight 1 [.int .u8 (128+8*(r%8)+b%8)]) rfl,.len 1 2147483648 (by decide),tT,tT,.get ([.aj .tight 1 [.int .u8 (128+8*(r%8)+b%8)],.aj .tight 1 [.int .u8 36],.aj .tight 1 [.int .u8 (aa%256),.int .u8 (aa / 256%256),.int .u8 (aa / 65536%256),.int .u8 (aa / 16777216%256)]]) 1 (.aj .tight 1 [.int .u8 36]) rfl,.len 2 2147483648 (by decide),tT,tT,.get ([.aj .tight 1 [.int .u8 (128+8*(r%8)+b%8)],.aj .tight 1 [.int .u8 36],.aj .tight 1 [.int .u8 (aa%256),.int .u8 (aa / 256%256),.int .u8 (aa / 65536%256),.int .u8 (aa / 16777216%256)]]) 2 (.aj .tight 1 [.int .u8 (aa%256),.int .u8 (aa / 256%256),.int .u8 (aa / 65536%256),.int .u8 (aa / 16777216%256)]) rfl,.len 6 2147483648 (by decide),tF] (by kernel_rfl)).to (by subst_vars;simp [wk,ax,aO])
theorem eV (r b aa:Int) (r0:0≤r) (r1:r≤15) (m0:0≤b) (m1:b≤15) (h0: -2147483648≤aa) (h1:aa≤2147483647) (hb:decide (b%8=4)=false):aF Tryz.prog 108 ([.int .i8 r,.int .i8 b,.int .i64 aa]) (.aC [.aj .no 1 [.int .u8 (128+8*(r%8)+b%8),.int .u8 (aa%256),.int .u8 (aa / 256%256),.int .u8 (aa / 65536%256),.int .u8 (aa / 16777216%256)],.int .i64 0]):=by
 have c0:= @Ax aa h0 h1
 have c1:= @cL r
 rw [show (bA r)=true from (@fF r r0 r1)] at c1
 have c2:= @cL b
 rw [show (bA b)=true from (@fF b m0 m1)] at c2
 have c3:= @qG r b r0 r1 m0 m1
 exact (Jy (d:= .aC [.aj (.fresh 1) 1 [.int .u8 (128+8*(r%8)+b%8),.int .u8 (aa%256),.int .u8 (aa / 256%256),.int .u8 (aa / 65536%256),.int .u8 (aa / 16777216%256)],.int .i64 0]) [.ret _ _ _ c0,tT,tT,.ret _ _ _ c1,tT,tF,tT,tT,.ret _ _ _ c2,tT,tF,tF,tC (@Jk b hb),.ret _ _ _ c3,.inl,.go 64,tT,tT,.get ([.aj .tight 1 [.int .u8 (128+8*(r%8)+b%8)],.aj .tight 0 [],.aj .tight 1 [.int .u8 (aa%256),.int .u8 (aa / 256%256),.int .u8 (aa / 65536%256),.int .u8 (aa / 16777216%256)]]) 0 (.aj .tight 1 [.int .u8 (128+8*(r%8)+b%8)]) rfl,.len 1 2147483648 (by decide),tT,tT,.get ([.aj .tight 1 [.int .u8 (128+8*(r%8)+b%8)],.aj .tight 0 [],.aj .tight 1 [.int .u8 (aa%256),.int .u8 (aa / 256%256),.int .u8 (aa / 65536%256),.int .u8 (aa / 16777216%256)]]) 1 (.aj .tight 0 []) rfl,.len 1 2147483648 (by decide),tT,tT,.get ([.aj .tight 1 [.int .u8 (128+8*(r%8)+b%8)],.aj .tight 0 [],.aj .tight 1 [.int .u8 (aa%256),.int .u8 (aa / 256%256),.int .u8 (aa / 65536%256),.int .u8 (aa / 16777216%256)]]) 2 (.aj .tight 1 [.int .u8 (aa%256),.int .u8 (aa / 256%256),.int .u8 (aa / 65536%256),.int .u8 (aa / 16777216%256)]) rfl,.len 5 2147483648 (by decide),tF] (by kernel_rfl)).to (by subst_vars;simp [wk,ax,aO])
theorem eG (r m:Int) (r0:0≤r) (r1:r≤15) (m0:0≤m) (m1:m≤15) (wide al:Bool) (hn:dN wide r m al=false):aF Tryz.prog 75 ([.bool wide,.int .i8 r,.int .i8 m,.bool al]) (.aj .tight 1 []):=by
 cases wide
 ·cases al
  ·have c0:= @wR r m r0 r1 m0 m1 hn
   exact (Jc (d:= .aj .tight 0 []) [tT,tT,tT,tT,tT,tT,.ret _ _ _ c0,tT,tT,tT] (by kernel_rfl)).to (by first|(simp [wk,ax,aO];done)|(exfalso;simp [dN] at hn))
  have c1:= @om r m r0 r1 m0 m1
  generalize g3:fw false r m=r2 at c1
  exact (Jc (d:= .aj .tight 1 [.int .u8 r2]) [tT,tT,tT,tF,tF,tF,tF,tF,tF,.ret _ _ _ c1] (by kernel_rfl)).to (by first|(simp [wk,ax,aO];done)|(exfalso;simp [dN] at hn))
 have c4:= @sV r m r0 r1 m0 m1
 generalize g6:fw true r m=r5 at c4
 exact (Jc (d:= .aj .tight 1 [.int .u8 r5]) (Sx 9 tF++ [.ret _ _ _ c4]) (by kernel_rfl)).to (by first|(simp [wk,ax,aO];done)|(exfalso;simp [dN] at hn))
theorem du (r m:Int) (r0:0≤r) (r1:r≤15) (m0:0≤m) (m1:m≤15) (wide al:Bool) (hn:dN wide r m al=true):aF Tryz.prog 75 ([.bool wide,.int .i8 r,.int .i8 m,.bool al]) (.aj .tight 1 [.int .u8 (fw wide r m)]):=by
 cases wide
 ·cases al
  ·have c0:= @wQ r m r0 r1 m0 m1 hn
   have c1:= @om r m r0 r1 m0 m1
   generalize g3:fw false r m=r2 at c1
   exact (Jc (d:= .aj .tight 1 [.int .u8 r2]) [tT,tT,tT,tT,tT,tT,.ret _ _ _ c0,tT,tT,tF,.ret _ _ _ c1] (by kernel_rfl)).to (by subst_vars;first|(simp [wk,ax,aO];done)|(exfalso;simp [dN] at hn;omega))
  have c4:= @om r m r0 r1 m0 m1
  generalize g6:fw false r m=r5 at c4
  exact (Jc (d:= .aj .tight 1 [.int .u8 r5]) [tT,tT,tT,tF,tF,tF,tF,tF,tF,.ret _ _ _ c4] (by kernel_rfl)).to (by subst_vars;first|(simp [wk,ax,aO];done)|(exfalso;simp [dN] at hn;omega))
 have c7:= @sV r m r0 r1 m0 m1
 generalize g9:fw true r m=r8 at c7
 exact (Jc (d:= .aj .tight 1 [.int .u8 r8]) (Sx 9 tF++ [.ret _ _ _ c7]) (by kernel_rfl)).to (by subst_vars;first|(simp [wk,ax,aO];done)|(exfalso;simp [dN] at hn;omega))
theorem hN (r m:Int) (r0:0≤r) (r1:r≤15) (m0:0≤m) (m1:m≤15):aF Tryz.prog 76 ([.int .i8 r,.int .i8 m]) (.aj .tight 1 [.int .u8 (b8 r m)]):=by
 have c0:= @Fa r m r0 r1 m0 m1
 generalize g2:b8 r m=r1 at c0
 exact (Lg (d:= .aj .tight 1 [.int .u8 r1]) [.ret _ _ _ c0] (by kernel_rfl)).to (by subst_vars;simp [wk,ax,aO])
theorem kj (n:Int):aF Tryz.prog 77 ([.int .i64 n]) (.aj .no 1 [.int .u8 (n%256),.int .u8 (n / 256%256),.int .u8 (n / 65536%256),.int .u8 (n / 16777216%256)]):=by
 exact (Lf (d:= .aj (.fresh 1) 1 [.int .u8 (T8.wrap T8.u8 (T8.wrap T8.u64 n)),.int .u8 (T8.wrap T8.u8 (Int.fdiv (T8.wrap T8.u64 n) 256)),.int .u8 (T8.wrap T8.u8 (Int.fdiv (Int.fdiv (T8.wrap T8.u64 n) 256) 256)),.int .u8 (T8.wrap T8.u8 (Int.fdiv (Int.fdiv (Int.fdiv (T8.wrap T8.u64 n) 256) 256) 256))]) [.inl,.go 64,tT,.len 1 2147483648 (by decide),tT,.len 2 2147483648 (by decide),tT,.len 3 2147483648 (by decide),tT,.len 4 2147483648 (by decide),tF] (by kernel_rfl)).to (by simp only [wk,ax,aO,D.int.injEq,D.aj.injEq,List.cons.injEq,true_and,and_true,dD,dR,true_or,Ll,JS,Ha,yQ];first|done|omega|(simp;omega))
theorem zH (op w dst src base aa ai cc:Int) (ho:op≤127) (d0:0≤dst) (d1:dst≤15) (s0:0≤src) (s1:src≤15) (b0:0≤base) (b1:base≤15) (p0: -2147483648≤aa) (p1:aa≤2147483647) (i0: -2147483648≤ai) (i1:ai≤2147483647) (c0:0≤cc) (c1:cc≤15) (n0:0≤cI op) (n1:cI op≤7) (h:(aA op==1)=true) (L1:decide (0≤op∧op≤31)=true) (hm:ct op w dst src base aa ai cc=true):aF Tryz.prog 43 ([xD op w dst src base aa ai cc]) (.aC [.aj .no 1 (bD (aM op w dst src base aa ai cc)),.int .i64 0]):=by
 have c0:= @aK op w dst src base aa ai cc ho
 rw [hm] at c0
 have c1:= @cj op ho
 rw [eq_of_beq h] at c1
 generalize g3:bp op=r2 at c1
 generalize g5:cI op=r4 at c1
 rcases ef (dN (w==64) src dst false) with h6|h6
 ·have c7:= @du src dst s0 s1 d0 d1 (w==64) false h6
  generalize g9:fw (w==64) src dst=r8 at c7
  have LZ:= @hN src dst s0 s1 d0 d1
  generalize g12:b8 src dst=Mf at LZ
  exact (js (d:= .aC [.aj (.fresh 1) 1 [.int .u8 r8,.int .u8 r2,.int .u8 Mf],.int .i64 0]) [.ret _ _ _ c0,tF,.ret _ _ _ c1,tT,.ret _ _ _ c7,.ret _ _ _ LZ,.inl,.go 64,tT,tT,.get ([.aj .tight 1 [.int .u8 r8],.aj .tight 1 [.int .u8 r2],.aj .tight 1 [.int .u8 Mf]]) 0 (.aj .tight 1 [.int .u8 r8]) rfl,.len 1 2147483648 (by decide),tT,tT,.get ([.aj .tight 1 [.int .u8 r8],.aj .tight 1 [.int .u8 r2],.aj .tight 1 [.int .u8 Mf]]) 1 (.aj .tight 1 [.int .u8 r2]) rfl,.len 2 2147483648 (by decide),tT,tT,.get ([.aj .tight 1 [.int .u8 r8],.aj .tight 1 [.int .u8 r2],.aj .tight 1 [.int .u8 Mf]]) 2 (.aj .tight 1 [.int .u8 Mf]) rfl,.len 3 2147483648 (by decide),tF] (by kernel_rfl)).to (by subst_vars;(try simp only [bI] at*);(try simp only [beq_iff_eq] at h);(try simp only [decide_eq_true_eq,decide_eq_false_iff_not] at*);simp_all [wk,ax,aO,aM,bD,cq,de,bM,dD])
 have MB:= @eG src dst s0 s1 d0 d1 (w==64) false h6
 have Oc:= @hN src dst s0 s1 d0 d1
 generalize g16:b8 src dst=NF at Oc
 exact (js (d:= .aC [.aj (.fresh 1) 1 [.int .u8 r2,.int .u8 NF],.int .i64 0]) [.ret _ _ _ c0,tF,.ret _ _ _ c1,tT,.ret _ _ _ MB,.ret _ _ _ Oc,.inl,.go 64,tT,tT,.get ([.aj .tight 1 [],.aj .tight 1 [.int .u8 r2],.aj .tight 1 [.int .u8 NF]]) 0 (.aj .tight 1 []) rfl,.len 0 2147483648 (by decide),tT,tT,.get ([.aj .tight 1 [],.aj .tight 1 [.int .u8 r2],.aj .tight 1 [.int .u8 NF]]) 1 (.aj .tight 1 [.int .u8 r2]) rfl,.len 1 2147483648 (by decide),tT,tT,.get ([.aj .tight 1 [],.aj .tight 1 [.int .u8 r2],.aj .tight 1 [.int .u8 NF]]) 2 (.aj .tight 1 [.int .u8 NF]) rfl,.len 2 2147483648 (by decide),tF] (by kernel_rfl)).to (by subst_vars;(try simp only [bI] at*);(try simp only [beq_iff_eq] at h);(try simp only [decide_eq_true_eq,decide_eq_false_iff_not] at*);simp_all [wk,ax,aO,aM,bD,cq,de,bM,dD])
theorem vK (w dst src base aa ai cc:Int) (d0:0≤dst) (d1:dst≤15) (s0:0≤src) (s1:src≤15) (b0:0≤base) (b1:base≤15) (p0: -2147483648≤aa) (p1:aa≤2147483647) (i0: -2147483648≤ai) (i1:ai≤2147483647) (c0:0≤cc) (c1:cc≤15) (hm:ct 16 w dst src base aa ai cc=true):aF Tryz.prog 43 ([xD 16 w dst src base aa ai cc]) (.aC [.aj .no 1 (bD (aM 16 w dst src base aa ai cc)),.int .i64 0]):=by
 have c0:= @aK 16 w dst src base aa ai cc (by decide)
 rw [hm] at c0
 have c1:= @cj 16 (by decide)
 rcases ef (dN (w==64) dst src false) with h2|h2
 ·have c3:= @du dst src d0 d1 s0 s1 (w==64) false h2
  generalize g5:fw (w==64) dst src=r4 at c3
  have c6:= @hN dst src d0 d1 s0 s1
  generalize g8:b8 dst src=r7 at c6
  exact (js (d:= .aC [.aj (.fresh 1) 1 [.int .u8 r4,.int .u8 15,.int .u8 175,.int .u8 r7],.int .i64 0]) [.ret _ _ _ c0,tF,.ret _ _ _ c1,tF,tT,.ret _ _ _ c3,.ret _ _ _ c6,.inl,.go 64,tT,tT,.get ([.aj .tight 1 [.int .u8 r4],.aj .tight 1 [.int .u8 15],.aj .tight 1 [.int .u8 175],.aj .tight 1 [.int .u8 r7]]) 0 (.aj .tight 1 [.int .u8 r4]) rfl,.len 1 2147483648 (by decide),tT,tT,.get ([.aj .tight 1 [.int .u8 r4],.aj .tight 1 [.int .u8 15],.aj .tight 1 [.int .u8 175],.aj .tight 1 [.int .u8 r7]]) 1 (.aj .tight 1 [.int .u8 15]) rfl,.len 2 2147483648 (by decide),tT,tT,.get ([.aj .tight 1 [.int .u8 r4],.aj .tight 1 [.int .u8 15],.aj .tight 1 [.int .u8 175],.aj .tight 1 [.int .u8 r7]]) 2 (.aj .tight 1 [.int .u8 175]) rfl,.len 3 2147483648 (by decide),tT,tT,.get ([.aj .tight 1 [.int .u8 r4],.aj .tight 1 [.int .u8 15],.aj .tight 1 [.int .u8 175],.aj .tight 1 [.int .u8 r7]]) 3 (.aj .tight 1 [.int .u8 r7]) rfl,.len 4 2147483648 (by decide),tF] (by kernel_rfl)).to (by subst_vars;(try simp only [bI] at*);(try simp only [beq_iff_eq] at h);(try simp only [decide_eq_true_eq,decide_eq_false_iff_not] at*);simp_all [wk,ax,aO,aM,show aA 16=2 from rfl,bp,bD,cq,de,bM,dD])
 have c9:= @eG dst src d0 d1 s0 s1 (w==64) false h2
 have LZ:= @hN dst src d0 d1 s0 s1
 generalize g12:b8 dst src=Mf at LZ
 exact (js (d:= .aC [.aj (.fresh 1) 1 [.int .u8 15,.int .u8 175,.int .u8 Mf],.int .i64 0]) [.ret _ _ _ c0,tF,.ret _ _ _ c1,tF,tT,.ret _ _ _ c9,.ret _ _ _ LZ,.inl,.go 64,tT,tT,.get ([.aj .tight 1 [],.aj .tight 1 [.int .u8 15],.aj .tight 1 [.int .u8 175],.aj .tight 1 [.int .u8 Mf]]) 0 (.aj .tight 1 []) rfl,.len 0 2147483648 (by decide),tT,tT,.get ([.aj .tight 1 [],.aj .tight 1 [.int .u8 15],.aj .tight 1 [.int .u8 175],.aj .tight 1 [.int .u8 Mf]]) 1 (.aj .tight 1 [.int .u8 15]) rfl,.len 1 2147483648 (by decide),tT,tT,.get ([.aj .tight 1 [],.aj .tight 1 [.int .u8 15],.aj .tight 1 [.int .u8 175],.aj .tight 1 [.int .u8 Mf]]) 2 (.aj .tight 1 [.int .u8 175]) rfl,.len 2 2147483648 (by decide),tT,tT,.get ([.aj .tight 1 [],.aj .tight 1 [.int .u8 15],.aj .tight 1 [.int .u8 175],.aj .tight 1 [.int .u8 Mf]]) 3 (.aj .tight 1 [.int .u8 Mf]) rfl,.len 3 2147483648 (by decide),tF] (by kernel_rfl)).to (by subst_vars;(try simp only [bI] at*);(try simp only [beq_iff_eq] at h);(try simp only [decide_eq_true_eq,decide_eq_false_iff_not] at*);simp_all [wk,ax,aO,aM,show aA 16=2 from rfl,bp,bD,cq,de,bM,dD])
theorem zE (op w dst src base aa ai cc:Int) (ho:op≤127) (d0:0≤dst) (d1:dst≤15) (s0:0≤src) (s1:src≤15) (b0:0≤base) (b1:base≤15) (p0: -2147483648≤aa) (p1:aa≤2147483647) (i0: -2147483648≤ai) (i1:ai≤2147483647) (c0:0≤cc) (c1:cc≤15) (n0:0≤cI op) (n1:cI op≤7) (h:(aA op==5)=true) (L1:decide (0≤op∧op≤31)=true) (hm:ct op w dst src base aa ai cc=true):aF Tryz.prog 43 ([xD op w dst src base aa ai cc]) (.aC [.aj .no 1 (bD (aM op w dst src base aa ai cc)),.int .i64 0]):=by
 have c0:= @aK op w dst src base aa ai cc ho
 rw [hm] at c0
 have c1:= @cj op ho
 rw [eq_of_beq h] at c1
 generalize g3:bp op=r2 at c1
 generalize g5:cI op=r4 at c1
 rcases ef (dN (w==64) 0 dst false) with h6|h6
 ·have c7:= @du 0 dst (by decide) (by decide) d0 d1 (w==64) false h6
  generalize g9:fw (w==64) 0 dst=r8 at c7
  have LZ:= @hN r4 dst (by (simp only [dX] at*;omega)) (by (simp only [dX] at*;omega)) d0 d1
  generalize g12:b8 r4 dst=Mf at LZ
  exact (js (d:= .aC [.aj (.fresh 1) 1 [.int .u8 r8,.int .u8 r2,.int .u8 Mf],.int .i64 0]) [.ret _ _ _ c0,tF,.ret _ _ _ c1,tF,tF,tF,tF,tF,tT,.ret _ _ _ c7,.ret _ _ _ LZ,.inl,.go 64,tT,tT,.get ([.aj .tight 1 [.int .u8 r8],.aj .tight 1 [.int .u8 r2],.aj .tight 1 [.int .u8 Mf]]) 0 (.aj .tight 1 [.int .u8 r8]) rfl,.len 1 2147483648 (by decide),tT,tT,.get ([.aj .tight 1 [.int .u8 r8],.aj .tight 1 [.int .u8 r2],.aj .tight 1 [.int .u8 Mf]]) 1 (.aj .tight 1 [.int .u8 r2]) rfl,.len 2 2147483648 (by decide),tT,tT,.get ([.aj .tight 1 [.int .u8 r8],.aj .tight 1 [.int .u8 r2],.aj .tight 1 [.int .u8 Mf]]) 2 (.aj .tight 1 [.int .u8 Mf]) rfl,.len 3 2147483648 (by decide),tF] (by kernel_rfl)).to (by subst_vars;(try simp only [bI] at*);(try simp only [beq_iff_eq] at h);(try simp only [decide_eq_true_eq,decide_eq_false_iff_not] at*);simp_all [wk,ax,aO,aM,bD,cq,de,bM,dD])
 have MB:= @eG 0 dst (by decide) (by decide) d0 d1 (w==64) false h6
 have Oc:= @hN r4 dst (by (simp only [dX] at*;omega)) (by (simp only [dX] at*;omega)) d0 d1
 generalize g16:b8 r4 dst=NF at Oc
 exact (js (d:= .aC [.aj (.fresh 1) 1 [.int .u8 r2,.int .u8 NF],.int .i64 0]) [.ret _ _ _ c0,tF,.ret _ _ _ c1,tF,tF,tF,tF,tF,tT,.ret _ _ _ MB,.ret _ _ _ Oc,.inl,.go 64,tT,tT,.get ([.aj .tight 1 [],.aj .tight 1 [.int .u8 r2],.aj .tight 1 [.int .u8 NF]]) 0 (.aj .tight 1 []) rfl,.len 0 2147483648 (by decide),tT,tT,.get ([.aj .tight 1 [],.aj .tight 1 [.int .u8 r2],.aj .tight 1 [.int .u8 NF]]) 1 (.aj .tight 1 [.int .u8 r2]) rfl,.len 1 2147483648 (by decide),tT,tT,.get ([.aj .tight 1 [],.aj .tight 1 [.int .u8 r2],.aj .tight 1 [.int .u8 NF]]) 2 (.aj .tight 1 [.int .u8 NF]) rfl,.len 2 2147483648 (by decide),tF] (by kernel_rfl)).to (by subst_vars;(try simp only [bI] at*);(try simp only [beq_iff_eq] at h);(try simp only [decide_eq_true_eq,decide_eq_false_iff_not] at*);simp_all [wk,ax,aO,aM,bD,cq,de,bM,dD])
theorem zF (op w dst src base aa ai cc:Int) (ho:op≤127) (d0:0≤dst) (d1:dst≤15) (s0:0≤src) (s1:src≤15) (b0:0≤base) (b1:base≤15) (p0: -2147483648≤aa) (p1:aa≤2147483647) (i0: -2147483648≤ai) (i1:ai≤2147483647) (c0:0≤cc) (c1:cc≤15) (n0:0≤cI op) (n1:cI op≤7) (h:(aA op==4)=true) (L1:decide (0≤op∧op≤31)=true) (hm:ct op w dst src base aa ai cc=true):aF Tryz.prog 43 ([xD op w dst src base aa ai cc]) (.aC [.aj .no 1 (bD (aM op w dst src base aa ai cc)),.int .i64 0]):=by
 have c0:= @aK op w dst src base aa ai cc ho
 rw [hm] at c0
 have c1:= @cj op ho
 rw [eq_of_beq h] at c1
 generalize g3:bp op=r2 at c1
 generalize g5:cI op=r4 at c1
 rcases ef (dN (w==64) 0 dst false) with h6|h6
 ·have c7:= @du 0 dst (by decide) (by decide) d0 d1 (w==64) false h6
  generalize g9:fw (w==64) 0 dst=r8 at c7
  have LZ:= @hN r4 dst (by (simp only [dX] at*;omega)) (by (simp only [dX] at*;omega)) d0 d1
  generalize g12:b8 r4 dst=Mf at LZ
  exact (js (d:= .aC [.aj (.fresh 1) 1 [.int .u8 r8,.int .u8 r2,.int .u8 Mf,.int .u8 (T8.u8.wrap ai)],.int .i64 0]) [.ret _ _ _ c0,tF,.ret _ _ _ c1,tF,tF,tF,tF,tT,.ret _ _ _ c7,.ret _ _ _ LZ,.inl,.go 64,tT,tT,.get ([.aj .tight 1 [.int .u8 r8],.aj .tight 1 [.int .u8 r2],.aj .tight 1 [.int .u8 Mf],.aj .tight 1 [.int .u8 (T8.u8.wrap ai)]]) 0 (.aj .tight 1 [.int .u8 r8]) rfl,.len 1 2147483648 (by decide),tT,tT,.get ([.aj .tight 1 [.int .u8 r8],.aj .tight 1 [.int .u8 r2],.aj .tight 1 [.int .u8 Mf],.aj .tight 1 [.int .u8 (T8.u8.wrap ai)]]) 1 (.aj .tight 1 [.int .u8 r2]) rfl,.len 2 2147483648 (by decide),tT,tT,.get ([.aj .tight 1 [.int .u8 r8],.aj .tight 1 [.int .u8 r2],.aj .tight 1 [.int .u8 Mf],.aj .tight 1 [.int .u8 (T8.u8.wrap ai)]]) 2 (.aj .tight 1 [.int .u8 Mf]) rfl,.len 3 2147483648 (by decide),tT,tT,.get ([.aj .tight 1 [.int .u8 r8],.aj .tight 1 [.int .u8 r2],.aj .tight 1 [.int .u8 Mf],.aj .tight 1 [.int .u8 (T8.u8.wrap ai)]]) 3 (.aj .tight 1 [.int .u8 (T8.u8.wrap ai)]) rfl,.len 4 2147483648 (by decide),tF] (by kernel_rfl)).to (by (try rw [na d0 d1]);(subst_vars;(try simp only [bI] at*);(try simp only [beq_iff_eq] at h);(try simp only [decide_eq_true_eq,decide_eq_false_iff_not] at*);simp_all [wk,ax,aO,aM,bD,cq,de,bM,dD];done))
 have MB:= @eG 0 dst (by decide) (by decide) d0 d1 (w==64) false h6
 have Oc:= @hN r4 dst (by (simp only [dX] at*;omega)) (by (simp only [dX] at*;omega)) d0 d1
 generalize g16:b8 r4 dst=NF at Oc
 exact (js (d:= .aC [.aj (.fresh 1) 1 [.int .u8 r2,.int .u8 NF,.int .u8 (T8.u8.wrap ai)],.int .i64 0]) [.ret _ _ _ c0,tF,.ret _ _ _ c1,tF,tF,tF,tF,tT,.ret _ _ _ MB,.ret _ _ _ Oc,.inl,.go 64,tT,tT,.get ([.aj .tight 1 [],.aj .tight 1 [.int .u8 r2],.aj .tight 1 [.int .u8 NF],.aj .tight 1 [.int .u8 (T8.u8.wrap ai)]]) 0 (.aj .tight 1 []) rfl,.len 0 2147483648 (by decide),tT,tT,.get ([.aj .tight 1 [],.aj .tight 1 [.int .u8 r2],.aj .tight 1 [.int .u8 NF],.aj .tight 1 [.int .u8 (T8.u8.wrap ai)]]) 1 (.aj .tight 1 [.int .u8 r2]) rfl,.len 1 2147483648 (by decide),tT,tT,.get ([.aj .tight 1 [],.aj .tight 1 [.int .u8 r2],.aj .tight 1 [.int .u8 NF],.aj .tight 1 [.int .u8 (T8.u8.wrap ai)]]) 2 (.aj .tight 1 [.int .u8 NF]) rfl,.len 2 2147483648 (by decide),tT,tT,.get ([.aj .tight 1 [],.aj .tight 1 [.int .u8 r2],.aj .tight 1 [.int .u8 NF],.aj .tight 1 [.int .u8 (T8.u8.wrap ai)]]) 3 (.aj .tight 1 [.int .u8 (T8.u8.wrap ai)]) rfl,.len 3 2147483648 (by decide),tF] (by kernel_rfl)).to (by (try rw [na d0 d1]);(subst_vars;(try simp only [bI] at*);(try simp only [beq_iff_eq] at h);(try simp only [decide_eq_true_eq,decide_eq_false_iff_not] at*);simp_all [wk,ax,aO,aM,bD,cq,de,bM,dD];done))
theorem zG (op w dst src base aa ai cc:Int) (ho:op≤127) (d0:0≤dst) (d1:dst≤15) (s0:0≤src) (s1:src≤15) (b0:0≤base) (b1:base≤15) (p0: -2147483648≤aa) (p1:aa≤2147483647) (i0: -2147483648≤ai) (i1:ai≤2147483647) (c0:0≤cc) (c1:cc≤15) (n0:0≤cI op) (n1:cI op≤7) (h:(aA op==3)=true) (L1:decide (0≤op∧op≤31)=true) (hw:w=32∨w=64) (hm:ct op w dst src base aa ai cc=true):aF Tryz.prog 43 ([xD op w dst src base aa ai cc]) (.aC [.aj .no 1 (bD (aM op w dst src base aa ai cc)),.int .i64 0]):=by
 have c0:= @aK op w dst src base aa ai cc ho
 rw [hm] at c0
 have c1:= @cj op ho
 rw [eq_of_beq h] at c1
 generalize g3:bp op=r2 at c1
 generalize g5:cI op=r4 at c1
 let E1:EL:= [.ret _ _ _ c0,tF,.ret _ _ _ c1,tF,tF,tF,tT]
 by_cases h6:op=1
 ·subst h6
  by_cases h7:w=64
  ·subst h7
   have c8:= @du 0 dst n0 (by decide) d0 d1 true false (rfl:true=true)
   generalize g10:fw true 0 dst=r9 at c8
   have Nb:= @hN r4 dst (by (simp only [dX] at*;omega)) (by (simp only [dX] at*;omega)) d0 d1
   generalize g13:b8 r4 dst=Ny at Nb
   have Oc:= @kj ai
   exact (js (d:= .aC [.aj (.fresh 1) 1 [.int .u8 r9,.int .u8 r2,.int .u8 Ny,.int .u8 (ai%256),.int .u8 (ai / 256%256),.int .u8 (ai / 65536%256),.int .u8 (ai / 16777216%256)],.int .i64 0]) (E1++ [tT,tT,tT,tF,.ret _ _ _ c8,.ret _ _ _ Nb,.ret _ _ _ Oc,.inl,.go 64,tT,tT,.get ([.aj .tight 1 [.int .u8 r9],.aj .tight 1 [.int .u8 r2],.aj .tight 1 [.int .u8 Ny],.aj .no 1 [.int .u8 (ai%256),.int .u8 (ai / 256%256),.int .u8 (ai / 65536%256),.int .u8 (ai / 16777216%256)]]) 0 (.aj .tight 1 [.int .u8 r9]) rfl,.len 1 2147483648 (by decide),tT,tT,.get ([.aj .tight 1 [.int .u8 r9],.aj .tight 1 [.int .u8 r2],.aj .tight 1 [.int .u8 Ny],.aj .no 1 [.int .u8 (ai%256),.int .u8 (ai / 256%256),.int .u8 (ai / 65536%256),.int .u8 (ai / 16777216%256)]]) 1 (.aj .tight 1 [.int .u8 r2]) rfl,.len 2 2147483648 (by decide),tT,tT,.get ([.aj .tight 1 [.int .u8 r9],.aj .tight 1 [.int .u8 r2],.aj .tight 1 [.int .u8 Ny],.aj .no 1 [.int .u8 (ai%256),.int .u8 (ai / 256%256),.int .u8 (ai / 65536%256),.int .u8 (ai / 16777216%256)]]) 2 (.aj .tight 1 [.int .u8 Ny]) rfl,.len 3 2147483648 (by decide),tT,tT,.get ([.aj .tight 1 [.int .u8 r9],.aj .tight 1 [.int .u8 r2],.aj .tight 1 [.int .u8 Ny],.aj .no 1 [.int .u8 (ai%256),.int .u8 (ai / 256%256),.int .u8 (ai / 65536%256),.int .u8 (ai / 16777216%256)]]) 3 (.aj .no 1 [.int .u8 (ai%256),.int .u8 (ai / 256%256),.int .u8 (ai / 65536%256),.int .u8 (ai / 16777216%256)]) rfl,.len 7 2147483648 (by decide),tF]) (by kernel_rfl)).to (by clear E1;(try rw [na d0 d1]);(subst_vars;(try simp only [bI] at*);(try simp only [beq_iff_eq] at h);(try simp only [decide_eq_true_eq,decide_eq_false_iff_not] at*);simp_all [wk,ax,aO,aM,bD,cq,de,bM,dD,dN];done))
  rcases ef (dN false 0 dst false) with h15|h15
  ·have MS:= @du 0 dst n0 (by decide) d0 d1 false false h15
   generalize g18:fw false 0 dst=r17 at MS
   have M9:= @kj ai
   exact (js (d:= .aC [.aj (.fresh 1) 1 [.int .u8 r17,.int .u8 (T8.u8.wrap (↑(SF (Sy 8 184|||Sy 8 (T8.u8.wrap (T8.i8.wrap (↑(SF (Sy 8 dst&&&Sy 8 7)):Int))))):Int)),.int .u8 (ai%256),.int .u8 (ai / 256%256),.int .u8 (ai / 65536%256),.int .u8 (ai / 16777216%256)],.int .i64 0]) (E1++ [tT,tT,tT,tC (nt (aw h7)),.ret _ _ _ MS,.ret _ _ _ M9,.inl,.go 64,tT,tT,.get ([.aj .tight 1 [.int .u8 r17],.aj .tight 1 [.int .u8 (T8.u8.wrap (↑(SF (Sy 8 184|||Sy 8 (T8.u8.wrap (T8.i8.wrap (↑(SF (Sy 8 dst&&&Sy 8 7)):Int))))):Int))],.aj .no 1 [.int .u8 (ai%256),.int .u8 (ai / 256%256),.int .u8 (ai / 65536%256),.int .u8 (ai / 16777216%256)]]) 0 (.aj .tight 1 [.int .u8 r17]) rfl,.len 1 2147483648 (by decide),tT,tT,.get ([.aj .tight 1 [.int .u8 r17],.aj .tight 1 [.int .u8 (T8.u8.wrap (↑(SF (Sy 8 184|||Sy 8 (T8.u8.wrap (T8.i8.wrap (↑(SF (Sy 8 dst&&&Sy 8 7)):Int))))):Int))],.aj .no 1 [.int .u8 (ai%256),.int .u8 (ai / 256%256),.int .u8 (ai / 65536%256),.int .u8 (ai / 16777216%256)]]) 1 (.aj .tight 1 [.int .u8 (T8.u8.wrap (↑(SF (Sy 8 184|||Sy 8 (T8.u8.wrap (T8.i8.wrap (↑(SF (Sy 8 dst&&&Sy 8 7)):Int))))):Int))]) rfl,.len 2 2147483648 (by decide),tT,tT,.get ([.aj .tight 1 [.int .u8 r17],.aj .tight 1 [.int .u8 (T8.u8.wrap (↑(SF (Sy 8 184|||Sy 8 (T8.u8.wrap (T8.i8.wrap (↑(SF (Sy 8 dst&&&Sy 8 7)):Int))))):Int))],.aj .no 1 [.int .u8 (ai%256),.int .u8 (ai / 256%256),.int .u8 (ai / 65536%256),.int .u8 (ai / 16777216%256)]]) 2 (.aj .no 1 [.int .u8 (ai%256),.int .u8 (ai / 256%256),.int .u8 (ai / 65536%256),.int .u8 (ai / 16777216%256)]) rfl,.len 6 2147483648 (by decide),tF]) (by kernel_rfl)).to (by clear E1;(try rw [na d0 d1]);(subst_vars;(try simp only [bI] at*);(try simp only [beq_iff_eq] at h);(try simp only [decide_eq_true_eq,decide_eq_false_iff_not] at*);simp_all [wk,ax,aO,aM,bD,cq,de,bM,dD];done))
  have OW:= @eG 0 dst n0 (by decide) d0 d1 false false h15
  have Po:= @kj ai
  exact (js (d:= .aC [.aj (.fresh 1) 1 [.int .u8 (T8.u8.wrap (↑(SF (Sy 8 184|||Sy 8 (T8.u8.wrap (T8.i8.wrap (↑(SF (Sy 8 dst&&&Sy 8 7)):Int))))):Int)),.int .u8 (ai%256),.int .u8 (ai / 256%256),.int .u8 (ai / 65536%256),.int .u8 (ai / 16777216%256)],.int .i64 0]) (E1++ [tT,tT,tT,tC (nt (aw h7)),.ret _ _ _ OW,.ret _ _ _ Po,.inl,.go 64,tT,tT,.get ([.aj .tight 1 [],.aj .tight 1 [.int .u8 (T8.u8.wrap (↑(SF (Sy 8 184|||Sy 8 (T8.u8.wrap (T8.i8.wrap (↑(SF (Sy 8 dst&&&Sy 8 7)):Int))))):Int))],.aj .no 1 [.int .u8 (ai%256),.int .u8 (ai / 256%256),.int .u8 (ai / 65536%256),.int .u8 (ai / 16777216%256)]]) 0 (.aj .tight 1 []) rfl,.len 0 2147483648 (by decide),tT,tT,.get ([.aj .tight 1 [],.aj .tight 1 [.int .u8 (T8.u8.wrap (↑(SF (Sy 8 184|||Sy 8 (T8.u8.wrap (T8.i8.wrap (↑(SF (Sy 8 dst&&&Sy 8 7)):Int))))):Int))],.aj .no 1 [.int .u8 (ai%256),.int .u8 (ai / 256%256),.int .u8 (ai / 65536%256),.int .u8 (ai / 16777216%256)]]) 1 (.aj .tight 1 [.int .u8 (T8.u8.wrap (↑(SF (Sy 8 184|||Sy 8 (T8.u8.wrap (T8.i8.wrap (↑(SF (Sy 8 dst&&&Sy 8 7)):Int))))):Int))]) rfl,.len 1 2147483648 (by decide),tT,tT,.get ([.aj .tight 1 [],.aj .tight 1 [.int .u8 (T8.u8.wrap (↑(SF (Sy 8 184|||Sy 8 (T8.u8.wrap (T8.i8.wrap (↑(SF (Sy 8 dst&&&Sy 8 7)):Int))))):Int))],.aj .no 1 [.int .u8 (ai%256),.int .u8 (ai / 256%256),.int .u8 (ai / 65536%256),.int .u8 (ai / 16777216%256)]]) 2 (.aj .no 1 [.int .u8 (ai%256),.int .u8 (ai / 256%256),.int .u8 (ai / 65536%256),.int .u8 (ai / 16777216%256)]) rfl,.len 5 2147483648 (by decide),tF]) (by kernel_rfl)).to (by clear E1;(try rw [na d0 d1]);(subst_vars;(try simp only [bI] at*);(try simp only [beq_iff_eq] at h);(try simp only [decide_eq_true_eq,decide_eq_false_iff_not] at*);simp_all [wk,ax,aO,aM,bD,cq,de,bM,dD];done))
 rcases ef (dN (w==64) 0 dst false) with h22|h22
 ·have NT:= @du 0 dst (by decide) (by decide) d0 d1 (w==64) false h22
  generalize g25:fw (w==64) 0 dst=r24 at NT
  have Oy:= @hN r4 dst (by (simp only [dX] at*;omega)) (by (simp only [dX] at*;omega)) d0 d1
  generalize g28:b8 r4 dst=r27 at Oy
  have Re:= @kj ai
  exact (js (d:= .aC [.aj (.fresh 1) 1 [.int .u8 r24,.int .u8 r2,.int .u8 r27,.int .u8 (ai%256),.int .u8 (ai / 256%256),.int .u8 (ai / 65536%256),.int .u8 (ai / 16777216%256)],.int .i64 0]) (E1++ [tC (eT (aw h6)),tC (eT (aw h6)),tC (aw h6),tF,.ret _ _ _ NT,.ret _ _ _ Oy,.ret _ _ _ Re,.inl,.go 64,tT,tT,.get ([.aj .tight 1 [.int .u8 r24],.aj .tight 1 [.int .u8 r2],.aj .tight 1 [.int .u8 r27],.aj .no 1 [.int .u8 (ai%256),.int .u8 (ai / 256%256),.int .u8 (ai / 65536%256),.int .u8 (ai / 16777216%256)]]) 0 (.aj .tight 1 [.int .u8 r24]) rfl,.len 1 2147483648 (by decide),tT,tT,.get ([.aj .tight 1 [.int .u8 r24],.aj .tight 1 [.int .u8 r2],.aj .tight 1 [.int .u8 r27],.aj .no 1 [.int .u8 (ai%256),.int .u8 (ai / 256%256),.int .u8 (ai / 65536%256),.int .u8 (ai / 16777216%256)]]) 1 (.aj .tight 1 [.int .u8 r2]) rfl,.len 2 2147483648 (by decide),tT,tT,.get ([.aj .tight 1 [.int .u8 r24],.aj .tight 1 [.int .u8 r2],.aj .tight 1 [.int .u8 r27],.aj .no 1 [.int .u8 (ai%256),.int .u8 (ai / 256%256),.int .u8 (ai / 65536%256),.int .u8 (ai / 16777216%256)]]) 2 (.aj .tight 1 [.int .u8 r27]) rfl,.len 3 2147483648 (by decide),tT,tT,.get ([.aj .tight 1 [.int .u8 r24],.aj .tight 1 [.int .u8 r2],.aj .tight 1 [.int .u8 r27],.aj .no 1 [.int .u8 (ai%256),.int .u8 (ai / 256%256),.int .u8 (ai / 65536%256),.int .u8 (ai / 16777216%256)]]) 3 (.aj .no 1 [.int .u8 (ai%256),.int .u8 (ai / 256%256),.int .u8 (ai / 65536%256),.int .u8 (ai / 16777216%256)]) rfl,.len 7 2147483648 (by decide),tF]) (by kernel_rfl)).to (by clear E1;(try rw [na d0 d1]);(subst_vars;(try simp only [bI] at*);(try simp only [beq_iff_eq] at h);(try simp only [decide_eq_true_eq,decide_eq_false_iff_not] at*);simp_all [wk,ax,aO,aM,bD,cq,de,bM,dD];done))
 have OU:= @eG 0 dst (by decide) (by decide) d0 d1 (w==64) false h22
 have O3:= @hN r4 dst (by (simp only [dX] at*;omega)) (by (simp only [dX] at*;omega)) d0 d1
 generalize g33:b8 r4 dst=r32 at O3
 have c34:= @kj ai
 exact (js (d:= .aC [.aj (.fresh 1) 1 [.int .u8 r2,.int .u8 r32,.int .u8 (ai%256),.int .u8 (ai / 256%256),.int .u8 (ai / 65536%256),.int .u8 (ai / 16777216%256)],.int .i64 0]) (E1++ [tC (eT (aw h6)),tC (eT (aw h6)),tC (aw h6),tF,.ret _ _ _ OU,.ret _ _ _ O3,.ret _ _ _ c34,.inl,.go 64,tT,tT,.get ([.aj .tight 1 [],.aj .tight 1 [.int .u8 r2],.aj .tight 1 [.int .u8 r32],.aj .no 1 [.int .u8 (ai%256),.int .u8 (ai / 256%256),.int .u8 (ai / 65536%256),.int .u8 (ai / 16777216%256)]]) 0 (.aj .tight 1 []) rfl,.len 0 2147483648 (by decide),tT,tT,.get ([.aj .tight 1 [],.aj .tight 1 [.int .u8 r2],.aj .tight 1 [.int .u8 r32],.aj .no 1 [.int .u8 (ai%256),.int .u8 (ai / 256%256),.int .u8 (ai / 65536%256),.int .u8 (ai / 16777216%256)]]) 1 (.aj .tight 1 [.int .u8 r2]) rfl,.len 1 2147483648 (by decide),tT,tT,.get ([.aj .tight 1 [],.aj .tight 1 [.int .u8 r2],.aj .tight 1 [.int .u8 r32],.aj .no 1 [.int .u8 (ai%256),.int .u8 (ai / 256%256),.int .u8 (ai / 65536%256),.int .u8 (ai / 16777216%256)]]) 2 (.aj .tight 1 [.int .u8 r32]) rfl,.len 2 2147483648 (by decide),tT,tT,.get ([.aj .tight 1 [],.aj .tight 1 [.int .u8 r2],.aj .tight 1 [.int .u8 r32],.aj .no 1 [.int .u8 (ai%256),.int .u8 (ai / 256%256),.int .u8 (ai / 65536%256),.int .u8 (ai / 16777216%256)]]) 3 (.aj .no 1 [.int .u8 (ai%256),.int .u8 (ai / 256%256),.int .u8 (ai / 65536%256),.int .u8 (ai / 16777216%256)]) rfl,.len 6 2147483648 (by decide),tF]) (by kernel_rfl)).to (by clear E1;(try rw [na d0 d1]);(subst_vars;(try simp only [bI] at*);(try simp only [beq_iff_eq] at h);(try simp only [decide_eq_true_eq,decide_eq_false_iff_not] at*);simp_all [wk,ax,aO,aM,bD,cq,de,bM,dD];done))
theorem vJ (w dst src base aa ai cc:Int) (d0:0≤dst) (d1:dst≤15) (s0:0≤src) (s1:src≤15) (b0:0≤base) (b1:base≤15) (p0: -2147483648≤aa) (p1:aa≤2147483647) (i0: -2147483648≤ai) (i1:ai≤2147483647) (c0:0≤cc) (c1:cc≤15) (hm:ct 25 w dst src base aa ai cc=true):aF Tryz.prog 43 ([xD 25 w dst src base aa ai cc]) (.aC [.aj .no 1 (bD (aM 25 w dst src base aa ai cc)),.int .i64 0]):=by
 have c0:= @aK 25 w dst src base aa ai cc (by decide)
 rw [hm] at c0
 have c1:= @cj 25 (by decide)
 rcases ef (dN (w==64) dst src false) with h2|h2
 ·have c3:= @du dst src d0 d1 s0 s1 (w==64) false h2
  generalize g5:fw (w==64) dst src=r4 at c3
  have c6:= @hN dst src d0 d1 s0 s1
  generalize g8:b8 dst src=r7 at c6
  exact (js (d:= .aC [.aj (.fresh 1) 1 [.int .u8 r4,.int .u8 15,.int .u8 (T8.u8.wrap (64+T8.u8.wrap cc)),.int .u8 r7],.int .i64 0]) [.ret _ _ _ c0,tF,.ret _ _ _ c1,tF,tF,tT,.ret _ _ _ c3,.ret _ _ _ c6,.inl,.go 64,tT,tT,.get ([.aj .tight 1 [.int .u8 r4],.aj .tight 1 [.int .u8 15,.int .u8 (T8.u8.wrap (64+T8.u8.wrap cc))],.aj .tight 1 [.int .u8 r7]]) 0 (.aj .tight 1 [.int .u8 r4]) rfl,.len 1 2147483648 (by decide),tT,tT,.get ([.aj .tight 1 [.int .u8 r4],.aj .tight 1 [.int .u8 15,.int .u8 (T8.u8.wrap (64+T8.u8.wrap cc))],.aj .tight 1 [.int .u8 r7]]) 1 (.aj .tight 1 [.int .u8 15,.int .u8 (T8.u8.wrap (64+T8.u8.wrap cc))]) rfl,.len 3 2147483648 (by decide),tT,tT,.get ([.aj .tight 1 [.int .u8 r4],.aj .tight 1 [.int .u8 15,.int .u8 (T8.u8.wrap (64+T8.u8.wrap cc))],.aj .tight 1 [.int .u8 r7]]) 2 (.aj .tight 1 [.int .u8 r7]) rfl,.len 4 2147483648 (by decide),tF] (by kernel_rfl)).to (by (try rw [na d0 d1]);(subst_vars;(try simp only [bI] at*);(try simp only [beq_iff_eq] at h);(try simp only [decide_eq_true_eq,decide_eq_false_iff_not] at*);simp_all [wk,ax,aO,aM,bD,cq,de,bM,dD,dN,bp,cI,aA];omega))
 have c9:= @eG dst src d0 d1 s0 s1 (w==64) false h2
 have LZ:= @hN dst src d0 d1 s0 s1
 generalize g12:b8 dst src=Mf at LZ
 exact (js (d:= .aC [.aj (.fresh 1) 1 [.int .u8 15,.int .u8 (T8.u8.wrap (64+T8.u8.wrap cc)),.int .u8 Mf],.int .i64 0]) [.ret _ _ _ c0,tF,.ret _ _ _ c1,tF,tF,tT,.ret _ _ _ c9,.ret _ _ _ LZ,.inl,.go 64,tT,tT,.get ([.aj .tight 1 [],.aj .tight 1 [.int .u8 15,.int .u8 (T8.u8.wrap (64+T8.u8.wrap cc))],.aj .tight 1 [.int .u8 Mf]]) 0 (.aj .tight 1 []) rfl,.len 0 2147483648 (by decide),tT,tT,.get ([.aj .tight 1 [],.aj .tight 1 [.int .u8 15,.int .u8 (T8.u8.wrap (64+T8.u8.wrap cc))],.aj .tight 1 [.int .u8 Mf]]) 1 (.aj .tight 1 [.int .u8 15,.int .u8 (T8.u8.wrap (64+T8.u8.wrap cc))]) rfl,.len 2 2147483648 (by decide),tT,tT,.get ([.aj .tight 1 [],.aj .tight 1 [.int .u8 15,.int .u8 (T8.u8.wrap (64+T8.u8.wrap cc))],.aj .tight 1 [.int .u8 Mf]]) 2 (.aj .tight 1 [.int .u8 Mf]) rfl,.len 3 2147483648 (by decide),tF] (by kernel_rfl)).to (by (try rw [na d0 d1]);(subst_vars;(try simp only [bI] at*);(try simp only [beq_iff_eq] at h);(try simp only [decide_eq_true_eq,decide_eq_false_iff_not] at*);simp_all [wk,ax,aO,aM,bD,cq,de,bM,dD,bp,cI,aA];omega))
end Go.Proofs.YtbfpahigdpigpaaGreat
