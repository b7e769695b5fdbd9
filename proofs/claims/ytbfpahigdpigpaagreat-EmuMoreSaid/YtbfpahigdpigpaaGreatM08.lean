import Derived.WalkKit
import Derived.IntWalk
import Derived.KernelRfl
import Derived.LoopN
import Derived.Test.YtbfpahigdpigpaaGreatM05
import Derived.Test.YtbfpahigdpigpaaGreatM06
import Derived.Test.YtbfpahigdpigpaaGreatM07
/- Contracts and plain laws that a statement's proof leans on (texts merged:XMay1,XMay2,XMay3,XMayA,XB0,NumA,XB1,XB2a,XB2b). -/
set_option linter.unusedVariables false
set_option linter.unusedSimpArgs false
set_option maxRecDepth 100000
set_option maxHeartbeats 8000000
namespace Go.Proofs.YtbfpahigdpigpaaGreat
open Go Go.Ev
def qk (k0_:Int):Prop:= ∀(op w dst src base aa af cc:Int) (ho:op≤127) (h:(ax op==k0_)=true) (hin:decide (0≤op∧op≤31)=true),aE Tryz.prog 72 ([xD op w dst src base aa af cc]) (.bool (cg op w dst src base aa af cc))
theorem AA:qk 3:=by
 intro op w dst src base aa af cc ho h hin
 have c0:= @bZ op ho
 rw [eq_of_beq h] at c0
 generalize g2:bc op=r1 at c0
 generalize g4:cq op=r3 at c0
 have c5:= @Bt op w dst src base aa af cc 3 (rfl:true=true)
 let E1:EL:=([.ret _ _ _ c0]++List.replicate 4 (tC (eF (nt hin)))++ [.ret _ _ _ c5,tC (eF (nt hin)),tC (eF (nt hin)),.flat _ _ eh,tC (nt hin)])
 rcases dT (ab [.int .i8 0,.int .i8 0,.int .i8 0,.int .i8 src,.int .i8 base,.int .i64 aa,.int .i64 0,.int .i8 cc] [.int .i8 0,.int .i8 0,.int .i8 0,.int .i8 0,.int .i8 0,.int .i64 0,.int .i64 0,.int .i8 0]) with h6|h6
 ·have c7:= @cI dst
  generalize g9:bl dst=r8 at c7
  let E2:EL:=E1++List.replicate 3 (tC (eF (nt h6)))++ [.ret _ _ _ c7,tC (eF (nt h6)),tC (nt h6)]
  cases r8
  ·exact (cW (d:= .bool false) (E2++ [tF,tF,tF,tF,tT,tF,tF,tF,tF,tT,tF,tF,tF,tF,tT,tF,tF,tF,tF,tT,tT]) (by kernel_rfl)).to (by clear E1 E2;(try simp only [cB,wk,aw,aM,ab,ak,sM] at*);(simp [wk,aw,aM,ab,ak,sM, *];done))
  have c10:= @cI src
  generalize g12:bl src=r11 at c10
  let E3:EL:=E2++ [tT,tT,tT,.ret _ _ _ c10,tT,tF]
  cases r11
  ·exact (cW (d:= .bool false) (E3++ [tF,tF,tF,tF,tT,tF,tF,tF,tF,tT,tF,tF,tF,tF,tT,tT]) (by kernel_rfl)).to (by clear E1 E2 E3;(try simp only [cB,wk,aw,aM,ab,ak,sM] at*);(simp [wk,aw,aM,ab,ak,sM, *];done))
  have c13:= @cI base
  generalize g15:bl base=r14 at c13
  let E4:EL:=E3++ [tT,tT,tT,.ret _ _ _ c13,tT,tF]
  cases r14
  ·exact (cW (d:= .bool false) (E4++ [tF,tF,tF,tF,tT,tF,tF,tF,tF,tT,tT]) (by kernel_rfl)).to (by clear E1 E2 E3 E4;(try simp only [cB,wk,aw,aM,ab,ak,sM] at*);(simp [wk,aw,aM,ab,ak,sM, *];done))
  have c16:= @bg aa (-2147483648) 2147483647
  let E5:EL:=E4++ [tT,tT,tT,.ret _ _ _ c16,tT,tF]
  rcases dT (decide (aa<(-2147483648))) with h17|h17
  ·exact (cW (d:= .bool false) (E5++List.replicate 4 (tC (eF (nt (cj (y:=decide (aa≤2147483647)) (bR (-2147483648) h17)))))++ [tC (nt (cj (y:=decide (aa≤2147483647)) (bR (-2147483648) h17))),tT]) (by kernel_rfl)).to (by clear E1 E2 E3 E4 E5;(try simp only [cB,wk,aw,aM,ab,ak,sM] at*);(simp [wk,aw,aM,ab,ak,sM, *];omega))
  rcases dT (decide (aa<2147483648)) with h18|h18
  ·have c19:= @bg af (-2147483648) 2147483647
   let E6:EL:=E5++List.replicate 3 (tC (eF (nt (ay (bR (-2147483648) h17) (dC 2147483647 h18)))))++ [.ret _ _ _ c19,tC (eF (nt (ay (bR (-2147483648) h17) (dC 2147483647 h18)))),tC (nt (ay (bR (-2147483648) h17) (dC 2147483647 h18)))]
   rcases dT (decide (af<(-2147483648))) with h20|h20
   ·exact (cW (d:= .bool false) (E6++ [tC (nt (cj (y:=decide (af≤2147483647)) (bR (-2147483648) h20)))]) (by kernel_rfl)).to (by clear E1 E2 E3 E4 E5 E6;(try simp only [cB,wk,aw,aM,ab,ak,sM] at*);(simp [wk,aw,aM,ab,ak,sM, *];omega))
   rcases dT (decide (af<2147483648)) with h21|h21
   ·let E7:EL:=E6++ [tC (nt (ay (bR (-2147483648) h20) (dC 2147483647 h21)))]
    by_cases h22:w=32
    ·subst h22
     exact (cW (d:= .bool true) (E7++ [tF,tF,tF,tT,tF,tF,tF,tF,tF,tT,tF,tF,tT,tT]) (by kernel_rfl)).to (by clear E1 E2 E3 E4 E5 E6 E7;(try simp only [cB,wk,aw,aM,ab,ak,sM] at*);(rw [Bool.eq_iff_iff];simp [wk,aw,aM,ab,ak,sM, *];grind))
    let E8:EL:=E7++List.replicate 3 (tC (eF (av h22)))++ [tC (av h22)]++List.replicate 4 (tC (eF (av h22)))
    by_cases h23:w=8
    ·subst h23
     have c24:= @bg af (-128) 127
     exact (cW (d:= .bool false) (E8++ [tT,tT,tT,.ret _ _ _ c24,tT,tT,tF,tF,tF,tT,tT]) (by kernel_rfl)).to (by clear E1 E2 E3 E4 E5 E6 E7 E8;(try simp only [cB,wk,aw,aM,ab,ak,sM] at*);(simp [wk,aw,aM,ab,ak,sM, *];done))
    exact (cW (d:= .bool (w==64)) (E8++List.replicate 3 (tC (eT (av h23)))++ [tC (eF (av h22)),tC (av h23),tC (av h22),tF,tF,tT,tT]) (by kernel_rfl)).to (by clear E1 E2 E3 E4 E5 E6 E7 E8;(try simp only [cB,wk,aw,aM,ab,ak,sM] at*);(rw [Bool.eq_iff_iff];simp [wk,aw,aM,ab,ak,sM, *];grind))
   exact (cW (d:= .bool false) (E6++ [tC (nt (ay (bR (-2147483648) h20) (dC 2147483647 h21)))]) (by kernel_rfl)).to (by clear E1 E2 E3 E4 E5 E6;(try simp only [cB,wk,aw,aM,ab,ak,sM] at*);(simp [wk,aw,aM,ab,ak,sM, *];omega))
  exact (cW (d:= .bool false) (E5++List.replicate 4 (tC (eF (nt (ay (bR (-2147483648) h17) (dC 2147483647 h18)))))++ [tC (nt (ay (bR (-2147483648) h17) (dC 2147483647 h18))),tT]) (by kernel_rfl)).to (by clear E1 E2 E3 E4 E5;(try simp only [cB,wk,aw,aM,ab,ak,sM] at*);(simp [wk,aw,aM,ab,ak,sM, *];omega))
 exact (cW (d:= .bool false) (E1++List.replicate 4 (tC (eF (nt h6)))++ [tC (nt h6),tF,tF,tF,tF,tT,tF,tF,tF,tF,tT,tF,tF,tF,tF,tT,tF,tF,tF,tF,tT,tT]) (by kernel_rfl)).to (by clear E1;(try simp only [cB,wk,aw,aM,ab,ak,sM] at*);(rw [Bool.eq_iff_iff];simp [wk,aw,aM,ab,ak,sM, *];grind))
theorem Ay:qk 4:=by
 intro op w dst src base aa af cc ho h hin
 have c0:= @bZ op ho
 rw [eq_of_beq h] at c0
 generalize g2:bc op=r1 at c0
 generalize g4:cq op=r3 at c0
 have c5:= @Bs op w dst src base aa af cc 4 (rfl:true=true)
 let E1:EL:=([.ret _ _ _ c0]++List.replicate 4 (tC (eF (nt hin)))++ [.ret _ _ _ c5,tC (eF (nt hin)),tC (eF (nt hin)),.flat _ _ eh,tC (nt hin)])
 rcases dT (ab [.int .i8 0,.int .i8 0,.int .i8 0,.int .i8 src,.int .i8 base,.int .i64 aa,.int .i64 0,.int .i8 cc] [.int .i8 0,.int .i8 0,.int .i8 0,.int .i8 0,.int .i8 0,.int .i64 0,.int .i64 0,.int .i8 0]) with h6|h6
 ·have c7:= @cI dst
  generalize g9:bl dst=r8 at c7
  let E2:EL:=E1++List.replicate 3 (tC (eF (nt h6)))++ [.ret _ _ _ c7,tC (eF (nt h6)),tC (nt h6)]
  cases r8
  ·exact (cW (d:= .bool false) (E2++ [tF,tF,tF,tF,tT,tF,tF,tF,tF,tT,tF,tF,tF,tF,tT,tF,tF,tF,tF,tT,tT]) (by kernel_rfl)).to (by clear E1 E2;(try simp only [cB,wk,aw,aM,ab,ak,sM] at*);(simp [wk,aw,aM,ab,ak,sM, *];done))
  have c10:= @cI src
  generalize g12:bl src=r11 at c10
  let E3:EL:=E2++ [tT,tT,tT,.ret _ _ _ c10,tT,tF]
  cases r11
  ·exact (cW (d:= .bool false) (E3++ [tF,tF,tF,tF,tT,tF,tF,tF,tF,tT,tF,tF,tF,tF,tT,tT]) (by kernel_rfl)).to (by clear E1 E2 E3;(try simp only [cB,wk,aw,aM,ab,ak,sM] at*);(simp [wk,aw,aM,ab,ak,sM, *];done))
  have c13:= @cI base
  generalize g15:bl base=r14 at c13
  let E4:EL:=E3++ [tT,tT,tT,.ret _ _ _ c13,tT,tF]
  cases r14
  ·exact (cW (d:= .bool false) (E4++ [tF,tF,tF,tF,tT,tF,tF,tF,tF,tT,tT]) (by kernel_rfl)).to (by clear E1 E2 E3 E4;(try simp only [cB,wk,aw,aM,ab,ak,sM] at*);(simp [wk,aw,aM,ab,ak,sM, *];done))
  have c16:= @bg aa (-2147483648) 2147483647
  let E5:EL:=E4++ [tT,tT,tT,.ret _ _ _ c16,tT,tF]
  rcases dT (decide (aa<(-2147483648))) with h17|h17
  ·exact (cW (d:= .bool false) (E5++List.replicate 4 (tC (eF (nt (cj (y:=decide (aa≤2147483647)) (bR (-2147483648) h17)))))++ [tC (nt (cj (y:=decide (aa≤2147483647)) (bR (-2147483648) h17))),tT]) (by kernel_rfl)).to (by clear E1 E2 E3 E4 E5;(try simp only [cB,wk,aw,aM,ab,ak,sM] at*);(simp [wk,aw,aM,ab,ak,sM, *];omega))
  rcases dT (decide (aa<2147483648)) with h18|h18
  ·have c19:= @bg af (-2147483648) 2147483647
   let E6:EL:=E5++List.replicate 3 (tC (eF (nt (ay (bR (-2147483648) h17) (dC 2147483647 h18)))))++ [.ret _ _ _ c19,tC (eF (nt (ay (bR (-2147483648) h17) (dC 2147483647 h18)))),tC (nt (ay (bR (-2147483648) h17) (dC 2147483647 h18)))]
   rcases dT (decide (af<(-2147483648))) with h20|h20
   ·exact (cW (d:= .bool false) (E6++ [tC (nt (cj (y:=decide (af≤2147483647)) (bR (-2147483648) h20)))]) (by kernel_rfl)).to (by clear E1 E2 E3 E4 E5 E6;(try simp only [cB,wk,aw,aM,ab,ak,sM] at*);(simp [wk,aw,aM,ab,ak,sM, *];omega))
   rcases dT (decide (af<2147483648)) with h21|h21
   ·let E7:EL:=E6++ [tC (nt (ay (bR (-2147483648) h20) (dC 2147483647 h21)))]
    by_cases h22:w=32
    ·subst h22
     have c23:= @bg af 0 31
     exact (cW (d:= .bool (decide (0≤af)&&decide (af≤31))) (E7++ [tF,tF,tF,tT,tF,tF,tF,tF,tF,tT,tF,tF,tF,tF]++List.replicate 8 tT++ [.ret _ _ _ c23,tT]) (by kernel_rfl)).to (by clear E1 E2 E3 E4 E5 E6 E7;(try simp only [cB,wk,aw,aM,ab,ak,sM] at*);(rw [Bool.eq_iff_iff];simp [wk,aw,aM,ab,ak,sM, *];grind))
    let E8:EL:=E7++List.replicate 3 (tC (eF (av h22)))++ [tC (av h22)]++List.replicate 4 (tC (eF (av h22)))
    by_cases h24:w=8
    ·subst h24
     have c25:= @bg af (-128) 127
     exact (cW (d:= .bool false) (E8++ [tT,tT,tT,.ret _ _ _ c25,tT,tT,tF,tF,tF,tF,tF,tT]++List.replicate 8 tF) (by kernel_rfl)).to (by clear E1 E2 E3 E4 E5 E6 E7 E8;(try simp only [cB,wk,aw,aM,ab,ak,sM] at*);(simp [wk,aw,aM,ab,ak,sM, *];done))
    let E9:EL:=E8++List.replicate 3 (tC (eT (av h24)))++ [tC (eF (av h22)),tC (av h24),tC (av h22),tF,tF,tF,tF,tT]
    by_cases h26:w=64
    ·subst h26
     have c27:= @bg af 0 63
     exact (cW (d:= .bool (decide (0≤af)&&decide (af≤63))) (E9++ [tT,tT,tT,tT,tT,tT,tT,.ret _ _ _ c27,tT]) (by kernel_rfl)).to (by clear E1 E2 E3 E4 E5 E6 E7 E8 E9;(try simp only [cB,wk,aw,aM,ab,ak,sM] at*);(rw [Bool.eq_iff_iff];simp [wk,aw,aM,ab,ak,sM, *];grind))
    exact (cW (d:= .bool false) (E9++List.replicate 7 (tC (eT (av h26)))++ [tC (av h26)]) (by kernel_rfl)).to (by clear E1 E2 E3 E4 E5 E6 E7 E8 E9;(try simp only [cB,wk,aw,aM,ab,ak,sM] at*);(simp [wk,aw,aM,ab,ak,sM, *];done))
   exact (cW (d:= .bool false) (E6++ [tC (nt (ay (bR (-2147483648) h20) (dC 2147483647 h21)))]) (by kernel_rfl)).to (by clear E1 E2 E3 E4 E5 E6;(try simp only [cB,wk,aw,aM,ab,ak,sM] at*);(simp [wk,aw,aM,ab,ak,sM, *];omega))
  exact (cW (d:= .bool false) (E5++List.replicate 4 (tC (eF (nt (ay (bR (-2147483648) h17) (dC 2147483647 h18)))))++ [tC (nt (ay (bR (-2147483648) h17) (dC 2147483647 h18))),tT]) (by kernel_rfl)).to (by clear E1 E2 E3 E4 E5;(try simp only [cB,wk,aw,aM,ab,ak,sM] at*);(simp [wk,aw,aM,ab,ak,sM, *];omega))
 exact (cW (d:= .bool false) (E1++List.replicate 4 (tC (eF (nt h6)))++ [tC (nt h6),tF,tF,tF,tF,tT,tF,tF,tF,tF,tT,tF,tF,tF,tF,tT,tF,tF,tF,tF,tT,tT]) (by kernel_rfl)).to (by clear E1;(try simp only [cB,wk,aw,aM,ab,ak,sM] at*);(rw [Bool.eq_iff_iff];simp [wk,aw,aM,ab,ak,sM, *];grind))
theorem Ax:qk 5:=by
 intro op w dst src base aa af cc ho h hin
 have c0:= @bZ op ho
 rw [eq_of_beq h] at c0
 generalize g2:bc op=r1 at c0
 generalize g4:cq op=r3 at c0
 have c5:= @Br op w dst src base aa af cc 5 (rfl:true=true)
 let E1:EL:=([.ret _ _ _ c0]++List.replicate 4 (tC (eF (nt hin)))++ [.ret _ _ _ c5,tC (eF (nt hin)),tC (eF (nt hin)),.flat _ _ eh,tC (nt hin)])
 rcases dT (ab [.int .i8 0,.int .i8 0,.int .i8 0,.int .i8 src,.int .i8 base,.int .i64 aa,.int .i64 af,.int .i8 cc] [.int .i8 0,.int .i8 0,.int .i8 0,.int .i8 0,.int .i8 0,.int .i64 0,.int .i64 0,.int .i8 0]) with h6|h6
 ·have c7:= @cI dst
  generalize g9:bl dst=r8 at c7
  let E2:EL:=E1++List.replicate 3 (tC (eF (nt h6)))++ [.ret _ _ _ c7,tC (eF (nt h6)),tC (nt h6)]
  cases r8
  ·exact (cW (d:= .bool false) (E2++ [tF,tF,tF,tF,tT,tF,tF,tF,tF,tT,tF,tF,tF,tF,tT,tF,tF,tF,tF,tT,tT]) (by kernel_rfl)).to (by clear E1 E2;(try simp only [cB,wk,aw,aM,ab,ak,sM] at*);(simp [wk,aw,aM,ab,ak,sM, *];done))
  have c10:= @cI src
  generalize g12:bl src=r11 at c10
  let E3:EL:=E2++ [tT,tT,tT,.ret _ _ _ c10,tT,tF]
  cases r11
  ·exact (cW (d:= .bool false) (E3++ [tF,tF,tF,tF,tT,tF,tF,tF,tF,tT,tF,tF,tF,tF,tT,tT]) (by kernel_rfl)).to (by clear E1 E2 E3;(try simp only [cB,wk,aw,aM,ab,ak,sM] at*);(simp [wk,aw,aM,ab,ak,sM, *];done))
  have c13:= @cI base
  generalize g15:bl base=r14 at c13
  let E4:EL:=E3++ [tT,tT,tT,.ret _ _ _ c13,tT,tF]
  cases r14
  ·exact (cW (d:= .bool false) (E4++ [tF,tF,tF,tF,tT,tF,tF,tF,tF,tT,tT]) (by kernel_rfl)).to (by clear E1 E2 E3 E4;(try simp only [cB,wk,aw,aM,ab,ak,sM] at*);(simp [wk,aw,aM,ab,ak,sM, *];done))
  have c16:= @bg aa (-2147483648) 2147483647
  let E5:EL:=E4++ [tT,tT,tT,.ret _ _ _ c16,tT,tF]
  rcases dT (decide (aa<(-2147483648))) with h17|h17
  ·exact (cW (d:= .bool false) (E5++List.replicate 4 (tC (eF (nt (cj (y:=decide (aa≤2147483647)) (bR (-2147483648) h17)))))++ [tC (nt (cj (y:=decide (aa≤2147483647)) (bR (-2147483648) h17))),tT]) (by kernel_rfl)).to (by clear E1 E2 E3 E4 E5;(try simp only [cB,wk,aw,aM,ab,ak,sM] at*);(simp [wk,aw,aM,ab,ak,sM, *];omega))
  rcases dT (decide (aa<2147483648)) with h18|h18
  ·have c19:= @bg af (-2147483648) 2147483647
   let E6:EL:=E5++List.replicate 3 (tC (eF (nt (ay (bR (-2147483648) h17) (dC 2147483647 h18)))))++ [.ret _ _ _ c19,tC (eF (nt (ay (bR (-2147483648) h17) (dC 2147483647 h18)))),tC (nt (ay (bR (-2147483648) h17) (dC 2147483647 h18)))]
   rcases dT (decide (af<(-2147483648))) with h20|h20
   ·exact (cW (d:= .bool false) (E6++ [tC (nt (cj (y:=decide (af≤2147483647)) (bR (-2147483648) h20)))]) (by kernel_rfl)).to (by clear E1 E2 E3 E4 E5 E6;(try simp only [cB,wk,aw,aM,ab,ak,sM] at*);(simp [wk,aw,aM,ab,ak,sM, *];omega))
   rcases dT (decide (af<2147483648)) with h21|h21
   ·let E7:EL:=E6++ [tC (nt (ay (bR (-2147483648) h20) (dC 2147483647 h21)))]
    by_cases h22:w=32
    ·subst h22
     exact (cW (d:= .bool true) (E7++ [tF,tF,tF,tT,tF,tF,tF,tF,tF,tT,tF,tF,tF,tT]) (by kernel_rfl)).to (by clear E1 E2 E3 E4 E5 E6 E7;(try simp only [cB,wk,aw,aM,ab,ak,sM] at*);(rw [Bool.eq_iff_iff];simp [wk,aw,aM,ab,ak,sM, *];grind))
    let E8:EL:=E7++List.replicate 3 (tC (eF (av h22)))++ [tC (av h22)]++List.replicate 4 (tC (eF (av h22)))
    by_cases h23:w=8
    ·subst h23
     have c24:= @bg af (-128) 127
     exact (cW (d:= .bool false) (E8++ [tT,tT,tT,.ret _ _ _ c24,tT,tT,tF,tF,tF,tF,tT]) (by kernel_rfl)).to (by clear E1 E2 E3 E4 E5 E6 E7 E8;(try simp only [cB,wk,aw,aM,ab,ak,sM] at*);(simp [wk,aw,aM,ab,ak,sM, *];done))
    exact (cW (d:= .bool (w==64)) (E8++List.replicate 3 (tC (eT (av h23)))++ [tC (eF (av h22)),tC (av h23),tC (av h22),tF,tF,tF,tT]) (by kernel_rfl)).to (by clear E1 E2 E3 E4 E5 E6 E7 E8;(try simp only [cB,wk,aw,aM,ab,ak,sM] at*);(rw [Bool.eq_iff_iff];simp [wk,aw,aM,ab,ak,sM, *];grind))
   exact (cW (d:= .bool false) (E6++ [tC (nt (ay (bR (-2147483648) h20) (dC 2147483647 h21)))]) (by kernel_rfl)).to (by clear E1 E2 E3 E4 E5 E6;(try simp only [cB,wk,aw,aM,ab,ak,sM] at*);(simp [wk,aw,aM,ab,ak,sM, *];omega))
  exact (cW (d:= .bool false) (E5++List.replicate 4 (tC (eF (nt (ay (bR (-2147483648) h17) (dC 2147483647 h18)))))++ [tC (nt (ay (bR (-2147483648) h17) (dC 2147483647 h18))),tT]) (by kernel_rfl)).to (by clear E1 E2 E3 E4 E5;(try simp only [cB,wk,aw,aM,ab,ak,sM] at*);(simp [wk,aw,aM,ab,ak,sM, *];omega))
 exact (cW (d:= .bool false) (E1++List.replicate 4 (tC (eF (nt h6)))++ [tC (nt h6),tF,tF,tF,tF,tT,tF,tF,tF,tF,tT,tF,tF,tF,tF,tT,tF,tF,tF,tF,tT,tT]) (by kernel_rfl)).to (by clear E1;(try simp only [cB,wk,aw,aM,ab,ak,sM] at*);(rw [Bool.eq_iff_iff];simp [wk,aw,aM,ab,ak,sM, *];grind))
def qj (k0_:Int):Prop:= ∀(op w dst src base aa af cc:Int) (ho:op≤127) (h:(ax op==k0_)=true) (hin:decide (0≤op∧op≤31)=true),aE Tryz.prog 72 ([xD op w dst src base aa af cc]) (.bool (cg op w dst src base aa af cc))
theorem Aw:qj 6:=by
 intro op w dst src base aa af cc ho h hin
 have c0:= @bZ op ho
 rw [eq_of_beq h] at c0
 generalize g2:bc op=r1 at c0
 generalize g4:cq op=r3 at c0
 have c5:= @Bq op w dst src base aa af cc 6 (rfl:true=true)
 let E1:EL:=([.ret _ _ _ c0]++List.replicate 4 (tC (eF (nt hin)))++ [.ret _ _ _ c5,tC (eF (nt hin)),tC (eF (nt hin)),.flat _ _ eh,tC (nt hin)])
 rcases dT (ab [.int .i8 0,.int .i8 0,.int .i8 0,.int .i8 0,.int .i8 base,.int .i64 aa,.int .i64 af,.int .i8 0] [.int .i8 0,.int .i8 0,.int .i8 0,.int .i8 0,.int .i8 0,.int .i64 0,.int .i64 0,.int .i8 0]) with h6|h6
 ·have c7:= @cI dst
  generalize g9:bl dst=r8 at c7
  let E2:EL:=E1++List.replicate 3 (tC (eF (nt h6)))++ [.ret _ _ _ c7,tC (eF (nt h6)),tC (nt h6)]
  cases r8
  ·exact (cW (d:= .bool false) (E2++ [tF,tF,tF,tF,tT,tF,tF,tF,tF,tT,tF,tF,tF,tF,tT,tF,tF,tF,tF,tT,tT]) (by kernel_rfl)).to (by clear E1 E2;(try simp only [cB,wk,aw,aM,ab,ak,sM] at*);(simp [wk,aw,aM,ab,ak,sM, *];done))
  have c10:= @cI src
  generalize g12:bl src=r11 at c10
  let E3:EL:=E2++ [tT,tT,tT,.ret _ _ _ c10,tT,tF]
  cases r11
  ·exact (cW (d:= .bool false) (E3++ [tF,tF,tF,tF,tT,tF,tF,tF,tF,tT,tF,tF,tF,tF,tT,tT]) (by kernel_rfl)).to (by clear E1 E2 E3;(try simp only [cB,wk,aw,aM,ab,ak,sM] at*);(simp [wk,aw,aM,ab,ak,sM, *];done))
  have c13:= @cI base
  generalize g15:bl base=r14 at c13
  let E4:EL:=E3++ [tT,tT,tT,.ret _ _ _ c13,tT,tF]
  cases r14
  ·exact (cW (d:= .bool false) (E4++ [tF,tF,tF,tF,tT,tF,tF,tF,tF,tT,tT]) (by kernel_rfl)).to (by clear E1 E2 E3 E4;(try simp only [cB,wk,aw,aM,ab,ak,sM] at*);(simp [wk,aw,aM,ab,ak,sM, *];done))
  have c16:= @bg aa (-2147483648) 2147483647
  let E5:EL:=E4++ [tT,tT,tT,.ret _ _ _ c16,tT,tF]
  rcases dT (decide (aa<(-2147483648))) with h17|h17
  ·exact (cW (d:= .bool false) (E5++List.replicate 4 (tC (eF (nt (cj (y:=decide (aa≤2147483647)) (bR (-2147483648) h17)))))++ [tC (nt (cj (y:=decide (aa≤2147483647)) (bR (-2147483648) h17))),tT]) (by kernel_rfl)).to (by clear E1 E2 E3 E4 E5;(try simp only [cB,wk,aw,aM,ab,ak,sM] at*);(simp [wk,aw,aM,ab,ak,sM, *];omega))
  rcases dT (decide (aa<2147483648)) with h18|h18
  ·have c19:= @bg af (-2147483648) 2147483647
   let E6:EL:=E5++List.replicate 3 (tC (eF (nt (ay (bR (-2147483648) h17) (dC 2147483647 h18)))))++ [.ret _ _ _ c19,tC (eF (nt (ay (bR (-2147483648) h17) (dC 2147483647 h18)))),tC (nt (ay (bR (-2147483648) h17) (dC 2147483647 h18)))]
   rcases dT (decide (af<(-2147483648))) with h20|h20
   ·exact (cW (d:= .bool false) (E6++ [tC (nt (cj (y:=decide (af≤2147483647)) (bR (-2147483648) h20)))]) (by kernel_rfl)).to (by clear E1 E2 E3 E4 E5 E6;(try simp only [cB,wk,aw,aM,ab,ak,sM] at*);(simp [wk,aw,aM,ab,ak,sM, *];omega))
   rcases dT (decide (af<2147483648)) with h21|h21
   ·let E7:EL:=E6++ [tC (nt (ay (bR (-2147483648) h20) (dC 2147483647 h21)))]
    by_cases h22:w=32
    ·subst h22
     have c23:= @oD cc
     generalize g25:ff cc=r24 at c23
     exact (cW (d:= .bool r24) (E7++ [tF,tF,tF,tT,tF,tF,tF,tF,tF,tT,tF,tF,tF,tF,tF,tT,tT,tT,tT,.ret _ _ _ c23,tT]) (by kernel_rfl)).to (by clear E1 E2 E3 E4 E5 E6 E7;(try simp only [cB,wk,aw,aM,ab,ak,sM] at*);(rw [Bool.eq_iff_iff];simp [wk,aw,aM,ab,ak,sM, *];grind))
    let E8:EL:=E7++List.replicate 3 (tC (eF (av h22)))++ [tC (av h22)]++List.replicate 4 (tC (eF (av h22)))
    by_cases h26:w=8
    ·subst h26
     have c27:= @bg af (-128) 127
     exact (cW (d:= .bool false) (E8++ [tT,tT,tT,.ret _ _ _ c27,tT,tT,tF,tF,tF,tF,tF,tF,tT,tF,tF,tF,tF]) (by kernel_rfl)).to (by clear E1 E2 E3 E4 E5 E6 E7 E8;(try simp only [cB,wk,aw,aM,ab,ak,sM] at*);(simp [wk,aw,aM,ab,ak,sM, *];done))
    let E9:EL:=E8++List.replicate 3 (tC (eT (av h26)))++ [tC (eF (av h22)),tC (av h26),tC (av h22),tF,tF,tF,tF,tF,tT]
    by_cases h28:w=64
    ·subst h28
     have c29:= @oD cc
     generalize g31:ff cc=r30 at c29
     exact (cW (d:= .bool r30) (E9++ [tT,tT,tT,.ret _ _ _ c29,tT]) (by kernel_rfl)).to (by clear E1 E2 E3 E4 E5 E6 E7 E8 E9;(try simp only [cB,wk,aw,aM,ab,ak,sM] at*);(rw [Bool.eq_iff_iff];simp [wk,aw,aM,ab,ak,sM, *];grind))
    exact (cW (d:= .bool false) (E9++List.replicate 3 (tC (eT (av h28)))++ [tC (av h28)]) (by kernel_rfl)).to (by clear E1 E2 E3 E4 E5 E6 E7 E8 E9;(try simp only [cB,wk,aw,aM,ab,ak,sM] at*);(simp [wk,aw,aM,ab,ak,sM, *];done))
   exact (cW (d:= .bool false) (E6++ [tC (nt (ay (bR (-2147483648) h20) (dC 2147483647 h21)))]) (by kernel_rfl)).to (by clear E1 E2 E3 E4 E5 E6;(try simp only [cB,wk,aw,aM,ab,ak,sM] at*);(simp [wk,aw,aM,ab,ak,sM, *];omega))
  exact (cW (d:= .bool false) (E5++List.replicate 4 (tC (eF (nt (ay (bR (-2147483648) h17) (dC 2147483647 h18)))))++ [tC (nt (ay (bR (-2147483648) h17) (dC 2147483647 h18))),tT]) (by kernel_rfl)).to (by clear E1 E2 E3 E4 E5;(try simp only [cB,wk,aw,aM,ab,ak,sM] at*);(simp [wk,aw,aM,ab,ak,sM, *];omega))
 exact (cW (d:= .bool false) (E1++List.replicate 4 (tC (eF (nt h6)))++ [tC (nt h6),tF,tF,tF,tF,tT,tF,tF,tF,tF,tT,tF,tF,tF,tF,tT,tF,tF,tF,tF,tT,tT]) (by kernel_rfl)).to (by clear E1;(try simp only [cB,wk,aw,aM,ab,ak,sM] at*);(rw [Bool.eq_iff_iff];simp [wk,aw,aM,ab,ak,sM, *];grind))
theorem Av:qj 7:=by
 intro op w dst src base aa af cc ho h hin
 have c0:= @bZ op ho
 rw [eq_of_beq h] at c0
 generalize g2:bc op=r1 at c0
 generalize g4:cq op=r3 at c0
 have c5:= @Bp op w dst src base aa af cc 7 (rfl:true=true)
 let E1:EL:=([.ret _ _ _ c0]++List.replicate 4 (tC (eF (nt hin)))++ [.ret _ _ _ c5,tC (eF (nt hin)),tC (eF (nt hin)),.flat _ _ eh,tC (nt hin)])
 rcases dT (ab [.int .i8 0,.int .i8 0,.int .i8 0,.int .i8 src,.int .i8 0,.int .i64 0,.int .i64 af,.int .i8 cc] [.int .i8 0,.int .i8 0,.int .i8 0,.int .i8 0,.int .i8 0,.int .i64 0,.int .i64 0,.int .i8 0]) with h6|h6
 ·have c7:= @cI dst
  generalize g9:bl dst=r8 at c7
  let E2:EL:=E1++List.replicate 3 (tC (eF (nt h6)))++ [.ret _ _ _ c7,tC (eF (nt h6)),tC (nt h6)]
  cases r8
  ·exact (cW (d:= .bool false) (E2++ [tF,tF,tF,tF,tT,tF,tF,tF,tF,tT,tF,tF,tF,tF,tT,tF,tF,tF,tF,tT,tT]) (by kernel_rfl)).to (by clear E1 E2;(try simp only [cB,wk,aw,aM,ab,ak,sM] at*);(simp [wk,aw,aM,ab,ak,sM, *];done))
  have c10:= @cI src
  generalize g12:bl src=r11 at c10
  let E3:EL:=E2++ [tT,tT,tT,.ret _ _ _ c10,tT,tF]
  cases r11
  ·exact (cW (d:= .bool false) (E3++ [tF,tF,tF,tF,tT,tF,tF,tF,tF,tT,tF,tF,tF,tF,tT,tT]) (by kernel_rfl)).to (by clear E1 E2 E3;(try simp only [cB,wk,aw,aM,ab,ak,sM] at*);(simp [wk,aw,aM,ab,ak,sM, *];done))
  have c13:= @cI base
  generalize g15:bl base=r14 at c13
  let E4:EL:=E3++ [tT,tT,tT,.ret _ _ _ c13,tT,tF]
  cases r14
  ·exact (cW (d:= .bool false) (E4++ [tF,tF,tF,tF,tT,tF,tF,tF,tF,tT,tT]) (by kernel_rfl)).to (by clear E1 E2 E3 E4;(try simp only [cB,wk,aw,aM,ab,ak,sM] at*);(simp [wk,aw,aM,ab,ak,sM, *];done))
  have c16:= @bg aa (-2147483648) 2147483647
  let E5:EL:=E4++ [tT,tT,tT,.ret _ _ _ c16,tT,tF]
  rcases dT (decide (aa<(-2147483648))) with h17|h17
  ·exact (cW (d:= .bool false) (E5++List.replicate 4 (tC (eF (nt (cj (y:=decide (aa≤2147483647)) (bR (-2147483648) h17)))))++ [tC (nt (cj (y:=decide (aa≤2147483647)) (bR (-2147483648) h17))),tT]) (by kernel_rfl)).to (by clear E1 E2 E3 E4 E5;(try simp only [cB,wk,aw,aM,ab,ak,sM] at*);(simp [wk,aw,aM,ab,ak,sM, *];omega))
  rcases dT (decide (aa<2147483648)) with h18|h18
  ·have c19:= @bg af (-2147483648) 2147483647
   let E6:EL:=E5++List.replicate 3 (tC (eF (nt (ay (bR (-2147483648) h17) (dC 2147483647 h18)))))++ [.ret _ _ _ c19,tC (eF (nt (ay (bR (-2147483648) h17) (dC 2147483647 h18)))),tC (nt (ay (bR (-2147483648) h17) (dC 2147483647 h18)))]
   rcases dT (decide (af<(-2147483648))) with h20|h20
   ·exact (cW (d:= .bool false) (E6++ [tC (nt (cj (y:=decide (af≤2147483647)) (bR (-2147483648) h20)))]) (by kernel_rfl)).to (by clear E1 E2 E3 E4 E5 E6;(try simp only [cB,wk,aw,aM,ab,ak,sM] at*);(simp [wk,aw,aM,ab,ak,sM, *];omega))
   rcases dT (decide (af<2147483648)) with h21|h21
   ·let E7:EL:=E6++ [tC (nt (ay (bR (-2147483648) h20) (dC 2147483647 h21)))]
    by_cases h22:w=32
    ·subst h22
     have c23:= @jq 32
     exact (cW (d:= .bool true) (E7++ [tF,tF,tF,tT,tF,tF,tF,tF,tF,tT,tF,tF,tF,tF,tF,tF,tT,tT,.ret _ _ _ c23]) (by kernel_rfl)).to (by clear E1 E2 E3 E4 E5 E6 E7;(try simp only [cB,wk,aw,aM,ab,ak,sM] at*);(rw [Bool.eq_iff_iff];simp [wk,aw,aM,ab,ak,sM, *];grind))
    let E8:EL:=E7++List.replicate 3 (tC (eF (av h22)))++ [tC (av h22)]++List.replicate 4 (tC (eF (av h22)))
    by_cases h24:w=8
    ·subst h24
     have c25:= @bg af (-128) 127
     have c26:= @jq 8
     exact (cW (d:= .bool true) (E8++ [tT,tT,tT,.ret _ _ _ c25,tT,tT,tF,tF,tF,tF,tF,tF,tF,tT,tT,.ret _ _ _ c26]) (by kernel_rfl)).to (by clear E1 E2 E3 E4 E5 E6 E7 E8;(try simp only [cB,wk,aw,aM,ab,ak,sM] at*);(rw [Bool.eq_iff_iff];simp [wk,aw,aM,ab,ak,sM, *];grind))
    have c27:= @jq w
    generalize g29:bh w=r28 at c27
    exact (cW (d:= .bool r28) (E8++List.replicate 3 (tC (eT (av h24)))++ [tC (eF (av h22)),tC (av h24),tC (av h22),tF,tF,tF,tF,tF,tF,tT,tT,.ret _ _ _ c27]) (by kernel_rfl)).to (by clear E1 E2 E3 E4 E5 E6 E7 E8;(try simp only [cB,wk,aw,aM,ab,ak,sM] at*);(rw [Bool.eq_iff_iff];simp [wk,aw,aM,ab,ak,sM, *];grind))
   exact (cW (d:= .bool false) (E6++ [tC (nt (ay (bR (-2147483648) h20) (dC 2147483647 h21)))]) (by kernel_rfl)).to (by clear E1 E2 E3 E4 E5 E6;(try simp only [cB,wk,aw,aM,ab,ak,sM] at*);(simp [wk,aw,aM,ab,ak,sM, *];omega))
  exact (cW (d:= .bool false) (E5++List.replicate 4 (tC (eF (nt (ay (bR (-2147483648) h17) (dC 2147483647 h18)))))++ [tC (nt (ay (bR (-2147483648) h17) (dC 2147483647 h18))),tT]) (by kernel_rfl)).to (by clear E1 E2 E3 E4 E5;(try simp only [cB,wk,aw,aM,ab,ak,sM] at*);(simp [wk,aw,aM,ab,ak,sM, *];omega))
 exact (cW (d:= .bool false) (E1++List.replicate 4 (tC (eF (nt h6)))++ [tC (nt h6),tF,tF,tF,tF,tT,tF,tF,tF,tF,tT,tF,tF,tF,tF,tT,tF,tF,tF,tF,tT,tT]) (by kernel_rfl)).to (by clear E1;(try simp only [cB,wk,aw,aM,ab,ak,sM] at*);(rw [Bool.eq_iff_iff];simp [wk,aw,aM,ab,ak,sM, *];grind))
theorem Au:qj 8:=by
 intro op w dst src base aa af cc ho h hin
 have c0:= @bZ op ho
 rw [eq_of_beq h] at c0
 generalize g2:bc op=r1 at c0
 generalize g4:cq op=r3 at c0
 have c5:= @Bo op w dst src base aa af cc 8 (rfl:true=true)
 let E1:EL:=([.ret _ _ _ c0]++List.replicate 4 (tC (eF (nt hin)))++ [.ret _ _ _ c5,tC (eF (nt hin)),tC (eF (nt hin)),.flat _ _ eh,tC (nt hin)])
 rcases dT (ab [.int .i8 0,.int .i8 0,.int .i8 dst,.int .i8 0,.int .i8 0,.int .i64 0,.int .i64 af,.int .i8 cc] [.int .i8 0,.int .i8 0,.int .i8 0,.int .i8 0,.int .i8 0,.int .i64 0,.int .i64 0,.int .i8 0]) with h6|h6
 ·have c7:= @cI dst
  generalize g9:bl dst=r8 at c7
  let E2:EL:=E1++List.replicate 3 (tC (eF (nt h6)))++ [.ret _ _ _ c7,tC (eF (nt h6)),tC (nt h6)]
  cases r8
  ·exact (cW (d:= .bool false) (E2++ [tF,tF,tF,tF,tT,tF,tF,tF,tF,tT,tF,tF,tF,tF,tT,tF,tF,tF,tF,tT,tT]) (by kernel_rfl)).to (by clear E1 E2;(try simp only [cB,wk,aw,aM,ab,ak,sM] at*);(simp [wk,aw,aM,ab,ak,sM, *];done))
  have c10:= @cI src
  generalize g12:bl src=r11 at c10
  let E3:EL:=E2++ [tT,tT,tT,.ret _ _ _ c10,tT,tF]
  cases r11
  ·exact (cW (d:= .bool false) (E3++ [tF,tF,tF,tF,tT,tF,tF,tF,tF,tT,tF,tF,tF,tF,tT,tT]) (by kernel_rfl)).to (by clear E1 E2 E3;(try simp only [cB,wk,aw,aM,ab,ak,sM] at*);(simp [wk,aw,aM,ab,ak,sM, *];done))
  have c13:= @cI base
  generalize g15:bl base=r14 at c13
  let E4:EL:=E3++ [tT,tT,tT,.ret _ _ _ c13,tT,tF]
  cases r14
  ·exact (cW (d:= .bool false) (E4++ [tF,tF,tF,tF,tT,tF,tF,tF,tF,tT,tT]) (by kernel_rfl)).to (by clear E1 E2 E3 E4;(try simp only [cB,wk,aw,aM,ab,ak,sM] at*);(simp [wk,aw,aM,ab,ak,sM, *];done))
  have c16:= @bg aa (-2147483648) 2147483647
  let E5:EL:=E4++ [tT,tT,tT,.ret _ _ _ c16,tT,tF]
  rcases dT (decide (aa<(-2147483648))) with h17|h17
  ·exact (cW (d:= .bool false) (E5++List.replicate 4 (tC (eF (nt (cj (y:=decide (aa≤2147483647)) (bR (-2147483648) h17)))))++ [tC (nt (cj (y:=decide (aa≤2147483647)) (bR (-2147483648) h17))),tT]) (by kernel_rfl)).to (by clear E1 E2 E3 E4 E5;(try simp only [cB,wk,aw,aM,ab,ak,sM] at*);(simp [wk,aw,aM,ab,ak,sM, *];omega))
  rcases dT (decide (aa<2147483648)) with h18|h18
  ·have c19:= @bg af (-2147483648) 2147483647
   let E6:EL:=E5++List.replicate 3 (tC (eF (nt (ay (bR (-2147483648) h17) (dC 2147483647 h18)))))++ [.ret _ _ _ c19,tC (eF (nt (ay (bR (-2147483648) h17) (dC 2147483647 h18)))),tC (nt (ay (bR (-2147483648) h17) (dC 2147483647 h18)))]
   rcases dT (decide (af<(-2147483648))) with h20|h20
   ·exact (cW (d:= .bool false) (E6++ [tC (nt (cj (y:=decide (af≤2147483647)) (bR (-2147483648) h20)))]) (by kernel_rfl)).to (by clear E1 E2 E3 E4 E5 E6;(try simp only [cB,wk,aw,aM,ab,ak,sM] at*);(simp [wk,aw,aM,ab,ak,sM, *];omega))
   rcases dT (decide (af<2147483648)) with h21|h21
   ·let E7:EL:=E6++ [tC (nt (ay (bR (-2147483648) h20) (dC 2147483647 h21)))]
    by_cases h22:w=32
    ·subst h22
     have c23:= @jq 32
     exact (cW (d:= .bool true) (E7++ [tF,tF,tF,tT,tF,tF,tF,tF,tF,tT,tF,tF,tF,tF,tF,tF,tF,tT,.ret _ _ _ c23]) (by kernel_rfl)).to (by clear E1 E2 E3 E4 E5 E6 E7;(try simp only [cB,wk,aw,aM,ab,ak,sM] at*);(rw [Bool.eq_iff_iff];simp [wk,aw,aM,ab,ak,sM, *];grind))
    let E8:EL:=E7++List.replicate 3 (tC (eF (av h22)))++ [tC (av h22)]++List.replicate 4 (tC (eF (av h22)))
    by_cases h24:w=8
    ·subst h24
     have c25:= @bg af (-128) 127
     have c26:= @jq 8
     exact (cW (d:= .bool true) (E8++ [tT,tT,tT,.ret _ _ _ c25,tT,tT]++List.replicate 8 tF++ [tT,.ret _ _ _ c26]) (by kernel_rfl)).to (by clear E1 E2 E3 E4 E5 E6 E7 E8;(try simp only [cB,wk,aw,aM,ab,ak,sM] at*);(rw [Bool.eq_iff_iff];simp [wk,aw,aM,ab,ak,sM, *];grind))
    have c27:= @jq w
    generalize g29:bh w=r28 at c27
    exact (cW (d:= .bool r28) (E8++List.replicate 3 (tC (eT (av h24)))++ [tC (eF (av h22)),tC (av h24),tC (av h22),tF,tF,tF,tF,tF,tF,tF,tT,.ret _ _ _ c27]) (by kernel_rfl)).to (by clear E1 E2 E3 E4 E5 E6 E7 E8;(try simp only [cB,wk,aw,aM,ab,ak,sM] at*);(rw [Bool.eq_iff_iff];simp [wk,aw,aM,ab,ak,sM, *];grind))
   exact (cW (d:= .bool false) (E6++ [tC (nt (ay (bR (-2147483648) h20) (dC 2147483647 h21)))]) (by kernel_rfl)).to (by clear E1 E2 E3 E4 E5 E6;(try simp only [cB,wk,aw,aM,ab,ak,sM] at*);(simp [wk,aw,aM,ab,ak,sM, *];omega))
  exact (cW (d:= .bool false) (E5++List.replicate 4 (tC (eF (nt (ay (bR (-2147483648) h17) (dC 2147483647 h18)))))++ [tC (nt (ay (bR (-2147483648) h17) (dC 2147483647 h18))),tT]) (by kernel_rfl)).to (by clear E1 E2 E3 E4 E5;(try simp only [cB,wk,aw,aM,ab,ak,sM] at*);(simp [wk,aw,aM,ab,ak,sM, *];omega))
 exact (cW (d:= .bool false) (E1++List.replicate 4 (tC (eF (nt h6)))++ [tC (nt h6),tF,tF,tF,tF,tT,tF,tF,tF,tF,tT,tF,tF,tF,tF,tT,tF,tF,tF,tF,tT,tT]) (by kernel_rfl)).to (by clear E1;(try simp only [cB,wk,aw,aM,ab,ak,sM] at*);(rw [Bool.eq_iff_iff];simp [wk,aw,aM,ab,ak,sM, *];grind))
def qi (k0_:Int):Prop:= ∀(op w dst src base aa af cc:Int) (ho:op≤127) (h:(ax op==k0_)=true) (hin:decide (0≤op∧op≤31)=true),aE Tryz.prog 72 ([xD op w dst src base aa af cc]) (.bool (cg op w dst src base aa af cc))
theorem Ar:qi 9:=by
 intro op w dst src base aa af cc ho h hin
 have c0:= @bZ op ho
 rw [eq_of_beq h] at c0
 generalize g2:bc op=r1 at c0
 generalize g4:cq op=r3 at c0
 have c5:= @Bn op w dst src base aa af cc 9 (rfl:true=true)
 let E1:EL:=([.ret _ _ _ c0]++List.replicate 4 (tC (eF (nt hin)))++ [.ret _ _ _ c5,tC (eF (nt hin)),tC (eF (nt hin)),.flat _ _ eh,tC (nt hin)])
 rcases dT (ab [.int .i8 0,.int .i8 0,.int .i8 dst,.int .i8 src,.int .i8 base,.int .i64 aa,.int .i64 0,.int .i8 cc] [.int .i8 0,.int .i8 0,.int .i8 0,.int .i8 0,.int .i8 0,.int .i64 0,.int .i64 0,.int .i8 0]) with h6|h6
 ·have c7:= @cI dst
  generalize g9:bl dst=r8 at c7
  let E2:EL:=E1++List.replicate 3 (tC (eF (nt h6)))++ [.ret _ _ _ c7,tC (eF (nt h6)),tC (nt h6)]
  cases r8
  ·exact (cW (d:= .bool false) (E2++ [tF,tF,tF,tF,tT,tF,tF,tF,tF,tT,tF,tF,tF,tF,tT,tF,tF,tF,tF,tT,tT]) (by kernel_rfl)).to (by clear E1 E2;(try simp only [cB,wk,aw,aM,ab,ak,sM] at*);(simp [wk,aw,aM,ab,ak,sM, *];done))
  have c10:= @cI src
  generalize g12:bl src=r11 at c10
  let E3:EL:=E2++ [tT,tT,tT,.ret _ _ _ c10,tT,tF]
  cases r11
  ·exact (cW (d:= .bool false) (E3++ [tF,tF,tF,tF,tT,tF,tF,tF,tF,tT,tF,tF,tF,tF,tT,tT]) (by kernel_rfl)).to (by clear E1 E2 E3;(try simp only [cB,wk,aw,aM,ab,ak,sM] at*);(simp [wk,aw,aM,ab,ak,sM, *];done))
  have c13:= @cI base
  generalize g15:bl base=r14 at c13
  let E4:EL:=E3++ [tT,tT,tT,.ret _ _ _ c13,tT,tF]
  cases r14
  ·exact (cW (d:= .bool false) (E4++ [tF,tF,tF,tF,tT,tF,tF,tF,tF,tT,tT]) (by kernel_rfl)).to (by clear E1 E2 E3 E4;(try simp only [cB,wk,aw,aM,ab,ak,sM] at*);(simp [wk,aw,aM,ab,ak,sM, *];done))
  have c16:= @bg aa (-2147483648) 2147483647
  let E5:EL:=E4++ [tT,tT,tT,.ret _ _ _ c16,tT,tF]
  rcases dT (decide (aa<(-2147483648))) with h17|h17
  ·exact (cW (d:= .bool false) (E5++List.replicate 4 (tC (eF (nt (cj (y:=decide (aa≤2147483647)) (bR (-2147483648) h17)))))++ [tC (nt (cj (y:=decide (aa≤2147483647)) (bR (-2147483648) h17))),tT]) (by kernel_rfl)).to (by clear E1 E2 E3 E4 E5;(try simp only [cB,wk,aw,aM,ab,ak,sM] at*);(simp [wk,aw,aM,ab,ak,sM, *];omega))
  rcases dT (decide (aa<2147483648)) with h18|h18
  ·have c19:= @bg af (-2147483648) 2147483647
   let E6:EL:=E5++List.replicate 3 (tC (eF (nt (ay (bR (-2147483648) h17) (dC 2147483647 h18)))))++ [.ret _ _ _ c19,tC (eF (nt (ay (bR (-2147483648) h17) (dC 2147483647 h18)))),tC (nt (ay (bR (-2147483648) h17) (dC 2147483647 h18)))]
   rcases dT (decide (af<(-2147483648))) with h20|h20
   ·exact (cW (d:= .bool false) (E6++ [tC (nt (cj (y:=decide (af≤2147483647)) (bR (-2147483648) h20)))]) (by kernel_rfl)).to (by clear E1 E2 E3 E4 E5 E6;(try simp only [cB,wk,aw,aM,ab,ak,sM] at*);(simp [wk,aw,aM,ab,ak,sM, *];omega))
   rcases dT (decide (af<2147483648)) with h21|h21
   ·let E7:EL:=E6++ [tC (nt (ay (bR (-2147483648) h20) (dC 2147483647 h21)))]
    by_cases h22:w=32
    ·subst h22
     exact (cW (d:= .bool true) (E7++ [tF,tF,tF,tT,tF,tF,tF,tF,tF,tT]++List.replicate 8 tF++ [tT]) (by kernel_rfl)).to (by clear E1 E2 E3 E4 E5 E6 E7;(try simp only [cB,wk,aw,aM,ab,ak,sM] at*);(rw [Bool.eq_iff_iff];simp [wk,aw,aM,ab,ak,sM, *];grind))
    let E8:EL:=E7++List.replicate 3 (tC (eF (av h22)))++ [tC (av h22)]++List.replicate 4 (tC (eF (av h22)))
    by_cases h23:w=8
    ·subst h23
     have c24:= @bg af (-128) 127
     exact (cW (d:= .bool (decide ((-128)≤af)&&decide (af≤127))) (E8++ [tT,tT,tT,.ret _ _ _ c24,tT,tT]++List.replicate 9 tF++ [tT]) (by kernel_rfl)).to (by clear E1 E2 E3 E4 E5 E6 E7 E8;(try simp only [cB,wk,aw,aM,ab,ak,sM] at*);(rw [Bool.eq_iff_iff];simp [wk,aw,aM,ab,ak,sM, *];grind))
    exact (cW (d:= .bool false) (E8++List.replicate 3 (tC (eT (av h23)))++ [tC (eF (av h22)),tC (av h23),tC (av h22)]++List.replicate 8 tF++ [tT]) (by kernel_rfl)).to (by clear E1 E2 E3 E4 E5 E6 E7 E8;(try simp only [cB,wk,aw,aM,ab,ak,sM] at*);(simp [wk,aw,aM,ab,ak,sM, *];done))
   exact (cW (d:= .bool false) (E6++ [tC (nt (ay (bR (-2147483648) h20) (dC 2147483647 h21)))]) (by kernel_rfl)).to (by clear E1 E2 E3 E4 E5 E6;(try simp only [cB,wk,aw,aM,ab,ak,sM] at*);(simp [wk,aw,aM,ab,ak,sM, *];omega))
  exact (cW (d:= .bool false) (E5++List.replicate 4 (tC (eF (nt (ay (bR (-2147483648) h17) (dC 2147483647 h18)))))++ [tC (nt (ay (bR (-2147483648) h17) (dC 2147483647 h18))),tT]) (by kernel_rfl)).to (by clear E1 E2 E3 E4 E5;(try simp only [cB,wk,aw,aM,ab,ak,sM] at*);(simp [wk,aw,aM,ab,ak,sM, *];omega))
 exact (cW (d:= .bool false) (E1++List.replicate 4 (tC (eF (nt h6)))++ [tC (nt h6),tF,tF,tF,tF,tT,tF,tF,tF,tF,tT,tF,tF,tF,tF,tT,tF,tF,tF,tF,tT,tT]) (by kernel_rfl)).to (by clear E1;(try simp only [cB,wk,aw,aM,ab,ak,sM] at*);(rw [Bool.eq_iff_iff];simp [wk,aw,aM,ab,ak,sM, *];grind))
theorem wI:qi 10:=by
 intro op w dst src base aa af cc ho h hin
 have c0:= @bZ op ho
 rw [eq_of_beq h] at c0
 generalize g2:bc op=r1 at c0
 generalize g4:cq op=r3 at c0
 have c5:= @xK op w dst src base aa af cc 10 (rfl:true=true)
 let E1:EL:=([.ret _ _ _ c0]++List.replicate 4 (tC (eF (nt hin)))++ [.ret _ _ _ c5,tC (eF (nt hin)),tC (eF (nt hin)),.flat _ _ eh,tC (nt hin)])
 rcases dT (ab [.int .i8 0,.int .i8 0,.int .i8 dst,.int .i8 src,.int .i8 base,.int .i64 aa,.int .i64 0,.int .i8 0] [.int .i8 0,.int .i8 0,.int .i8 0,.int .i8 0,.int .i8 0,.int .i64 0,.int .i64 0,.int .i8 0]) with h6|h6
 ·have c7:= @cI dst
  generalize g9:bl dst=r8 at c7
  let E2:EL:=E1++List.replicate 3 (tC (eF (nt h6)))++ [.ret _ _ _ c7,tC (eF (nt h6)),tC (nt h6)]
  cases r8
  ·exact (cW (d:= .bool false) (E2++ [tF,tF,tF,tF,tT,tF,tF,tF,tF,tT,tF,tF,tF,tF,tT,tF,tF,tF,tF,tT,tT]) (by kernel_rfl)).to (by clear E1 E2;(try simp only [cB,wk,aw,aM,ab,ak,sM] at*);(simp [wk,aw,aM,ab,ak,sM, *];done))
  have c10:= @cI src
  generalize g12:bl src=r11 at c10
  let E3:EL:=E2++ [tT,tT,tT,.ret _ _ _ c10,tT,tF]
  cases r11
  ·exact (cW (d:= .bool false) (E3++ [tF,tF,tF,tF,tT,tF,tF,tF,tF,tT,tF,tF,tF,tF,tT,tT]) (by kernel_rfl)).to (by clear E1 E2 E3;(try simp only [cB,wk,aw,aM,ab,ak,sM] at*);(simp [wk,aw,aM,ab,ak,sM, *];done))
  have c13:= @cI base
  generalize g15:bl base=r14 at c13
  let E4:EL:=E3++ [tT,tT,tT,.ret _ _ _ c13,tT,tF]
  cases r14
  ·exact (cW (d:= .bool false) (E4++ [tF,tF,tF,tF,tT,tF,tF,tF,tF,tT,tT]) (by kernel_rfl)).to (by clear E1 E2 E3 E4;(try simp only [cB,wk,aw,aM,ab,ak,sM] at*);(simp [wk,aw,aM,ab,ak,sM, *];done))
  have c16:= @bg aa (-2147483648) 2147483647
  let E5:EL:=E4++ [tT,tT,tT,.ret _ _ _ c16,tT,tF]
  rcases dT (decide (aa<(-2147483648))) with h17|h17
  ·exact (cW (d:= .bool false) (E5++List.replicate 4 (tC (eF (nt (cj (y:=decide (aa≤2147483647)) (bR (-2147483648) h17)))))++ [tC (nt (cj (y:=decide (aa≤2147483647)) (bR (-2147483648) h17))),tT]) (by kernel_rfl)).to (by clear E1 E2 E3 E4 E5;(try simp only [cB,wk,aw,aM,ab,ak,sM] at*);(simp [wk,aw,aM,ab,ak,sM, *];omega))
  rcases dT (decide (aa<2147483648)) with h18|h18
  ·have c19:= @bg af (-2147483648) 2147483647
   let E6:EL:=E5++List.replicate 3 (tC (eF (nt (ay (bR (-2147483648) h17) (dC 2147483647 h18)))))++ [.ret _ _ _ c19,tC (eF (nt (ay (bR (-2147483648) h17) (dC 2147483647 h18)))),tC (nt (ay (bR (-2147483648) h17) (dC 2147483647 h18)))]
   rcases dT (decide (af<(-2147483648))) with h20|h20
   ·exact (cW (d:= .bool false) (E6++ [tC (nt (cj (y:=decide (af≤2147483647)) (bR (-2147483648) h20)))]) (by kernel_rfl)).to (by clear E1 E2 E3 E4 E5 E6;(try simp only [cB,wk,aw,aM,ab,ak,sM] at*);(simp [wk,aw,aM,ab,ak,sM, *];omega))
   rcases dT (decide (af<2147483648)) with h21|h21
   ·let E7:EL:=E6++ [tC (nt (ay (bR (-2147483648) h20) (dC 2147483647 h21)))]
    by_cases h22:w=32
    ·subst h22
     have c23:= @oD cc
     generalize g25:ff cc=r24 at c23
     exact (cW (d:= .bool r24) (E7++ [tF,tF,tF,tT,tF,tF,tF,tF,tF,tT]++List.replicate 9 tF++ [tT,tT,tT,tT,.ret _ _ _ c23,tT]) (by kernel_rfl)).to (by clear E1 E2 E3 E4 E5 E6 E7;(try simp only [cB,wk,aw,aM,ab,ak,sM] at*);(rw [Bool.eq_iff_iff];simp [wk,aw,aM,ab,ak,sM, *];grind))
    let E8:EL:=E7++List.replicate 3 (tC (eF (av h22)))++ [tC (av h22)]++List.replicate 4 (tC (eF (av h22)))
    by_cases h26:w=8
    ·subst h26
     have c27:= @bg af (-128) 127
     let E9:EL:=E8++ [tT,tT,tT,.ret _ _ _ c27,tT,tT]++List.replicate 10 tF++ [tT]
     rcases dT (decide (af<(-128))) with h28|h28
     ·exact (cW (d:= .bool false) (E9++List.replicate 3 (tC (eT (cj (y:=decide (af≤127)) (bR (-128) h28))))++ [tC (cj (y:=decide (af≤127)) (bR (-128) h28))]) (by kernel_rfl)).to (by clear E1 E2 E3 E4 E5 E6 E7 E8 E9;(try simp only [cB,wk,aw,aM,ab,ak,sM] at*);(simp [wk,aw,aM,ab,ak,sM, *];omega))
     rcases dT (decide (af<128)) with h29|h29
     ·have c30:= @oD cc
      generalize g32:ff cc=r31 at c30
      exact (cW (d:= .bool r31) (E9++List.replicate 3 (tC (eT (ay (bR (-128) h28) (dC 127 h29))))++ [.ret _ _ _ c30,tC (ay (bR (-128) h28) (dC 127 h29))]) (by kernel_rfl)).to (by clear E1 E2 E3 E4 E5 E6 E7 E8 E9;(try simp only [cB,wk,aw,aM,ab,ak,sM] at*);(rw [Bool.eq_iff_iff];simp [wk,aw,aM,ab,ak,sM, *];grind))
     exact (cW (d:= .bool false) (E9++List.replicate 3 (tC (eT (ay (bR (-128) h28) (dC 127 h29))))++ [tC (ay (bR (-128) h28) (dC 127 h29))]) (by kernel_rfl)).to (by clear E1 E2 E3 E4 E5 E6 E7 E8 E9;(try simp only [cB,wk,aw,aM,ab,ak,sM] at*);(simp [wk,aw,aM,ab,ak,sM, *];omega))
    exact (cW (d:= .bool false) (E8++List.replicate 3 (tC (eT (av h26)))++ [tC (eF (av h22)),tC (av h26),tC (av h22)]++List.replicate 9 tF++ [tT,tF,tF,tF,tF]) (by kernel_rfl)).to (by clear E1 E2 E3 E4 E5 E6 E7 E8;(try simp only [cB,wk,aw,aM,ab,ak,sM] at*);(simp [wk,aw,aM,ab,ak,sM, *];done))
   exact (cW (d:= .bool false) (E6++ [tC (nt (ay (bR (-2147483648) h20) (dC 2147483647 h21)))]) (by kernel_rfl)).to (by clear E1 E2 E3 E4 E5 E6;(try simp only [cB,wk,aw,aM,ab,ak,sM] at*);(simp [wk,aw,aM,ab,ak,sM, *];omega))
  exact (cW (d:= .bool false) (E5++List.replicate 4 (tC (eF (nt (ay (bR (-2147483648) h17) (dC 2147483647 h18)))))++ [tC (nt (ay (bR (-2147483648) h17) (dC 2147483647 h18))),tT]) (by kernel_rfl)).to (by clear E1 E2 E3 E4 E5;(try simp only [cB,wk,aw,aM,ab,ak,sM] at*);(simp [wk,aw,aM,ab,ak,sM, *];omega))
 exact (cW (d:= .bool false) (E1++List.replicate 4 (tC (eF (nt h6)))++ [tC (nt h6),tF,tF,tF,tF,tT,tF,tF,tF,tF,tT,tF,tF,tF,tF,tT,tF,tF,tF,tF,tT,tT]) (by kernel_rfl)).to (by clear E1;(try simp only [cB,wk,aw,aM,ab,ak,sM] at*);(rw [Bool.eq_iff_iff];simp [wk,aw,aM,ab,ak,sM, *];grind))
theorem wH:qi 11:=by
 intro op w dst src base aa af cc ho h hin
 have c0:= @bZ op ho
 rw [eq_of_beq h] at c0
 generalize g2:bc op=r1 at c0
 generalize g4:cq op=r3 at c0
 have c5:= @xJ op w dst src base aa af cc 11 (rfl:true=true)
 let E1:EL:=([.ret _ _ _ c0]++List.replicate 4 (tC (eF (nt hin)))++ [.ret _ _ _ c5,tC (eF (nt hin)),tC (eF (nt hin)),.flat _ _ eh,tC (nt hin)])
 rcases dT (ab [.int .i8 0,.int .i8 w,.int .i8 dst,.int .i8 src,.int .i8 base,.int .i64 aa,.int .i64 af,.int .i8 cc] [.int .i8 0,.int .i8 0,.int .i8 0,.int .i8 0,.int .i8 0,.int .i64 0,.int .i64 0,.int .i8 0]) with h6|h6
 ·have c7:= @cI dst
  generalize g9:bl dst=r8 at c7
  let E2:EL:=E1++List.replicate 3 (tC (eF (nt h6)))++ [.ret _ _ _ c7,tC (eF (nt h6)),tC (nt h6)]
  cases r8
  ·exact (cW (d:= .bool false) (E2++ [tF,tF,tF,tF,tT,tF,tF,tF,tF,tT,tF,tF,tF,tF,tT,tF,tF,tF,tF,tT,tT]) (by kernel_rfl)).to (by clear E1 E2;(try simp only [cB,wk,aw,aM,ab,ak,sM] at*);(simp [wk,aw,aM,ab,ak,sM, *];done))
  have c10:= @cI src
  generalize g12:bl src=r11 at c10
  let E3:EL:=E2++ [tT,tT,tT,.ret _ _ _ c10,tT,tF]
  cases r11
  ·exact (cW (d:= .bool false) (E3++ [tF,tF,tF,tF,tT,tF,tF,tF,tF,tT,tF,tF,tF,tF,tT,tT]) (by kernel_rfl)).to (by clear E1 E2 E3;(try simp only [cB,wk,aw,aM,ab,ak,sM] at*);(simp [wk,aw,aM,ab,ak,sM, *];done))
  have c13:= @cI base
  generalize g15:bl base=r14 at c13
  let E4:EL:=E3++ [tT,tT,tT,.ret _ _ _ c13,tT,tF]
  cases r14
  ·exact (cW (d:= .bool false) (E4++ [tF,tF,tF,tF,tT,tF,tF,tF,tF,tT,tT]) (by kernel_rfl)).to (by clear E1 E2 E3 E4;(try simp only [cB,wk,aw,aM,ab,ak,sM] at*);(simp [wk,aw,aM,ab,ak,sM, *];done))
  have c16:= @bg aa (-2147483648) 2147483647
  let E5:EL:=E4++ [tT,tT,tT,.ret _ _ _ c16,tT,tF]
  rcases dT (decide (aa<(-2147483648))) with h17|h17
  ·exact (cW (d:= .bool false) (E5++List.replicate 4 (tC (eF (nt (cj (y:=decide (aa≤2147483647)) (bR (-2147483648) h17)))))++ [tC (nt (cj (y:=decide (aa≤2147483647)) (bR (-2147483648) h17))),tT]) (by kernel_rfl)).to (by clear E1 E2 E3 E4 E5;(try simp only [cB,wk,aw,aM,ab,ak,sM] at*);(simp [wk,aw,aM,ab,ak,sM, *];omega))
  rcases dT (decide (aa<2147483648)) with h18|h18
  ·have c19:= @bg af (-2147483648) 2147483647
   let E6:EL:=E5++List.replicate 3 (tC (eF (nt (ay (bR (-2147483648) h17) (dC 2147483647 h18)))))++ [.ret _ _ _ c19,tC (eF (nt (ay (bR (-2147483648) h17) (dC 2147483647 h18)))),tC (nt (ay (bR (-2147483648) h17) (dC 2147483647 h18)))]
   rcases dT (decide (af<(-2147483648))) with h20|h20
   ·exact (cW (d:= .bool false) (E6++ [tC (nt (cj (y:=decide (af≤2147483647)) (bR (-2147483648) h20)))]) (by kernel_rfl)).to (by clear E1 E2 E3 E4 E5 E6;(try simp only [cB,wk,aw,aM,ab,ak,sM] at*);(simp [wk,aw,aM,ab,ak,sM, *];omega))
   rcases dT (decide (af<2147483648)) with h21|h21
   ·let E7:EL:=E6++ [tC (nt (ay (bR (-2147483648) h20) (dC 2147483647 h21)))]
    by_cases h22:w=32
    ·subst h22
     exact (cW (d:= .bool true) (E7++ [tF,tF,tF,tT,tF,tF,tF,tF,tF,tT]++List.replicate 10 tF) (by kernel_rfl)).to (by clear E1 E2 E3 E4 E5 E6 E7;(try simp only [cB,wk,aw,aM,ab,ak,sM] at*);(rw [Bool.eq_iff_iff];simp [wk,aw,aM,ab,ak,sM, *];grind))
    let E8:EL:=E7++List.replicate 3 (tC (eF (av h22)))++ [tC (av h22)]++List.replicate 4 (tC (eF (av h22)))
    by_cases h23:w=8
    ·subst h23
     have c24:= @bg af (-128) 127
     exact (cW (d:= .bool true) (E8++ [tT,tT,tT,.ret _ _ _ c24,tT,tT]++List.replicate 11 tF) (by kernel_rfl)).to (by clear E1 E2 E3 E4 E5 E6 E7 E8;(try simp only [cB,wk,aw,aM,ab,ak,sM] at*);(rw [Bool.eq_iff_iff];simp [wk,aw,aM,ab,ak,sM, *];grind))
    exact (cW (d:= .bool true) (E8++List.replicate 3 (tC (eT (av h23)))++ [tC (eF (av h22)),tC (av h23),tC (av h22)]++List.replicate 10 tF) (by kernel_rfl)).to (by clear E1 E2 E3 E4 E5 E6 E7 E8;(try simp only [cB,wk,aw,aM,ab,ak,sM] at*);(rw [Bool.eq_iff_iff];simp [wk,aw,aM,ab,ak,sM, *];grind))
   exact (cW (d:= .bool false) (E6++ [tC (nt (ay (bR (-2147483648) h20) (dC 2147483647 h21)))]) (by kernel_rfl)).to (by clear E1 E2 E3 E4 E5 E6;(try simp only [cB,wk,aw,aM,ab,ak,sM] at*);(simp [wk,aw,aM,ab,ak,sM, *];omega))
  exact (cW (d:= .bool false) (E5++List.replicate 4 (tC (eF (nt (ay (bR (-2147483648) h17) (dC 2147483647 h18)))))++ [tC (nt (ay (bR (-2147483648) h17) (dC 2147483647 h18))),tT]) (by kernel_rfl)).to (by clear E1 E2 E3 E4 E5;(try simp only [cB,wk,aw,aM,ab,ak,sM] at*);(simp [wk,aw,aM,ab,ak,sM, *];omega))
 exact (cW (d:= .bool false) (E1++List.replicate 4 (tC (eF (nt h6)))++ [tC (nt h6),tF,tF,tF,tF,tT,tF,tF,tF,tF,tT,tF,tF,tF,tF,tT,tF,tF,tF,tF,tT,tT]) (by kernel_rfl)).to (by clear E1;(try simp only [cB,wk,aw,aM,ab,ak,sM] at*);(rw [Bool.eq_iff_iff];simp [wk,aw,aM,ab,ak,sM, *];grind))
theorem iO:∀n:Fin 32,ax (n.val:Int)=1∨ax (n.val:Int)=2∨ax (n.val:Int)=3∨ax (n.val:Int)=4∨ax (n.val:Int)=5∨ax (n.val:Int)=6∨ax (n.val:Int)=7∨ax (n.val:Int)=8∨ax (n.val:Int)=9∨ax (n.val:Int)=10∨ax (n.val:Int)=11:=by decide+kernel
theorem aJ (op w dst src base aa af cc:Int) (ho:op≤127):aE Tryz.prog 72 [xD op w dst src base aa af cc] (.bool (cg op w dst src base aa af cc)):=by
 by_cases hin:0≤op∧op≤31
 ·have e:op=(((⟨op.toNat,by omega⟩:Fin 32).val:Nat):Int):=by simp;omega
  have hr:=iO ⟨op.toNat,by omega⟩
  rw [← e] at hr
  have hin':decide (0≤op∧op≤31)=true:=decide_eq_true hin
  rcases hr with h|h|h|h|h|h|h|h|h|h|h
  ·exact AD _ _ _ _ _ _ _ _ ho (by rw [h];rfl) hin'
  ·exact AB _ _ _ _ _ _ _ _ ho (by rw [h];rfl) hin'
  ·exact AA _ _ _ _ _ _ _ _ ho (by rw [h];rfl) hin'
  ·exact Ay _ _ _ _ _ _ _ _ ho (by rw [h];rfl) hin'
  ·exact Ax _ _ _ _ _ _ _ _ ho (by rw [h];rfl) hin'
  ·exact Aw _ _ _ _ _ _ _ _ ho (by rw [h];rfl) hin'
  ·exact Av _ _ _ _ _ _ _ _ ho (by rw [h];rfl) hin'
  ·exact Au _ _ _ _ _ _ _ _ ho (by rw [h];rfl) hin'
  ·exact Ar _ _ _ _ _ _ _ _ ho (by rw [h];rfl) hin'
  ·exact wI _ _ _ _ _ _ _ _ ho (by rw [h];rfl) hin'
  ·exact wH _ _ _ _ _ _ _ _ ho (by rw [h];rfl) hin'
 ·exact AE _ _ _ _ _ _ _ _ ho (by rw [(lQ (op:=op) (by omega)).1];rfl) (decide_eq_false hin)
theorem cu (r:Int):aE Tryz.prog 136 ([.int .i8 r]) (.bool (bl r)):=by
 rcases dT (decide (r<0)) with h0|h0
 ·exact (GW (d:= .bool false) [tC (eT (bR 0 h0)),tC (eT (bR 0 h0)),tC (bR 0 h0)] (by kernel_rfl)).to (by (try simp only [cB,wk,aw,aM,ab,ak,bl] at*);first|(simp [wk,aw,aM,ab,ak,bl, *];done)|(simp [wk,aw,aM,ab,ak,bl, *];omega)|(rw [Bool.eq_iff_iff];simp [wk,aw,aM,ab,ak,bl, *];done)|(rw [Bool.eq_iff_iff];simp [wk,aw,aM,ab,ak,bl, *];omega)|(rw [Bool.eq_iff_iff];simp [wk,aw,aM,ab,ak,bl, *];grind)|(subst_vars;rw [Bool.eq_iff_iff];simp;grind))
 exact (GW (d:= .bool (decide (r<16))) [tC (eT (bR 0 h0)),tC (eT (bR 0 h0)),tC (bR 0 h0)] (by kernel_rfl)).to (by (try simp only [cB,wk,aw,aM,ab,ak,bl] at*);first|(simp [wk,aw,aM,ab,ak,bl, *];done)|(simp [wk,aw,aM,ab,ak,bl, *];omega)|(rw [Bool.eq_iff_iff];simp [wk,aw,aM,ab,ak,bl, *];done)|(rw [Bool.eq_iff_iff];simp [wk,aw,aM,ab,ak,bl, *];omega)|(rw [Bool.eq_iff_iff];simp [wk,aw,aM,ab,ak,bl, *];grind)|(subst_vars;rw [Bool.eq_iff_iff];simp;grind))
theorem qP (r:Int) (r0:0≤r) (r1:r≤15):aE Tryz.prog 137 ([.int .i8 r,.int .u64 0]) (.int .u8 (r / 8)):=by
 exact (GV (d:= .int .u8 (IntKind.wrap IntKind.u8 (IntKind.wrap IntKind.u8 (↑(BitVec.toNat (BitVec.ofInt (8:Nat) (Int.fdiv (IntKind.wrap IntKind.u8 r) 8)&&&BitVec.ofInt (8:Nat) 1)):Int)*1))) [tT] (by kernel_rfl)).to (by simp only [wk,D.int.injEq,true_and];obtain ⟨n,rfl⟩:=gy r0 r1;clear r0 r1;revert n;decide+kernel)
theorem qO (r:Int) (r0:0≤r) (r1:r≤15):aE Tryz.prog 137 ([.int .i8 r,.int .u64 2]) (.int .u8 (4*(r / 8))):=by
 exact (GV (d:= .int .u8 (IntKind.wrap IntKind.u8 (IntKind.wrap IntKind.u8 (↑(BitVec.toNat (BitVec.ofInt (8:Nat) (Int.fdiv (IntKind.wrap IntKind.u8 r) 8)&&&BitVec.ofInt (8:Nat) 1)):Int)*4))) [tT] (by kernel_rfl)).to (by simp only [wk,D.int.injEq,true_and];obtain ⟨n,rfl⟩:=gy r0 r1;clear r0 r1;revert n;decide+kernel)
theorem wE (r m:Int) (r0:0≤r) (r1:r≤15) (m0:0≤m) (m1:m≤15):aE Tryz.prog 138 ([.int .u8 192,.int .i8 r,.int .i8 m]) (.int .u8 (bT r m)):=by
 exact (GU (d:= .int .u8 (IntKind.wrap IntKind.u8 (↑(BitVec.toNat (BitVec.ofInt (8:Nat) (IntKind.wrap IntKind.u8 (↑(BitVec.toNat (BitVec.ofInt (8:Nat) 192|||BitVec.ofInt (8:Nat) (IntKind.wrap IntKind.u8 (IntKind.wrap IntKind.u8 (↑(BitVec.toNat (BitVec.ofInt (8:Nat) (IntKind.wrap IntKind.u8 r)&&&BitVec.ofInt (8:Nat) 7)):Int)*8)))):Int))|||BitVec.ofInt (8:Nat) (IntKind.wrap IntKind.u8 (↑(BitVec.toNat (BitVec.ofInt (8:Nat) (IntKind.wrap IntKind.u8 m)&&&BitVec.ofInt (8:Nat) 7)):Int)))):Int))) [] (by kernel_rfl)).to (by simp only [wk,D.int.injEq,true_and];obtain ⟨n,rfl⟩:=gy r0 r1;obtain ⟨k,rfl⟩:=gy m0 m1;clear r0 r1 m0 m1;revert n k;decide+kernel)
theorem pv (r m:Int) (r0:0≤r) (r1:r≤15) (m0:0≤m) (m1:m≤15):aE Tryz.prog 138 ([.int .u8 128,.int .i8 r,.int .i8 m]) (.int .u8 (128+8*(r%8)+m%8)):=by
 exact (GU (d:= .int .u8 (IntKind.wrap IntKind.u8 (↑(BitVec.toNat (BitVec.ofInt (8:Nat) (IntKind.wrap IntKind.u8 (↑(BitVec.toNat (BitVec.ofInt (8:Nat) 128|||BitVec.ofInt (8:Nat) (IntKind.wrap IntKind.u8 (IntKind.wrap IntKind.u8 (↑(BitVec.toNat (BitVec.ofInt (8:Nat) (IntKind.wrap IntKind.u8 r)&&&BitVec.ofInt (8:Nat) 7)):Int)*8)))):Int))|||BitVec.ofInt (8:Nat) (IntKind.wrap IntKind.u8 (↑(BitVec.toNat (BitVec.ofInt (8:Nat) (IntKind.wrap IntKind.u8 m)&&&BitVec.ofInt (8:Nat) 7)):Int)))):Int))) [] (by kernel_rfl)).to (by simp only [wk,D.int.injEq,true_and];obtain ⟨n,rfl⟩:=gy r0 r1;obtain ⟨k,rfl⟩:=gy m0 m1;clear r0 r1 m0 m1;revert n k;decide+kernel)
theorem uS (r m:Int) (r0:0≤r) (r1:r≤15) (m0:0≤m) (m1:m≤15) (hn:decide (8≤r∨8≤m)=true):aE Tryz.prog 104 ([.int .i8 r,.int .i8 m]) (.bool true):=by
 have c0:= @cu r
 rw [show (bl r)=true from (@fg r r0 r1)] at c0
 have c1:= @cu m
 rw [show (bl m)=true from (@fg m m0 m1)] at c1
 exact (GZ (d:= .bool (IntKind.wrap IntKind.i8 (↑(BitVec.toNat (BitVec.ofInt (8:Nat) (IntKind.wrap IntKind.i8 (↑(BitVec.toNat (BitVec.ofInt (8:Nat) r|||BitVec.ofInt (8:Nat) m)):Int))&&&BitVec.ofInt (8:Nat) 8)):Int) !=0)) [.ret _ _ _ c0,tT,tT,.ret _ _ _ c1,tT,tT,tT,tT,tT,tT,tT] (by kernel_rfl)).to (by simp only [wk,D.bool.injEq];rw [yo r0 r1 m0 m1];exact hn)
theorem uT (r m:Int) (r0:0≤r) (r1:r≤15) (m0:0≤m) (m1:m≤15) (hn:decide (8≤r∨8≤m)=false):aE Tryz.prog 104 ([.int .i8 r,.int .i8 m]) (.bool false):=by
 have c0:= @cu r
 rw [show (bl r)=true from (@fg r r0 r1)] at c0
 have c1:= @cu m
 rw [show (bl m)=true from (@fg m m0 m1)] at c1
 exact (GZ (d:= .bool (IntKind.wrap IntKind.i8 (↑(BitVec.toNat (BitVec.ofInt (8:Nat) (IntKind.wrap IntKind.i8 (↑(BitVec.toNat (BitVec.ofInt (8:Nat) r|||BitVec.ofInt (8:Nat) m)):Int))&&&BitVec.ofInt (8:Nat) 8)):Int) !=0)) [.ret _ _ _ c0,tT,tT,.ret _ _ _ c1,tT,tT,tT,tT,tT,tT,tT] (by kernel_rfl)).to (by simp only [wk,D.bool.injEq];rw [yo r0 r1 m0 m1];exact hn)
open Go Go.RowKit Go.Ev
set_option maxHeartbeats 4000000 in
theorem Al (v:Int) (h0: -2147483648≤v) (h1:v≤2147483647) (w:World):
  Calls Tryz.prog 139 #[.int .i64 v,.int .i64 4] w fun e w'=>e= .returned (.tuple #[.slice (some ⟨w.heap.size,0,none⟩) 4 4,.int .i64 0])∧
   w'=w.alloc (.cells #[.int .u8 (v%256),.int .u8 (v / 256%256),.int .u8 (v / 65536%256),.int .u8 (v / 16777216%256)] 5):=by
 have hmk:∀w,(Instr.makeSlice 22 (.int .i64 4) (.int .i64 4)).run Tryz.prog w= .ok (.slice (some ⟨w.heap.size,0,none⟩) 4 4) (w.alloc (.cells #[.int .u8 0,.int .u8 0,.int .u8 0,.int .u8 0] 5)):=fun _=>by kernel_rfl
 go_enter Tryz.func139,Tryz.ntmps139
 go_wp2
 refine wp_loop_rounds 5 ?_
 rw [rounds_succ];go_wp2
 rw [rounds_succ];go_wp2
 rw [rounds_succ];go_wp2
 rw [rounds_succ];go_wp2
 rw [rounds_succ];go_wp2
 go_ret2
 exact ⟨rfl,rfl⟩
theorem AZ {C:Nat→Nat→Option Value} {w:World} (hC:∀b o v,C b o=some v→w.cell? ⟨b,o,none⟩=some v) (cells:Array Value) (ty:TypeId):
  Ext (eB C) w (eB fun b o=>if b=w.heap.size then cells[o]? else C b o) (w.alloc (.cells cells ty)):=by
 have hlt:∀b o v,C b o=some v→b<w.heap.size:=fun b o v h=>World.block_lt_of_cell? w _ (hC b o v h)
 refine ⟨(Below.refl _ _).alloc (Nat.le_refl _) _,?_,?_,?_⟩
 ·intro b o v h
  have:=hlt b o v h
  show (if b=w.heap.size then cells[o]? else C b o)=some v
  rw [if_neg (by omega)]
  exact h
 ·intro b o v h hb
  have h':(if b=w.heap.size then cells[o]? else C b o)=some v:=h
  rw [if_neg (by omega)] at h'
  exact h'
 ·intro b o v h
  have h':(if b=w.heap.size then cells[o]? else C b o)=some v:=h
  split at h'
  ·rename_i e
   subst e
   have hh:(w.alloc (.cells cells ty)).heap[w.heap.size]? =some (.cells cells ty):=by
    show (w.heap.push _)[w.heap.size]? =_
    simp
   simp only [World.cell?,hh]
   exact h'
  ·have hb:=hlt b o v h'
   rw [World.cell?_alloc_lt _ _ _ hb]
   exact hC b o v h'
theorem DX {C:Nat→Nat→Option Value} {b:Nat} {k:IntKind} (xs:List Int) (cells:Array Value) (hc:cells=(xs.map fun n=>Value.int k n).toArray):
  bk (eB fun b' o=>if b'=b then cells[o]? else C b' o) (.aj .tight 1 (xs.map fun n=> .int k n)) (.slice (some ⟨b,0,none⟩) xs.length xs.length):=by
 subst hc
 have key:∀(i:Nat) (x:D) (cs:List D) (j:Nat) (c:D),(xs.map fun n=>D.int k n)[i]? =some x→x.cells=some cs→cs[j]? =some c→∃n,xs[i]? =some n∧c= .int k n∧j=0:=by
  intro i x cs j c h1 h2 h3
  rw [List.getElem?_map,Option.map_eq_some_iff] at h1
  obtain ⟨n,hn,rfl⟩:=h1
  simp only [D.cells,Option.some.injEq] at h2
  subst h2
  cases j with
  |zero=>simp at h3;exact ⟨n,hn,h3.symm,rfl⟩
  |succ j=>simp at h3
 refine .aj b 0 (fun i _=> .int k (xs.getD i 0)) (by simp) (Nat.le_refl _) (fun _=>rfl) ?_ ?_ ?_ ?_ rfl
 ·intro i x hx
  rw [List.getElem?_map,Option.map_eq_some_iff] at hx
  obtain ⟨n,hn,rfl⟩:=hx
  exact ⟨[.int k n],rfl,rfl⟩
 ·intro i x cs j c h1 h2 h3
  obtain ⟨n,hn,rfl,rfl⟩:=key i x cs j c h1 h2 h3
  simp [eB,hn]
 ·intro i x cs j c h1 h2 h3
  obtain ⟨n,hn,rfl,rfl⟩:=key i x cs j c h1 h2 h3
  simp only [List.getD_eq_getElem?_getD,hn,Option.getD_some]
  exact .int k n
 ·intro i x cs c h1 h2 h3
  rw [List.getElem?_map,Option.map_eq_some_iff] at h1
  obtain ⟨n,hn,rfl⟩:=h1
  simp only [D.cells,Option.some.injEq] at h2
  subst h2
  simp at h3
  subst h3
  rfl
theorem ym (v:Int) (h0: -2147483648≤v) (h1:v≤2147483647):aE Tryz.prog 139 [.int .i64 v,.int .i64 4] (.aA [.aj .tight 1 [.int .u8 (v%256),.int .u8 (v / 256%256),.int .u8 (v / 65536%256),.int .u8 (v / 16777216%256)],.int .i64 0]):=by
 refine ⟨⟨_,_,Tryz.func139,rfl,by kernel_rfl⟩,fun w C vs hC ha=> ?_⟩
 obtain ⟨hl,hr⟩:=ha
 obtain ⟨a,b,rfl⟩:∃a b,vs= #[a,b]:=by
  rcases vs with ⟨l⟩
  match l,hl with
  | [a,b],_=>exact ⟨a,b,rfl⟩
 have ra:=hr 0 _ a rfl rfl
 have rb:=hr 1 _ b rfl rfl
 cases ra
 cases rb
 refine Calls.mono (Al v h0 h1 w) ?_
 rintro e w' ⟨rfl,rfl⟩
 have rl:=DX (C:=C) (b:=w.heap.size) (k:= .u8) [v%256,v / 256%256,v / 65536%256,v / 16777216%256] _ rfl
 refine ⟨_,_,rfl,AZ hC _ _,.aA rfl ?_,?_⟩
 ·intro i d u p q
  match i,p,q with
  |0,p,q=>simp at p q;subst p q;exact rl
  |1,p,q=>simp at p q;subst p q;exact .int _ _
 ·refine ⟨fun sz sz' xs h=>(by cases h),?_⟩
  intro ds vs hd hv i sz sz' xs hi
  simp only [D.aA.injEq] at hd
  subst hd
  match i,hi with
  |0,hi=>simp at hi
  |1,hi=>simp at hi
theorem na (r m:Int) (r0:0≤r) (r1:r≤15) (m0:0≤m) (m1:m≤15):aE Tryz.prog 105 ([.bool false,.int .i8 r,.int .i8 m]) (.aA [.int .u8 (e7 false r m),.int .i64 0]):=by
 have c0:= @cu r
 rw [show (bl r)=true from (@fg r r0 r1)] at c0
 have c1:= @cu m
 rw [show (bl m)=true from (@fg m m0 m1)] at c1
 have c2:= @qO r r0 r1
 have c3:= @qP m m0 m1
 exact (GY (d:= .aA [.int .u8 (IntKind.wrap IntKind.u8 (↑(BitVec.toNat (BitVec.ofInt (8:Nat) (IntKind.wrap IntKind.u8 (↑(BitVec.toNat (BitVec.ofInt (8:Nat) 64|||BitVec.ofInt (8:Nat) (4*(r / 8)))):Int))|||BitVec.ofInt (8:Nat) (m / 8))):Int)),.int .i64 0]) [.ret _ _ _ c0,tT,tT,.ret _ _ _ c1,tT,tF,tF,.ret _ _ _ c2,.ret _ _ _ c3,tF] (by kernel_rfl)).to (by simp only [wk,aw,D.int.injEq,true_and,and_true];exact B4 r0 r1 m0 m1)
theorem qR (r m:Int) (r0:0≤r) (r1:r≤15) (m0:0≤m) (m1:m≤15):aE Tryz.prog 105 ([.bool true,.int .i8 r,.int .i8 m]) (.aA [.int .u8 (e7 true r m),.int .i64 0]):=by
 have c0:= @cu r
 rw [show (bl r)=true from (@fg r r0 r1)] at c0
 have c1:= @cu m
 rw [show (bl m)=true from (@fg m m0 m1)] at c1
 have c2:= @qO r r0 r1
 have c3:= @qP m m0 m1
 exact (GY (d:= .aA [.int .u8 (IntKind.wrap IntKind.u8 (↑(BitVec.toNat (BitVec.ofInt (8:Nat) (IntKind.wrap IntKind.u8 (↑(BitVec.toNat (BitVec.ofInt (8:Nat) (IntKind.wrap IntKind.u8 (↑(BitVec.toNat (BitVec.ofInt (8:Nat) 64|||BitVec.ofInt (8:Nat) (4*(r / 8)))):Int))|||BitVec.ofInt (8:Nat) (m / 8))):Int))|||BitVec.ofInt (8:Nat) 8)):Int)),.int .i64 0]) [.ret _ _ _ c0,tT,tT,.ret _ _ _ c1,tT,tF,tF,.ret _ _ _ c2,.ret _ _ _ c3,tT] (by kernel_rfl)).to (by simp only [wk,aw,D.int.injEq,true_and,and_true];exact B3 r0 r1 m0 m1)
theorem CU (r m:Int) (r0:0≤r) (r1:r≤15) (m0:0≤m) (m1:m≤15):aE Tryz.prog 106 ([.int .i8 r,.int .i8 m]) (.aA [.aj .tight 1 [.int .u8 (bT r m)],.int .i64 0]):=by
 have c0:= @cu r
 rw [show (bl r)=true from (@fg r r0 r1)] at c0
 have c1:= @cu m
 rw [show (bl m)=true from (@fg m m0 m1)] at c1
 have c2:= @wE r m r0 r1 m0 m1
 generalize g4:bT r m=r3 at c2
 exact (HK (d:= .aA [.aj .tight 1 [.int .u8 r3],.int .i64 0]) [.ret _ _ _ c0,tT,tT,.ret _ _ _ c1,tT,tF,tF,.ret _ _ _ c2] (by kernel_rfl)).to (by subst_vars;simp [wk,aw,aM])
theorem eI (r b aa:Int) (r0:0≤r) (r1:r≤15) (m0:0≤b) (m1:b≤15) (h0: -2147483648≤aa) (h1:aa≤2147483647) (hb:decide (b%8=4)=true):aE Tryz.prog 108 ([.int .i8 r,.int .i8 b,.int .i64 aa]) (.aA [.aj .no 1 [.int .u8 (128+8*(r%8)+b%8),.int .u8 36,.int .u8 (aa%256),.int .u8 (aa / 256%256),.int .u8 (aa / 65536%256),.int .u8 (aa / 16777216%256)],.int .i64 0]):=by
 have c0:= @ym aa h0 h1
 have c1:= @cu r
 rw [show (bl r)=true from (@fg r r0 r1)] at c1
 have c2:= @cu b
 rw [show (bl b)=true from (@fg b m0 m1)] at c2
 have c3:= @pv r b r0 r1 m0 m1
 exact (GX (d:= .aA [.aj (.fresh 1) 1 [.int .u8 (128+8*(r%8)+b%8),.int .u8 36,.int .u8 (aa%256),.int .u8 (aa / 256%256),.int .u8 (aa / 65536%256),.int .u8 (aa / 16777216%256)],.int .i64 0]) [.ret _ _ _ c0,tT,tT,.ret _ _ _ c1,tT,tF,tT,tT,.ret _ _ _ c2,tT,tF,tF,tC (de 4 true (eq_of_beq (@GN b hb))),.ret _ _ _ c3,.inl,.go 64,tT,tT,.get ([.aj .tight 1 [.int .u8 (128+8*(r%8)+b%8)],.aj .tight 1 [.int .u8 36],.aj .tight 1 [.int .u8 (aa%256),.int .u8 (aa / 256%256),.int .u8 (aa / 65536%256),.int .u8 (aa / 16777216%256)]]) 0 (.aj .tight 1 [.int .u8 (128+8*(r%8)+b%8)]) rfl,.len 1 2147483648 (by decide),tT,tT,.get ([.aj .tight 1 [.int .u8 (128+8*(r%8)+b%8)],.aj .tight 1 [.int .u8 36],.aj .tight 1 [.int .u8 (aa%256),.int .u8 (aa / 256%256),.int .u8 (aa / 65536%256),.int .u8 (aa / 16777216%256)]]) 1 (.aj .tight 1 [.int .u8 36]) rfl,.len 2 2147483648 (by decide),tT,tT,.get ([.aj .tight 1 [.int .u8 (128+8*(r%8)+b%8)],.aj .tight 1 [.int .u8 36],.aj .tight 1 [.int .u8 (aa%256),.int .u8 (aa / 256%256),.int .u8 (aa / 65536%256),.int .u8 (aa / 16777216%256)]]) 2 (.aj .tight 1 [.int .u8 (aa%256),.int .u8 (aa / 256%256),.int .u8 (aa / 65536%256),.int .u8 (aa / 16777216%256)]) rfl,.len 6 2147483648 (by decide),tF] (by kernel_rfl)).to (by subst_vars;simp [wk,aw,aM])
theorem eH (r b aa:Int) (r0:0≤r) (r1:r≤15) (m0:0≤b) (m1:b≤15) (h0: -2147483648≤aa) (h1:aa≤2147483647) (hb:decide (b%8=4)=false):aE Tryz.prog 108 ([.int .i8 r,.int .i8 b,.int .i64 aa]) (.aA [.aj .no 1 [.int .u8 (128+8*(r%8)+b%8),.int .u8 (aa%256),.int .u8 (aa / 256%256),.int .u8 (aa / 65536%256),.int .u8 (aa / 16777216%256)],.int .i64 0]):=by
 have c0:= @ym aa h0 h1
 have c1:= @cu r
 rw [show (bl r)=true from (@fg r r0 r1)] at c1
 have c2:= @cu b
 rw [show (bl b)=true from (@fg b m0 m1)] at c2
 have c3:= @pv r b r0 r1 m0 m1
 exact (GX (d:= .aA [.aj (.fresh 1) 1 [.int .u8 (128+8*(r%8)+b%8),.int .u8 (aa%256),.int .u8 (aa / 256%256),.int .u8 (aa / 65536%256),.int .u8 (aa / 16777216%256)],.int .i64 0]) [.ret _ _ _ c0,tT,tT,.ret _ _ _ c1,tT,tF,tT,tT,.ret _ _ _ c2,tT,tF,tF,tC (@GO b hb),.ret _ _ _ c3,.inl,.go 64,tT,tT,.get ([.aj .tight 1 [.int .u8 (128+8*(r%8)+b%8)],.aj .tight 0 [],.aj .tight 1 [.int .u8 (aa%256),.int .u8 (aa / 256%256),.int .u8 (aa / 65536%256),.int .u8 (aa / 16777216%256)]]) 0 (.aj .tight 1 [.int .u8 (128+8*(r%8)+b%8)]) rfl,.len 1 2147483648 (by decide),tT,tT,.get ([.aj .tight 1 [.int .u8 (128+8*(r%8)+b%8)],.aj .tight 0 [],.aj .tight 1 [.int .u8 (aa%256),.int .u8 (aa / 256%256),.int .u8 (aa / 65536%256),.int .u8 (aa / 16777216%256)]]) 1 (.aj .tight 0 []) rfl,.len 1 2147483648 (by decide),tT,tT,.get ([.aj .tight 1 [.int .u8 (128+8*(r%8)+b%8)],.aj .tight 0 [],.aj .tight 1 [.int .u8 (aa%256),.int .u8 (aa / 256%256),.int .u8 (aa / 65536%256),.int .u8 (aa / 16777216%256)]]) 2 (.aj .tight 1 [.int .u8 (aa%256),.int .u8 (aa / 256%256),.int .u8 (aa / 65536%256),.int .u8 (aa / 16777216%256)]) rfl,.len 5 2147483648 (by decide),tF] (by kernel_rfl)).to (by subst_vars;simp [wk,aw,aM])
theorem ej (r m:Int) (r0:0≤r) (r1:r≤15) (m0:0≤m) (m1:m≤15) (wide al:Bool) (hn:dB wide r m al=false):aE Tryz.prog 75 ([.bool wide,.int .i8 r,.int .i8 m,.bool al]) (.aj .tight 1 []):=by
 cases wide
 ·cases al
  ·have c0:= @uT r m r0 r1 m0 m1 hn
   exact (GD (d:= .aj .tight 0 []) [tT,tT,tT,tT,tT,tT,.ret _ _ _ c0,tT,tT,tT] (by kernel_rfl)).to (by first|(simp [wk,aw,aM];done)|(exfalso;simp [dB] at hn))
  have c1:= @na r m r0 r1 m0 m1
  generalize g3:e7 false r m=r2 at c1
  exact (GD (d:= .aj .tight 1 [.int .u8 r2]) [tT,tT,tT,tF,tF,tF,tF,tF,tF,.ret _ _ _ c1] (by kernel_rfl)).to (by first|(simp [wk,aw,aM];done)|(exfalso;simp [dB] at hn))
 have c4:= @qR r m r0 r1 m0 m1
 generalize g6:e7 true r m=r5 at c4
 exact (GD (d:= .aj .tight 1 [.int .u8 r5]) (List.replicate 9 tF++ [.ret _ _ _ c4]) (by kernel_rfl)).to (by first|(simp [wk,aw,aM];done)|(exfalso;simp [dB] at hn))
theorem db (r m:Int) (r0:0≤r) (r1:r≤15) (m0:0≤m) (m1:m≤15) (wide al:Bool) (hn:dB wide r m al=true):aE Tryz.prog 75 ([.bool wide,.int .i8 r,.int .i8 m,.bool al]) (.aj .tight 1 [.int .u8 (e7 wide r m)]):=by
 cases wide
 ·cases al
  ·have c0:= @uS r m r0 r1 m0 m1 hn
   have c1:= @na r m r0 r1 m0 m1
   generalize g3:e7 false r m=r2 at c1
   exact (GD (d:= .aj .tight 1 [.int .u8 r2]) [tT,tT,tT,tT,tT,tT,.ret _ _ _ c0,tT,tT,tF,.ret _ _ _ c1] (by kernel_rfl)).to (by subst_vars;first|(simp [wk,aw,aM];done)|(exfalso;simp [dB] at hn;omega))
  have c4:= @na r m r0 r1 m0 m1
  generalize g6:e7 false r m=r5 at c4
  exact (GD (d:= .aj .tight 1 [.int .u8 r5]) [tT,tT,tT,tF,tF,tF,tF,tF,tF,.ret _ _ _ c4] (by kernel_rfl)).to (by subst_vars;first|(simp [wk,aw,aM];done)|(exfalso;simp [dB] at hn;omega))
 have c7:= @qR r m r0 r1 m0 m1
 generalize g9:e7 true r m=r8 at c7
 exact (GD (d:= .aj .tight 1 [.int .u8 r8]) (List.replicate 9 tF++ [.ret _ _ _ c7]) (by kernel_rfl)).to (by subst_vars;first|(simp [wk,aw,aM];done)|(exfalso;simp [dB] at hn;omega))
theorem gI (r m:Int) (r0:0≤r) (r1:r≤15) (m0:0≤m) (m1:m≤15):aE Tryz.prog 76 ([.int .i8 r,.int .i8 m]) (.aj .tight 1 [.int .u8 (bT r m)]):=by
 have c0:= @CU r m r0 r1 m0 m1
 generalize g2:bT r m=r1 at c0
 exact (Im (d:= .aj .tight 1 [.int .u8 r1]) [.ret _ _ _ c0] (by kernel_rfl)).to (by subst_vars;simp [wk,aw,aM])
theorem jP (n:Int):aE Tryz.prog 77 ([.int .i64 n]) (.aj .no 1 [.int .u8 (n%256),.int .u8 (n / 256%256),.int .u8 (n / 65536%256),.int .u8 (n / 16777216%256)]):=by
 exact (Il (d:= .aj (.fresh 1) 1 [.int .u8 (IntKind.wrap IntKind.u8 (IntKind.wrap IntKind.u64 n)),.int .u8 (IntKind.wrap IntKind.u8 (Int.fdiv (IntKind.wrap IntKind.u64 n) 256)),.int .u8 (IntKind.wrap IntKind.u8 (Int.fdiv (Int.fdiv (IntKind.wrap IntKind.u64 n) 256) 256)),.int .u8 (IntKind.wrap IntKind.u8 (Int.fdiv (Int.fdiv (Int.fdiv (IntKind.wrap IntKind.u64 n) 256) 256) 256))]) [.inl,.go 64,tT,.len 1 2147483648 (by decide),tT,.len 2 2147483648 (by decide),tT,.len 3 2147483648 (by decide),tT,.len 4 2147483648 (by decide),tF] (by kernel_rfl)).to (by simp only [wk,aw,aM,D.int.injEq,D.aj.injEq,List.cons.injEq,true_and,and_true,dt,eM,true_or,Ir,Hb,EA,wW];first|done|omega|(simp;omega))
theorem xE (op w dst src base aa af cc:Int) (ho:op≤127) (d0:0≤dst) (d1:dst≤15) (s0:0≤src) (s1:src≤15) (b0:0≤base) (b1:base≤15) (p0: -2147483648≤aa) (p1:aa≤2147483647) (i0: -2147483648≤af) (i1:af≤2147483647) (c0:0≤cc) (c1:cc≤15) (n0:0≤cq op) (n1:cq op≤7) (h:(ax op==1)=true) (hin:decide (0≤op∧op≤31)=true) (hm:cg op w dst src base aa af cc=true):aE Tryz.prog 43 ([xD op w dst src base aa af cc]) (.aA [.aj .no 1 (bD (aK op w dst src base aa af cc)),.int .i64 0]):=by
 have c0:= @aJ op w dst src base aa af cc ho
 rw [hm] at c0
 have c1:= @bZ op ho
 rw [eq_of_beq h] at c1
 generalize g3:bc op=r2 at c1
 generalize g5:cq op=r4 at c1
 rcases dT (dB (w==64) src dst false) with h6|h6
 ·have c7:= @db src dst s0 s1 d0 d1 (w==64) false h6
  generalize g9:e7 (w==64) src dst=r8 at c7
  have c10:= @gI src dst s0 s1 d0 d1
  generalize g12:bT src dst=r11 at c10
  exact (iT (d:= .aA [.aj (.fresh 1) 1 [.int .u8 r8,.int .u8 r2,.int .u8 r11],.int .i64 0]) [.ret _ _ _ c0,tF,.ret _ _ _ c1,tT,.ret _ _ _ c7,.ret _ _ _ c10,.inl,.go 64,tT,tT,.get ([.aj .tight 1 [.int .u8 r8],.aj .tight 1 [.int .u8 r2],.aj .tight 1 [.int .u8 r11]]) 0 (.aj .tight 1 [.int .u8 r8]) rfl,.len 1 2147483648 (by decide),tT,tT,.get ([.aj .tight 1 [.int .u8 r8],.aj .tight 1 [.int .u8 r2],.aj .tight 1 [.int .u8 r11]]) 1 (.aj .tight 1 [.int .u8 r2]) rfl,.len 2 2147483648 (by decide),tT,tT,.get ([.aj .tight 1 [.int .u8 r8],.aj .tight 1 [.int .u8 r2],.aj .tight 1 [.int .u8 r11]]) 2 (.aj .tight 1 [.int .u8 r11]) rfl,.len 3 2147483648 (by decide),tF] (by kernel_rfl)).to (by subst_vars;(try simp only [bu] at*);(try simp only [beq_iff_eq] at h);(try simp only [decide_eq_true_eq,decide_eq_false_iff_not] at*);simp_all [wk,aw,aM,aK,bD,cf,cR,bB,dt])
 have c13:= @ej src dst s0 s1 d0 d1 (w==64) false h6
 have c14:= @gI src dst s0 s1 d0 d1
 generalize g16:bT src dst=r15 at c14
 exact (iT (d:= .aA [.aj (.fresh 1) 1 [.int .u8 r2,.int .u8 r15],.int .i64 0]) [.ret _ _ _ c0,tF,.ret _ _ _ c1,tT,.ret _ _ _ c13,.ret _ _ _ c14,.inl,.go 64,tT,tT,.get ([.aj .tight 1 [],.aj .tight 1 [.int .u8 r2],.aj .tight 1 [.int .u8 r15]]) 0 (.aj .tight 1 []) rfl,.len 0 2147483648 (by decide),tT,tT,.get ([.aj .tight 1 [],.aj .tight 1 [.int .u8 r2],.aj .tight 1 [.int .u8 r15]]) 1 (.aj .tight 1 [.int .u8 r2]) rfl,.len 1 2147483648 (by decide),tT,tT,.get ([.aj .tight 1 [],.aj .tight 1 [.int .u8 r2],.aj .tight 1 [.int .u8 r15]]) 2 (.aj .tight 1 [.int .u8 r15]) rfl,.len 2 2147483648 (by decide),tF] (by kernel_rfl)).to (by subst_vars;(try simp only [bu] at*);(try simp only [beq_iff_eq] at h);(try simp only [decide_eq_true_eq,decide_eq_false_iff_not] at*);simp_all [wk,aw,aM,aK,bD,cf,cR,bB,dt])
theorem tJ (w dst src base aa af cc:Int) (d0:0≤dst) (d1:dst≤15) (s0:0≤src) (s1:src≤15) (b0:0≤base) (b1:base≤15) (p0: -2147483648≤aa) (p1:aa≤2147483647) (i0: -2147483648≤af) (i1:af≤2147483647) (c0:0≤cc) (c1:cc≤15) (hm:cg 16 w dst src base aa af cc=true):aE Tryz.prog 43 ([xD 16 w dst src base aa af cc]) (.aA [.aj .no 1 (bD (aK 16 w dst src base aa af cc)),.int .i64 0]):=by
 have c0:= @aJ 16 w dst src base aa af cc (by decide)
 rw [hm] at c0
 have c1:= @bZ 16 (by decide)
 rcases dT (dB (w==64) dst src false) with h2|h2
 ·have c3:= @db dst src d0 d1 s0 s1 (w==64) false h2
  generalize g5:e7 (w==64) dst src=r4 at c3
  have c6:= @gI dst src d0 d1 s0 s1
  generalize g8:bT dst src=r7 at c6
  exact (iT (d:= .aA [.aj (.fresh 1) 1 [.int .u8 r4,.int .u8 15,.int .u8 175,.int .u8 r7],.int .i64 0]) [.ret _ _ _ c0,tF,.ret _ _ _ c1,tF,tT,.ret _ _ _ c3,.ret _ _ _ c6,.inl,.go 64,tT,tT,.get ([.aj .tight 1 [.int .u8 r4],.aj .tight 1 [.int .u8 15],.aj .tight 1 [.int .u8 175],.aj .tight 1 [.int .u8 r7]]) 0 (.aj .tight 1 [.int .u8 r4]) rfl,.len 1 2147483648 (by decide),tT,tT,.get ([.aj .tight 1 [.int .u8 r4],.aj .tight 1 [.int .u8 15],.aj .tight 1 [.int .u8 175],.aj .tight 1 [.int .u8 r7]]) 1 (.aj .tight 1 [.int .u8 15]) rfl,.len 2 2147483648 (by decide),tT,tT,.get ([.aj .tight 1 [.int .u8 r4],.aj .tight 1 [.int .u8 15],.aj .tight 1 [.int .u8 175],.aj .tight 1 [.int .u8 r7]]) 2 (.aj .tight 1 [.int .u8 175]) rfl,.len 3 2147483648 (by decide),tT,tT,.get ([.aj .tight 1 [.int .u8 r4],.aj .tight 1 [.int .u8 15],.aj .tight 1 [.int .u8 175],.aj .tight 1 [.int .u8 r7]]) 3 (.aj .tight 1 [.int .u8 r7]) rfl,.len 4 2147483648 (by decide),tF] (by kernel_rfl)).to (by subst_vars;(try simp only [bu] at*);(try simp only [beq_iff_eq] at h);(try simp only [decide_eq_true_eq,decide_eq_false_iff_not] at*);simp_all [wk,aw,aM,aK,show ax 16=2 from rfl,bc,bD,cf,cR,bB,dt])
 have c9:= @ej dst src d0 d1 s0 s1 (w==64) false h2
 have c10:= @gI dst src d0 d1 s0 s1
 generalize g12:bT dst src=r11 at c10
 exact (iT (d:= .aA [.aj (.fresh 1) 1 [.int .u8 15,.int .u8 175,.int .u8 r11],.int .i64 0]) [.ret _ _ _ c0,tF,.ret _ _ _ c1,tF,tT,.ret _ _ _ c9,.ret _ _ _ c10,.inl,.go 64,tT,tT,.get ([.aj .tight 1 [],.aj .tight 1 [.int .u8 15],.aj .tight 1 [.int .u8 175],.aj .tight 1 [.int .u8 r11]]) 0 (.aj .tight 1 []) rfl,.len 0 2147483648 (by decide),tT,tT,.get ([.aj .tight 1 [],.aj .tight 1 [.int .u8 15],.aj .tight 1 [.int .u8 175],.aj .tight 1 [.int .u8 r11]]) 1 (.aj .tight 1 [.int .u8 15]) rfl,.len 1 2147483648 (by decide),tT,tT,.get ([.aj .tight 1 [],.aj .tight 1 [.int .u8 15],.aj .tight 1 [.int .u8 175],.aj .tight 1 [.int .u8 r11]]) 2 (.aj .tight 1 [.int .u8 175]) rfl,.len 2 2147483648 (by decide),tT,tT,.get ([.aj .tight 1 [],.aj .tight 1 [.int .u8 15],.aj .tight 1 [.int .u8 175],.aj .tight 1 [.int .u8 r11]]) 3 (.aj .tight 1 [.int .u8 r11]) rfl,.len 3 2147483648 (by decide),tF] (by kernel_rfl)).to (by subst_vars;(try simp only [bu] at*);(try simp only [beq_iff_eq] at h);(try simp only [decide_eq_true_eq,decide_eq_false_iff_not] at*);simp_all [wk,aw,aM,aK,show ax 16=2 from rfl,bc,bD,cf,cR,bB,dt])
theorem xA (op w dst src base aa af cc:Int) (ho:op≤127) (d0:0≤dst) (d1:dst≤15) (s0:0≤src) (s1:src≤15) (b0:0≤base) (b1:base≤15) (p0: -2147483648≤aa) (p1:aa≤2147483647) (i0: -2147483648≤af) (i1:af≤2147483647) (c0:0≤cc) (c1:cc≤15) (n0:0≤cq op) (n1:cq op≤7) (h:(ax op==5)=true) (hin:decide (0≤op∧op≤31)=true) (hm:cg op w dst src base aa af cc=true):aE Tryz.prog 43 ([xD op w dst src base aa af cc]) (.aA [.aj .no 1 (bD (aK op w dst src base aa af cc)),.int .i64 0]):=by
 have c0:= @aJ op w dst src base aa af cc ho
 rw [hm] at c0
 have c1:= @bZ op ho
 rw [eq_of_beq h] at c1
 generalize g3:bc op=r2 at c1
 generalize g5:cq op=r4 at c1
 rcases dT (dB (w==64) 0 dst false) with h6|h6
 ·have c7:= @db 0 dst (by decide) (by decide) d0 d1 (w==64) false h6
  generalize g9:e7 (w==64) 0 dst=r8 at c7
  have c10:= @gI r4 dst (by (simp only [dK] at*;omega)) (by (simp only [dK] at*;omega)) d0 d1
  generalize g12:bT r4 dst=r11 at c10
  exact (iT (d:= .aA [.aj (.fresh 1) 1 [.int .u8 r8,.int .u8 r2,.int .u8 r11],.int .i64 0]) [.ret _ _ _ c0,tF,.ret _ _ _ c1,tF,tF,tF,tF,tF,tT,.ret _ _ _ c7,.ret _ _ _ c10,.inl,.go 64,tT,tT,.get ([.aj .tight 1 [.int .u8 r8],.aj .tight 1 [.int .u8 r2],.aj .tight 1 [.int .u8 r11]]) 0 (.aj .tight 1 [.int .u8 r8]) rfl,.len 1 2147483648 (by decide),tT,tT,.get ([.aj .tight 1 [.int .u8 r8],.aj .tight 1 [.int .u8 r2],.aj .tight 1 [.int .u8 r11]]) 1 (.aj .tight 1 [.int .u8 r2]) rfl,.len 2 2147483648 (by decide),tT,tT,.get ([.aj .tight 1 [.int .u8 r8],.aj .tight 1 [.int .u8 r2],.aj .tight 1 [.int .u8 r11]]) 2 (.aj .tight 1 [.int .u8 r11]) rfl,.len 3 2147483648 (by decide),tF] (by kernel_rfl)).to (by subst_vars;(try simp only [bu] at*);(try simp only [beq_iff_eq] at h);(try simp only [decide_eq_true_eq,decide_eq_false_iff_not] at*);simp_all [wk,aw,aM,aK,bD,cf,cR,bB,dt])
 have c13:= @ej 0 dst (by decide) (by decide) d0 d1 (w==64) false h6
 have c14:= @gI r4 dst (by (simp only [dK] at*;omega)) (by (simp only [dK] at*;omega)) d0 d1
 generalize g16:bT r4 dst=r15 at c14
 exact (iT (d:= .aA [.aj (.fresh 1) 1 [.int .u8 r2,.int .u8 r15],.int .i64 0]) [.ret _ _ _ c0,tF,.ret _ _ _ c1,tF,tF,tF,tF,tF,tT,.ret _ _ _ c13,.ret _ _ _ c14,.inl,.go 64,tT,tT,.get ([.aj .tight 1 [],.aj .tight 1 [.int .u8 r2],.aj .tight 1 [.int .u8 r15]]) 0 (.aj .tight 1 []) rfl,.len 0 2147483648 (by decide),tT,tT,.get ([.aj .tight 1 [],.aj .tight 1 [.int .u8 r2],.aj .tight 1 [.int .u8 r15]]) 1 (.aj .tight 1 [.int .u8 r2]) rfl,.len 1 2147483648 (by decide),tT,tT,.get ([.aj .tight 1 [],.aj .tight 1 [.int .u8 r2],.aj .tight 1 [.int .u8 r15]]) 2 (.aj .tight 1 [.int .u8 r15]) rfl,.len 2 2147483648 (by decide),tF] (by kernel_rfl)).to (by subst_vars;(try simp only [bu] at*);(try simp only [beq_iff_eq] at h);(try simp only [decide_eq_true_eq,decide_eq_false_iff_not] at*);simp_all [wk,aw,aM,aK,bD,cf,cR,bB,dt])
theorem xB (op w dst src base aa af cc:Int) (ho:op≤127) (d0:0≤dst) (d1:dst≤15) (s0:0≤src) (s1:src≤15) (b0:0≤base) (b1:base≤15) (p0: -2147483648≤aa) (p1:aa≤2147483647) (i0: -2147483648≤af) (i1:af≤2147483647) (c0:0≤cc) (c1:cc≤15) (n0:0≤cq op) (n1:cq op≤7) (h:(ax op==4)=true) (hin:decide (0≤op∧op≤31)=true) (hm:cg op w dst src base aa af cc=true):aE Tryz.prog 43 ([xD op w dst src base aa af cc]) (.aA [.aj .no 1 (bD (aK op w dst src base aa af cc)),.int .i64 0]):=by
 have c0:= @aJ op w dst src base aa af cc ho
 rw [hm] at c0
 have c1:= @bZ op ho
 rw [eq_of_beq h] at c1
 generalize g3:bc op=r2 at c1
 generalize g5:cq op=r4 at c1
 rcases dT (dB (w==64) 0 dst false) with h6|h6
 ·have c7:= @db 0 dst (by decide) (by decide) d0 d1 (w==64) false h6
  generalize g9:e7 (w==64) 0 dst=r8 at c7
  have c10:= @gI r4 dst (by (simp only [dK] at*;omega)) (by (simp only [dK] at*;omega)) d0 d1
  generalize g12:bT r4 dst=r11 at c10
  exact (iT (d:= .aA [.aj (.fresh 1) 1 [.int .u8 r8,.int .u8 r2,.int .u8 r11,.int .u8 (IntKind.u8.wrap af)],.int .i64 0]) [.ret _ _ _ c0,tF,.ret _ _ _ c1,tF,tF,tF,tF,tT,.ret _ _ _ c7,.ret _ _ _ c10,.inl,.go 64,tT,tT,.get ([.aj .tight 1 [.int .u8 r8],.aj .tight 1 [.int .u8 r2],.aj .tight 1 [.int .u8 r11],.aj .tight 1 [.int .u8 (IntKind.u8.wrap af)]]) 0 (.aj .tight 1 [.int .u8 r8]) rfl,.len 1 2147483648 (by decide),tT,tT,.get ([.aj .tight 1 [.int .u8 r8],.aj .tight 1 [.int .u8 r2],.aj .tight 1 [.int .u8 r11],.aj .tight 1 [.int .u8 (IntKind.u8.wrap af)]]) 1 (.aj .tight 1 [.int .u8 r2]) rfl,.len 2 2147483648 (by decide),tT,tT,.get ([.aj .tight 1 [.int .u8 r8],.aj .tight 1 [.int .u8 r2],.aj .tight 1 [.int .u8 r11],.aj .tight 1 [.int .u8 (IntKind.u8.wrap af)]]) 2 (.aj .tight 1 [.int .u8 r11]) rfl,.len 3 2147483648 (by decide),tT,tT,.get ([.aj .tight 1 [.int .u8 r8],.aj .tight 1 [.int .u8 r2],.aj .tight 1 [.int .u8 r11],.aj .tight 1 [.int .u8 (IntKind.u8.wrap af)]]) 3 (.aj .tight 1 [.int .u8 (IntKind.u8.wrap af)]) rfl,.len 4 2147483648 (by decide),tF] (by kernel_rfl)).to (by (try rw [mn d0 d1]);(subst_vars;(try simp only [bu] at*);(try simp only [beq_iff_eq] at h);(try simp only [decide_eq_true_eq,decide_eq_false_iff_not] at*);simp_all [wk,aw,aM,aK,bD,cf,cR,bB,dt];done))
 have c13:= @ej 0 dst (by decide) (by decide) d0 d1 (w==64) false h6
 have c14:= @gI r4 dst (by (simp only [dK] at*;omega)) (by (simp only [dK] at*;omega)) d0 d1
 generalize g16:bT r4 dst=r15 at c14
 exact (iT (d:= .aA [.aj (.fresh 1) 1 [.int .u8 r2,.int .u8 r15,.int .u8 (IntKind.u8.wrap af)],.int .i64 0]) [.ret _ _ _ c0,tF,.ret _ _ _ c1,tF,tF,tF,tF,tT,.ret _ _ _ c13,.ret _ _ _ c14,.inl,.go 64,tT,tT,.get ([.aj .tight 1 [],.aj .tight 1 [.int .u8 r2],.aj .tight 1 [.int .u8 r15],.aj .tight 1 [.int .u8 (IntKind.u8.wrap af)]]) 0 (.aj .tight 1 []) rfl,.len 0 2147483648 (by decide),tT,tT,.get ([.aj .tight 1 [],.aj .tight 1 [.int .u8 r2],.aj .tight 1 [.int .u8 r15],.aj .tight 1 [.int .u8 (IntKind.u8.wrap af)]]) 1 (.aj .tight 1 [.int .u8 r2]) rfl,.len 1 2147483648 (by decide),tT,tT,.get ([.aj .tight 1 [],.aj .tight 1 [.int .u8 r2],.aj .tight 1 [.int .u8 r15],.aj .tight 1 [.int .u8 (IntKind.u8.wrap af)]]) 2 (.aj .tight 1 [.int .u8 r15]) rfl,.len 2 2147483648 (by decide),tT,tT,.get ([.aj .tight 1 [],.aj .tight 1 [.int .u8 r2],.aj .tight 1 [.int .u8 r15],.aj .tight 1 [.int .u8 (IntKind.u8.wrap af)]]) 3 (.aj .tight 1 [.int .u8 (IntKind.u8.wrap af)]) rfl,.len 3 2147483648 (by decide),tF] (by kernel_rfl)).to (by (try rw [mn d0 d1]);(subst_vars;(try simp only [bu] at*);(try simp only [beq_iff_eq] at h);(try simp only [decide_eq_true_eq,decide_eq_false_iff_not] at*);simp_all [wk,aw,aM,aK,bD,cf,cR,bB,dt];done))
theorem xC (op w dst src base aa af cc:Int) (ho:op≤127) (d0:0≤dst) (d1:dst≤15) (s0:0≤src) (s1:src≤15) (b0:0≤base) (b1:base≤15) (p0: -2147483648≤aa) (p1:aa≤2147483647) (i0: -2147483648≤af) (i1:af≤2147483647) (c0:0≤cc) (c1:cc≤15) (n0:0≤cq op) (n1:cq op≤7) (h:(ax op==3)=true) (hin:decide (0≤op∧op≤31)=true) (hw:w=32∨w=64) (hm:cg op w dst src base aa af cc=true):aE Tryz.prog 43 ([xD op w dst src base aa af cc]) (.aA [.aj .no 1 (bD (aK op w dst src base aa af cc)),.int .i64 0]):=by
 have c0:= @aJ op w dst src base aa af cc ho
 rw [hm] at c0
 have c1:= @bZ op ho
 rw [eq_of_beq h] at c1
 generalize g3:bc op=r2 at c1
 generalize g5:cq op=r4 at c1
 let E1:EL:= [.ret _ _ _ c0,tF,.ret _ _ _ c1,tF,tF,tF,tT]
 by_cases h6:op=1
 ·subst h6
  by_cases h7:w=64
  ·subst h7
   have c8:= @db 0 dst n0 (by decide) d0 d1 true false (rfl:true=true)
   generalize g10:e7 true 0 dst=r9 at c8
   have c11:= @gI r4 dst (by (simp only [dK] at*;omega)) (by (simp only [dK] at*;omega)) d0 d1
   generalize g13:bT r4 dst=r12 at c11
   have c14:= @jP af
   exact (iT (d:= .aA [.aj (.fresh 1) 1 [.int .u8 r9,.int .u8 r2,.int .u8 r12,.int .u8 (af%256),.int .u8 (af / 256%256),.int .u8 (af / 65536%256),.int .u8 (af / 16777216%256)],.int .i64 0]) (E1++ [tT,tT,tT,tF,.ret _ _ _ c8,.ret _ _ _ c11,.ret _ _ _ c14,.inl,.go 64,tT,tT,.get ([.aj .tight 1 [.int .u8 r9],.aj .tight 1 [.int .u8 r2],.aj .tight 1 [.int .u8 r12],.aj .no 1 [.int .u8 (af%256),.int .u8 (af / 256%256),.int .u8 (af / 65536%256),.int .u8 (af / 16777216%256)]]) 0 (.aj .tight 1 [.int .u8 r9]) rfl,.len 1 2147483648 (by decide),tT,tT,.get ([.aj .tight 1 [.int .u8 r9],.aj .tight 1 [.int .u8 r2],.aj .tight 1 [.int .u8 r12],.aj .no 1 [.int .u8 (af%256),.int .u8 (af / 256%256),.int .u8 (af / 65536%256),.int .u8 (af / 16777216%256)]]) 1 (.aj .tight 1 [.int .u8 r2]) rfl,.len 2 2147483648 (by decide),tT,tT,.get ([.aj .tight 1 [.int .u8 r9],.aj .tight 1 [.int .u8 r2],.aj .tight 1 [.int .u8 r12],.aj .no 1 [.int .u8 (af%256),.int .u8 (af / 256%256),.int .u8 (af / 65536%256),.int .u8 (af / 16777216%256)]]) 2 (.aj .tight 1 [.int .u8 r12]) rfl,.len 3 2147483648 (by decide),tT,tT,.get ([.aj .tight 1 [.int .u8 r9],.aj .tight 1 [.int .u8 r2],.aj .tight 1 [.int .u8 r12],.aj .no 1 [.int .u8 (af%256),.int .u8 (af / 256%256),.int .u8 (af / 65536%256),.int .u8 (af / 16777216%256)]]) 3 (.aj .no 1 [.int .u8 (af%256),.int .u8 (af / 256%256),.int .u8 (af / 65536%256),.int .u8 (af / 16777216%256)]) rfl,.len 7 2147483648 (by decide),tF]) (by kernel_rfl)).to (by clear E1;(try rw [mn d0 d1]);(subst_vars;(try simp only [bu] at*);(try simp only [beq_iff_eq] at h);(try simp only [decide_eq_true_eq,decide_eq_false_iff_not] at*);simp_all [wk,aw,aM,aK,bD,cf,cR,bB,dt,dB];done))
  rcases dT (dB false 0 dst false) with h15|h15
  ·have c16:= @db 0 dst n0 (by decide) d0 d1 false false h15
   generalize g18:e7 false 0 dst=r17 at c16
   have c19:= @jP af
   exact (iT (d:= .aA [.aj (.fresh 1) 1 [.int .u8 r17,.int .u8 (IntKind.u8.wrap (↑(BitVec.toNat (BitVec.ofInt 8 184|||BitVec.ofInt 8 (IntKind.u8.wrap (IntKind.i8.wrap (↑(BitVec.toNat (BitVec.ofInt 8 dst&&&BitVec.ofInt 8 7)):Int))))):Int)),.int .u8 (af%256),.int .u8 (af / 256%256),.int .u8 (af / 65536%256),.int .u8 (af / 16777216%256)],.int .i64 0]) (E1++ [tT,tT,tT,tC (nt (av h7)),.ret _ _ _ c16,.ret _ _ _ c19,.inl,.go 64,tT,tT,.get ([.aj .tight 1 [.int .u8 r17],.aj .tight 1 [.int .u8 (IntKind.u8.wrap (↑(BitVec.toNat (BitVec.ofInt 8 184|||BitVec.ofInt 8 (IntKind.u8.wrap (IntKind.i8.wrap (↑(BitVec.toNat (BitVec.ofInt 8 dst&&&BitVec.ofInt 8 7)):Int))))):Int))],.aj .no 1 [.int .u8 (af%256),.int .u8 (af / 256%256),.int .u8 (af / 65536%256),.int .u8 (af / 16777216%256)]]) 0 (.aj .tight 1 [.int .u8 r17]) rfl,.len 1 2147483648 (by decide),tT,tT,.get ([.aj .tight 1 [.int .u8 r17],.aj .tight 1 [.int .u8 (IntKind.u8.wrap (↑(BitVec.toNat (BitVec.ofInt 8 184|||BitVec.ofInt 8 (IntKind.u8.wrap (IntKind.i8.wrap (↑(BitVec.toNat (BitVec.ofInt 8 dst&&&BitVec.ofInt 8 7)):Int))))):Int))],.aj .no 1 [.int .u8 (af%256),.int .u8 (af / 256%256),.int .u8 (af / 65536%256),.int .u8 (af / 16777216%256)]]) 1 (.aj .tight 1 [.int .u8 (IntKind.u8.wrap (↑(BitVec.toNat (BitVec.ofInt 8 184|||BitVec.ofInt 8 (IntKind.u8.wrap (IntKind.i8.wrap (↑(BitVec.toNat (BitVec.ofInt 8 dst&&&BitVec.ofInt 8 7)):Int))))):Int))]) rfl,.len 2 2147483648 (by decide),tT,tT,.get ([.aj .tight 1 [.int .u8 r17],.aj .tight 1 [.int .u8 (IntKind.u8.wrap (↑(BitVec.toNat (BitVec.ofInt 8 184|||BitVec.ofInt 8 (IntKind.u8.wrap (IntKind.i8.wrap (↑(BitVec.toNat (BitVec.ofInt 8 dst&&&BitVec.ofInt 8 7)):Int))))):Int))],.aj .no 1 [.int .u8 (af%256),.int .u8 (af / 256%256),.int .u8 (af / 65536%256),.int .u8 (af / 16777216%256)]]) 2 (.aj .no 1 [.int .u8 (af%256),.int .u8 (af / 256%256),.int .u8 (af / 65536%256),.int .u8 (af / 16777216%256)]) rfl,.len 6 2147483648 (by decide),tF]) (by kernel_rfl)).to (by clear E1;(try rw [mn d0 d1]);(subst_vars;(try simp only [bu] at*);(try simp only [beq_iff_eq] at h);(try simp only [decide_eq_true_eq,decide_eq_false_iff_not] at*);simp_all [wk,aw,aM,aK,bD,cf,cR,bB,dt];done))
  have c20:= @ej 0 dst n0 (by decide) d0 d1 false false h15
  have c21:= @jP af
  exact (iT (d:= .aA [.aj (.fresh 1) 1 [.int .u8 (IntKind.u8.wrap (↑(BitVec.toNat (BitVec.ofInt 8 184|||BitVec.ofInt 8 (IntKind.u8.wrap (IntKind.i8.wrap (↑(BitVec.toNat (BitVec.ofInt 8 dst&&&BitVec.ofInt 8 7)):Int))))):Int)),.int .u8 (af%256),.int .u8 (af / 256%256),.int .u8 (af / 65536%256),.int .u8 (af / 16777216%256)],.int .i64 0]) (E1++ [tT,tT,tT,tC (nt (av h7)),.ret _ _ _ c20,.ret _ _ _ c21,.inl,.go 64,tT,tT,.get ([.aj .tight 1 [],.aj .tight 1 [.int .u8 (IntKind.u8.wrap (↑(BitVec.toNat (BitVec.ofInt 8 184|||BitVec.ofInt 8 (IntKind.u8.wrap (IntKind.i8.wrap (↑(BitVec.toNat (BitVec.ofInt 8 dst&&&BitVec.ofInt 8 7)):Int))))):Int))],.aj .no 1 [.int .u8 (af%256),.int .u8 (af / 256%256),.int .u8 (af / 65536%256),.int .u8 (af / 16777216%256)]]) 0 (.aj .tight 1 []) rfl,.len 0 2147483648 (by decide),tT,tT,.get ([.aj .tight 1 [],.aj .tight 1 [.int .u8 (IntKind.u8.wrap (↑(BitVec.toNat (BitVec.ofInt 8 184|||BitVec.ofInt 8 (IntKind.u8.wrap (IntKind.i8.wrap (↑(BitVec.toNat (BitVec.ofInt 8 dst&&&BitVec.ofInt 8 7)):Int))))):Int))],.aj .no 1 [.int .u8 (af%256),.int .u8 (af / 256%256),.int .u8 (af / 65536%256),.int .u8 (af / 16777216%256)]]) 1 (.aj .tight 1 [.int .u8 (IntKind.u8.wrap (↑(BitVec.toNat (BitVec.ofInt 8 184|||BitVec.ofInt 8 (IntKind.u8.wrap (IntKind.i8.wrap (↑(BitVec.toNat (BitVec.ofInt 8 dst&&&BitVec.ofInt 8 7)):Int))))):Int))]) rfl,.len 1 2147483648 (by decide),tT,tT,.get ([.aj .tight 1 [],.aj .tight 1 [.int .u8 (IntKind.u8.wrap (↑(BitVec.toNat (BitVec.ofInt 8 184|||BitVec.ofInt 8 (IntKind.u8.wrap (IntKind.i8.wrap (↑(BitVec.toNat (BitVec.ofInt 8 dst&&&BitVec.ofInt 8 7)):Int))))):Int))],.aj .no 1 [.int .u8 (af%256),.int .u8 (af / 256%256),.int .u8 (af / 65536%256),.int .u8 (af / 16777216%256)]]) 2 (.aj .no 1 [.int .u8 (af%256),.int .u8 (af / 256%256),.int .u8 (af / 65536%256),.int .u8 (af / 16777216%256)]) rfl,.len 5 2147483648 (by decide),tF]) (by kernel_rfl)).to (by clear E1;(try rw [mn d0 d1]);(subst_vars;(try simp only [bu] at*);(try simp only [beq_iff_eq] at h);(try simp only [decide_eq_true_eq,decide_eq_false_iff_not] at*);simp_all [wk,aw,aM,aK,bD,cf,cR,bB,dt];done))
 rcases dT (dB (w==64) 0 dst false) with h22|h22
 ·have c23:= @db 0 dst (by decide) (by decide) d0 d1 (w==64) false h22
  generalize g25:e7 (w==64) 0 dst=r24 at c23
  have c26:= @gI r4 dst (by (simp only [dK] at*;omega)) (by (simp only [dK] at*;omega)) d0 d1
  generalize g28:bT r4 dst=r27 at c26
  have c29:= @jP af
  exact (iT (d:= .aA [.aj (.fresh 1) 1 [.int .u8 r24,.int .u8 r2,.int .u8 r27,.int .u8 (af%256),.int .u8 (af / 256%256),.int .u8 (af / 65536%256),.int .u8 (af / 16777216%256)],.int .i64 0]) (E1++ [tC (eT (av h6)),tC (eT (av h6)),tC (av h6),tF,.ret _ _ _ c23,.ret _ _ _ c26,.ret _ _ _ c29,.inl,.go 64,tT,tT,.get ([.aj .tight 1 [.int .u8 r24],.aj .tight 1 [.int .u8 r2],.aj .tight 1 [.int .u8 r27],.aj .no 1 [.int .u8 (af%256),.int .u8 (af / 256%256),.int .u8 (af / 65536%256),.int .u8 (af / 16777216%256)]]) 0 (.aj .tight 1 [.int .u8 r24]) rfl,.len 1 2147483648 (by decide),tT,tT,.get ([.aj .tight 1 [.int .u8 r24],.aj .tight 1 [.int .u8 r2],.aj .tight 1 [.int .u8 r27],.aj .no 1 [.int .u8 (af%256),.int .u8 (af / 256%256),.int .u8 (af / 65536%256),.int .u8 (af / 16777216%256)]]) 1 (.aj .tight 1 [.int .u8 r2]) rfl,.len 2 2147483648 (by decide),tT,tT,.get ([.aj .tight 1 [.int .u8 r24],.aj .tight 1 [.int .u8 r2],.aj .tight 1 [.int .u8 r27],.aj .no 1 [.int .u8 (af%256),.int .u8 (af / 256%256),.int .u8 (af / 65536%256),.int .u8 (af / 16777216%256)]]) 2 (.aj .tight 1 [.int .u8 r27]) rfl,.len 3 2147483648 (by decide),tT,tT,.get ([.aj .tight 1 [.int .u8 r24],.aj .tight 1 [.int .u8 r2],.aj .tight 1 [.int .u8 r27],.aj .no 1 [.int .u8 (af%256),.int .u8 (af / 256%256),.int .u8 (af / 65536%256),.int .u8 (af / 16777216%256)]]) 3 (.aj .no 1 [.int .u8 (af%256),.int .u8 (af / 256%256),.int .u8 (af / 65536%256),.int .u8 (af / 16777216%256)]) rfl,.len 7 2147483648 (by decide),tF]) (by kernel_rfl)).to (by clear E1;(try rw [mn d0 d1]);(subst_vars;(try simp only [bu] at*);(try simp only [beq_iff_eq] at h);(try simp only [decide_eq_true_eq,decide_eq_false_iff_not] at*);simp_all [wk,aw,aM,aK,bD,cf,cR,bB,dt];done))
 have c30:= @ej 0 dst (by decide) (by decide) d0 d1 (w==64) false h22
 have c31:= @gI r4 dst (by (simp only [dK] at*;omega)) (by (simp only [dK] at*;omega)) d0 d1
 generalize g33:bT r4 dst=r32 at c31
 have c34:= @jP af
 exact (iT (d:= .aA [.aj (.fresh 1) 1 [.int .u8 r2,.int .u8 r32,.int .u8 (af%256),.int .u8 (af / 256%256),.int .u8 (af / 65536%256),.int .u8 (af / 16777216%256)],.int .i64 0]) (E1++ [tC (eT (av h6)),tC (eT (av h6)),tC (av h6),tF,.ret _ _ _ c30,.ret _ _ _ c31,.ret _ _ _ c34,.inl,.go 64,tT,tT,.get ([.aj .tight 1 [],.aj .tight 1 [.int .u8 r2],.aj .tight 1 [.int .u8 r32],.aj .no 1 [.int .u8 (af%256),.int .u8 (af / 256%256),.int .u8 (af / 65536%256),.int .u8 (af / 16777216%256)]]) 0 (.aj .tight 1 []) rfl,.len 0 2147483648 (by decide),tT,tT,.get ([.aj .tight 1 [],.aj .tight 1 [.int .u8 r2],.aj .tight 1 [.int .u8 r32],.aj .no 1 [.int .u8 (af%256),.int .u8 (af / 256%256),.int .u8 (af / 65536%256),.int .u8 (af / 16777216%256)]]) 1 (.aj .tight 1 [.int .u8 r2]) rfl,.len 1 2147483648 (by decide),tT,tT,.get ([.aj .tight 1 [],.aj .tight 1 [.int .u8 r2],.aj .tight 1 [.int .u8 r32],.aj .no 1 [.int .u8 (af%256),.int .u8 (af / 256%256),.int .u8 (af / 65536%256),.int .u8 (af / 16777216%256)]]) 2 (.aj .tight 1 [.int .u8 r32]) rfl,.len 2 2147483648 (by decide),tT,tT,.get ([.aj .tight 1 [],.aj .tight 1 [.int .u8 r2],.aj .tight 1 [.int .u8 r32],.aj .no 1 [.int .u8 (af%256),.int .u8 (af / 256%256),.int .u8 (af / 65536%256),.int .u8 (af / 16777216%256)]]) 3 (.aj .no 1 [.int .u8 (af%256),.int .u8 (af / 256%256),.int .u8 (af / 65536%256),.int .u8 (af / 16777216%256)]) rfl,.len 6 2147483648 (by decide),tF]) (by kernel_rfl)).to (by clear E1;(try rw [mn d0 d1]);(subst_vars;(try simp only [bu] at*);(try simp only [beq_iff_eq] at h);(try simp only [decide_eq_true_eq,decide_eq_false_iff_not] at*);simp_all [wk,aw,aM,aK,bD,cf,cR,bB,dt];done))
theorem tI (w dst src base aa af cc:Int) (d0:0≤dst) (d1:dst≤15) (s0:0≤src) (s1:src≤15) (b0:0≤base) (b1:base≤15) (p0: -2147483648≤aa) (p1:aa≤2147483647) (i0: -2147483648≤af) (i1:af≤2147483647) (c0:0≤cc) (c1:cc≤15) (hm:cg 25 w dst src base aa af cc=true):aE Tryz.prog 43 ([xD 25 w dst src base aa af cc]) (.aA [.aj .no 1 (bD (aK 25 w dst src base aa af cc)),.int .i64 0]):=by
 have c0:= @aJ 25 w dst src base aa af cc (by decide)
 rw [hm] at c0
 have c1:= @bZ 25 (by decide)
 rcases dT (dB (w==64) dst src false) with h2|h2
 ·have c3:= @db dst src d0 d1 s0 s1 (w==64) false h2
  generalize g5:e7 (w==64) dst src=r4 at c3
  have c6:= @gI dst src d0 d1 s0 s1
  generalize g8:bT dst src=r7 at c6
  exact (iT (d:= .aA [.aj (.fresh 1) 1 [.int .u8 r4,.int .u8 15,.int .u8 (IntKind.u8.wrap (64+IntKind.u8.wrap cc)),.int .u8 r7],.int .i64 0]) [.ret _ _ _ c0,tF,.ret _ _ _ c1,tF,tF,tT,.ret _ _ _ c3,.ret _ _ _ c6,.inl,.go 64,tT,tT,.get ([.aj .tight 1 [.int .u8 r4],.aj .tight 1 [.int .u8 15,.int .u8 (IntKind.u8.wrap (64+IntKind.u8.wrap cc))],.aj .tight 1 [.int .u8 r7]]) 0 (.aj .tight 1 [.int .u8 r4]) rfl,.len 1 2147483648 (by decide),tT,tT,.get ([.aj .tight 1 [.int .u8 r4],.aj .tight 1 [.int .u8 15,.int .u8 (IntKind.u8.wrap (64+IntKind.u8.wrap cc))],.aj .tight 1 [.int .u8 r7]]) 1 (.aj .tight 1 [.int .u8 15,.int .u8 (IntKind.u8.wrap (64+IntKind.u8.wrap cc))]) rfl,.len 3 2147483648 (by decide),tT,tT,.get ([.aj .tight 1 [.int .u8 r4],.aj .tight 1 [.int .u8 15,.int .u8 (IntKind.u8.wrap (64+IntKind.u8.wrap cc))],.aj .tight 1 [.int .u8 r7]]) 2 (.aj .tight 1 [.int .u8 r7]) rfl,.len 4 2147483648 (by decide),tF] (by kernel_rfl)).to (by (try rw [mn d0 d1]);(subst_vars;(try simp only [bu] at*);(try simp only [beq_iff_eq] at h);(try simp only [decide_eq_true_eq,decide_eq_false_iff_not] at*);simp_all [wk,aw,aM,aK,bD,cf,cR,bB,dt,dB,bc,cq,ax];omega))
 have c9:= @ej dst src d0 d1 s0 s1 (w==64) false h2
 have c10:= @gI dst src d0 d1 s0 s1
 generalize g12:bT dst src=r11 at c10
 exact (iT (d:= .aA [.aj (.fresh 1) 1 [.int .u8 15,.int .u8 (IntKind.u8.wrap (64+IntKind.u8.wrap cc)),.int .u8 r11],.int .i64 0]) [.ret _ _ _ c0,tF,.ret _ _ _ c1,tF,tF,tT,.ret _ _ _ c9,.ret _ _ _ c10,.inl,.go 64,tT,tT,.get ([.aj .tight 1 [],.aj .tight 1 [.int .u8 15,.int .u8 (IntKind.u8.wrap (64+IntKind.u8.wrap cc))],.aj .tight 1 [.int .u8 r11]]) 0 (.aj .tight 1 []) rfl,.len 0 2147483648 (by decide),tT,tT,.get ([.aj .tight 1 [],.aj .tight 1 [.int .u8 15,.int .u8 (IntKind.u8.wrap (64+IntKind.u8.wrap cc))],.aj .tight 1 [.int .u8 r11]]) 1 (.aj .tight 1 [.int .u8 15,.int .u8 (IntKind.u8.wrap (64+IntKind.u8.wrap cc))]) rfl,.len 2 2147483648 (by decide),tT,tT,.get ([.aj .tight 1 [],.aj .tight 1 [.int .u8 15,.int .u8 (IntKind.u8.wrap (64+IntKind.u8.wrap cc))],.aj .tight 1 [.int .u8 r11]]) 2 (.aj .tight 1 [.int .u8 r11]) rfl,.len 3 2147483648 (by decide),tF] (by kernel_rfl)).to (by (try rw [mn d0 d1]);(subst_vars;(try simp only [bu] at*);(try simp only [beq_iff_eq] at h);(try simp only [decide_eq_true_eq,decide_eq_false_iff_not] at*);simp_all [wk,aw,aM,aK,bD,cf,cR,bB,dt,bc,cq,ax];omega))
end Go.Proofs.YtbfpahigdpigpaaGreat
