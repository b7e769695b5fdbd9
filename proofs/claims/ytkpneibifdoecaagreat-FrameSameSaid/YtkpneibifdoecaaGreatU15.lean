import Derived.Shelf.Spec.SlicesGrow
import Derived.Test.YtkpneibifdoecaaGreatU05
import Derived.Test.YtkpneibifdoecaaGreatU06
import Derived.Test.YtkpneibifdoecaaGreatU09
import Derived.Test.YtkpneibifdoecaaGreatU10
import Derived.Test.YtkpneibifdoecaaGreatU12
import Derived.Test.YtkpneibifdoecaaGreatU13
import Derived.Test.YtkpneibifdoecaaGreatU14
open List renaming replicate→Vc,length_append→Vd,length_cons→Vf,length_nil→Vg,length_set→Vj,length_map→Vl,length→Vt,map→VG,length_singleton→VX,append_assoc→Wa,append_nil→Wb,map_cons→WG
open Go.Fn renaming func→Ve
open BitVec renaming ofInt→Vh
open Int renaming toNat→VB,toNat_natCast→Ws
open True renaming intro→VS
open And renaming intro→VY
open Go renaming IntKind→WO
/- Contracts and plain laws that a statement's proof leans on (texts merged:E1e,Y1f,ESM,I3,ZI0,ZI1,MdG,MdR,MdQ,MdU,ZI1A,ZI0B,ZI0A,ZI2,ZI2A,FC,GRW,FR1,MdFu,FR1A,FX0,RS0,RS0A,RS1,FT0,FT2,MV3,MV3A,MV4). -/
set_option linter.unusedVariables false
set_option linter.unusedSimpArgs false
set_option maxRecDepth 100000
set_option maxHeartbeats 8000000
namespace Go.Proofs.YtkpneibifdoecaaGreat
open Go Go.Ev
theorem yq (q0 q1 q2 q3 q4 q5 q6 q7 q8 q9 bK bP bO bN bM bL PA:Int) (fk fc fz fs fo:Bool) (w dst src base aa ai cc ld:Int) (d0:0≤dst) (d1:dst≤15) (s0:0≤src) (s1:src≤15) (b0:0≤base) (b1:base≤15) (hm:aA 24 w dst src base aa ai cc=true) (hd:(aQ (rg [q0,q1,q2,q3,q4,q5,q6,q7,q8,q9,bK,bP,bO,bN,bM,bL] dst) w==0)=false) (hz:(aQ q2 w==0)=true):aZ Tryz.prog 55 ([.agg [.int .u64 q0,.int .u64 q1,.int .u64 q2,.int .u64 q3,.int .u64 q4,.int .u64 q5,.int .u64 q6,.int .u64 q7,.int .u64 q8,.int .u64 q9,.int .u64 bK,.int .u64 bP,.int .u64 bO,.int .u64 bN,.int .u64 bM,.int .u64 bL,.bool fk,.bool fc,.bool fz,.bool fs,.bool fo,.int .u64 (PA)],xD 24 w dst src base aa ai cc,.int .u64 ld]) (.aM [.agg [.int .u64 (u64 ((aQ q0 w).tdiv (aQ (rg [q0,q1,q2,q3,q4,q5,q6,q7,q8,q9,bK,bP,bO,bN,bM,bL] dst) w))),.int .u64 q1,.int .u64 ((aQ q0 w).tmod (aQ (rg [q0,q1,q2,q3,q4,q5,q6,q7,q8,q9,bK,bP,bO,bN,bM,bL] dst) w)),.int .u64 q3,.int .u64 q4,.int .u64 q5,.int .u64 q6,.int .u64 q7,.int .u64 q8,.int .u64 q9,.int .u64 bK,.int .u64 bP,.int .u64 bO,.int .u64 bN,.int .u64 bM,.int .u64 bL,.bool false,.bool false,.bool false,.bool false,.bool false,.int .u64 (u64 (PA+u64 (dz 24 w dst src base aa ai cc)))],.int .i64 0]):=by
 have c0:= @aE 24 w dst src base aa ai cc (by decide)
 rw [show (aA 24 w dst src base aa ai cc)=true from hm] at c0
 have c1:= @bX 24 w dst src base aa ai cc (by decide)
 have c2:= @bS q0 w
 have c3:= @bS (rg [q0,q1,q2,q3,q4,q5,q6,q7,q8,q9,bK,bP,bO,bN,bM,bL] dst) w
 have c4:= @bS q2 w
 have c5:= @cg
 exact (jG (d:= .aM [.agg [.int .u64 (WO.wrap WO.u64 (Int.tdiv (aQ q0 w) (aQ (rg [q0,q1,q2,q3,q4,q5,q6,q7,q8,q9,bK,bP,bO,bN,bM,bL] dst) w))),.int .u64 q1,.int .u64 (Int.tmod (aQ q0 w) (aQ (rg [q0,q1,q2,q3,q4,q5,q6,q7,q8,q9,bK,bP,bO,bN,bM,bL] dst) w)),.int .u64 q3,.int .u64 q4,.int .u64 q5,.int .u64 q6,.int .u64 q7,.int .u64 q8,.int .u64 q9,.int .u64 bK,.int .u64 bP,.int .u64 bO,.int .u64 bN,.int .u64 bM,.int .u64 bL,.bool false,.bool false,.bool false,.bool false,.bool false,.int .u64 (WO.wrap WO.u64 (PA+WO.wrap WO.u64 (dz 24 w dst src base aa ai cc)))],.int .i64 0]) ([.ret _ _ _ c0,tF,.ret _ _ _ c1,tT,.get ([D.fn (Ve 74) [.ptr false 4 0] [],D.fn (Ve 75) [.ptr false 4 0] [],D.av,D.av,D.av,D.av,D.av,D.av,D.av,D.av,D.av,D.av,D.av,D.av,D.av,D.av,D.av,D.av,D.av,D.av,D.av,D.av,D.av,D.av,D.fn (Ve 76) [.ptr false 4 0] [],D.fn (Ve 77) [.ptr false 4 0] [],D.fn (Ve 78) [.ptr false 4 0] [],D.fn (Ve 79) [.ptr false 4 0] [],D.fn (Ve 80) [.ptr false 4 0] [],D.fn (Ve 81) [.ptr false 4 0] [],D.fn (Ve 82) [.ptr false 4 0] [],D.fn (Ve 83) [.ptr false 4 0] []]) 24 (D.fn (Ve 76) [.ptr false 4 0] []) rfl,tF,.inl,.ret _ _ _ c2,.cH (decide (0≤dst∧dst<(↑(16:Nat):Int))) true (by (simp only [cf] at*;omega)),.get _ _ _ (@jM q0 q1 q2 q3 q4 q5 q6 q7 q8 q9 bK bP bO bN bM bL dst ([.bool fk,.bool fc,.bool fz,.bool fs,.bool fo,.int .u64 (WO.wrap WO.u64 (PA+WO.wrap WO.u64 (dz 24 w dst src base aa ai cc))),.int .i8 24,.int .i8 w,.int .i8 dst,.int .i8 src,.int .i8 base,.int .i64 aa,.int .i64 ai,.int .i8 cc,.int .u64 ld]) d0 d1),.ret _ _ _ c3]++Vc 8 (tC (eF hd))++ [.ret _ _ _ c4,tC (eF hd),tC hd,tC (nt (cu 0 true (eq_of_beq hz))),tC (v:=true) (Ma hd),tC (v:=true) (Ma hd),.ret _ _ _ c5,tF]) (by kernel_rfl)).to (by first|((simp only [wk,aB,and_true];repeat' (first|rfl|exact VS|apply VY));done)|(simp [wk,aB,u64,];done))
theorem wh (q0 q1 q2 q3 q4 q5 q6 q7 q8 q9 bK bP bO bN bM bL PA:Int) (fk fc fz fs fo:Bool) (w dst src base aa ai cc ld:Int) (d0:0≤dst) (d1:dst≤15) (s0:0≤src) (s1:src≤15) (b0:0≤base) (b1:base≤15) (hm:aA 24 w dst src base aa ai cc=true) (hd:(aQ (rg [q0,q1,q2,q3,q4,q5,q6,q7,q8,q9,bK,bP,bO,bN,bM,bL] dst) w==0)=true):aZ Tryz.prog 55 ([.agg [.int .u64 q0,.int .u64 q1,.int .u64 q2,.int .u64 q3,.int .u64 q4,.int .u64 q5,.int .u64 q6,.int .u64 q7,.int .u64 q8,.int .u64 q9,.int .u64 bK,.int .u64 bP,.int .u64 bO,.int .u64 bN,.int .u64 bM,.int .u64 bL,.bool fk,.bool fc,.bool fz,.bool fs,.bool fo,.int .u64 (PA)],xD 24 w dst src base aa ai cc,.int .u64 ld]) (.aM [.agg [.int .u64 (0),.int .u64 (0),.int .u64 (0),.int .u64 (0),.int .u64 (0),.int .u64 (0),.int .u64 (0),.int .u64 (0),.int .u64 (0),.int .u64 (0),.int .u64 (0),.int .u64 (0),.int .u64 (0),.int .u64 (0),.int .u64 (0),.int .u64 (0),.bool false,.bool false,.bool false,.bool false,.bool false,.int .u64 (0)],.int .i64 20]):=by
 have c0:= @aE 24 w dst src base aa ai cc (by decide)
 rw [show (aA 24 w dst src base aa ai cc)=true from hm] at c0
 have c1:= @bX 24 w dst src base aa ai cc (by decide)
 have c2:= @bS q0 w
 have c3:= @bS (rg [q0,q1,q2,q3,q4,q5,q6,q7,q8,q9,bK,bP,bO,bN,bM,bL] dst) w
 exact (jG (d:= .aM [.agg [.int .u64 0,.int .u64 0,.int .u64 0,.int .u64 0,.int .u64 0,.int .u64 0,.int .u64 0,.int .u64 0,.int .u64 0,.int .u64 0,.int .u64 0,.int .u64 0,.int .u64 0,.int .u64 0,.int .u64 0,.int .u64 0,.bool false,.bool false,.bool false,.bool false,.bool false,.int .u64 0],.int .i64 20]) ([.ret _ _ _ c0,tF,.ret _ _ _ c1,tT,.get ([D.fn (Ve 74) [.ptr false 4 0] [],D.fn (Ve 75) [.ptr false 4 0] [],D.av,D.av,D.av,D.av,D.av,D.av,D.av,D.av,D.av,D.av,D.av,D.av,D.av,D.av,D.av,D.av,D.av,D.av,D.av,D.av,D.av,D.av,D.fn (Ve 76) [.ptr false 4 0] [],D.fn (Ve 77) [.ptr false 4 0] [],D.fn (Ve 78) [.ptr false 4 0] [],D.fn (Ve 79) [.ptr false 4 0] [],D.fn (Ve 80) [.ptr false 4 0] [],D.fn (Ve 81) [.ptr false 4 0] [],D.fn (Ve 82) [.ptr false 4 0] [],D.fn (Ve 83) [.ptr false 4 0] []]) 24 (D.fn (Ve 76) [.ptr false 4 0] []) rfl,tF,.inl,.ret _ _ _ c2,.cH (decide (0≤dst∧dst<(↑(16:Nat):Int))) true (by (simp only [cf] at*;omega)),.get _ _ _ (@jM q0 q1 q2 q3 q4 q5 q6 q7 q8 q9 bK bP bO bN bM bL dst ([.bool fk,.bool fc,.bool fz,.bool fs,.bool fo,.int .u64 (WO.wrap WO.u64 (PA+WO.wrap WO.u64 (dz 24 w dst src base aa ai cc))),.int .i8 24,.int .i8 w,.int .i8 dst,.int .i8 src,.int .i8 base,.int .i64 aa,.int .i64 ai,.int .i8 cc,.int .u64 ld]) d0 d1),.ret _ _ _ c3]++Vc 9 (tC (eF (cu 0 true (eq_of_beq hd))))++ [tC (cu 0 true (eq_of_beq hd)),tT,tT]) (by kernel_rfl)).to (by first|((simp only [wk,aB,and_true];repeat' (first|rfl|exact VS|apply VY));done)|(simp [wk,aB,u64,];done))
theorem wg (q0 q1 q2 q3 q4 q5 q6 q7 q8 q9 bK bP bO bN bM bL PA:Int) (fk fc fz fs fo:Bool) (w dst src base aa ai cc ld:Int) (d0:0≤dst) (d1:dst≤15) (s0:0≤src) (s1:src≤15) (b0:0≤base) (b1:base≤15) (hm:aA 24 w dst src base aa ai cc=true) (hd:(aQ (rg [q0,q1,q2,q3,q4,q5,q6,q7,q8,q9,bK,bP,bO,bN,bM,bL] dst) w==0)=false) (hz:(aQ q2 w==0)=false):aZ Tryz.prog 55 ([.agg [.int .u64 q0,.int .u64 q1,.int .u64 q2,.int .u64 q3,.int .u64 q4,.int .u64 q5,.int .u64 q6,.int .u64 q7,.int .u64 q8,.int .u64 q9,.int .u64 bK,.int .u64 bP,.int .u64 bO,.int .u64 bN,.int .u64 bM,.int .u64 bL,.bool fk,.bool fc,.bool fz,.bool fs,.bool fo,.int .u64 (PA)],xD 24 w dst src base aa ai cc,.int .u64 ld]) (.aM [.agg [.int .u64 (0),.int .u64 (0),.int .u64 (0),.int .u64 (0),.int .u64 (0),.int .u64 (0),.int .u64 (0),.int .u64 (0),.int .u64 (0),.int .u64 (0),.int .u64 (0),.int .u64 (0),.int .u64 (0),.int .u64 (0),.int .u64 (0),.int .u64 (0),.bool false,.bool false,.bool false,.bool false,.bool false,.int .u64 (0)],.int .i64 20]):=by
 have c0:= @aE 24 w dst src base aa ai cc (by decide)
 rw [show (aA 24 w dst src base aa ai cc)=true from hm] at c0
 have c1:= @bX 24 w dst src base aa ai cc (by decide)
 have c2:= @bS q0 w
 have c3:= @bS (rg [q0,q1,q2,q3,q4,q5,q6,q7,q8,q9,bK,bP,bO,bN,bM,bL] dst) w
 have c4:= @bS q2 w
 exact (jG (d:= .aM [.agg [.int .u64 0,.int .u64 0,.int .u64 0,.int .u64 0,.int .u64 0,.int .u64 0,.int .u64 0,.int .u64 0,.int .u64 0,.int .u64 0,.int .u64 0,.int .u64 0,.int .u64 0,.int .u64 0,.int .u64 0,.int .u64 0,.bool false,.bool false,.bool false,.bool false,.bool false,.int .u64 0],.int .i64 20]) ([.ret _ _ _ c0,tF,.ret _ _ _ c1,tT,.get ([D.fn (Ve 74) [.ptr false 4 0] [],D.fn (Ve 75) [.ptr false 4 0] [],D.av,D.av,D.av,D.av,D.av,D.av,D.av,D.av,D.av,D.av,D.av,D.av,D.av,D.av,D.av,D.av,D.av,D.av,D.av,D.av,D.av,D.av,D.fn (Ve 76) [.ptr false 4 0] [],D.fn (Ve 77) [.ptr false 4 0] [],D.fn (Ve 78) [.ptr false 4 0] [],D.fn (Ve 79) [.ptr false 4 0] [],D.fn (Ve 80) [.ptr false 4 0] [],D.fn (Ve 81) [.ptr false 4 0] [],D.fn (Ve 82) [.ptr false 4 0] [],D.fn (Ve 83) [.ptr false 4 0] []]) 24 (D.fn (Ve 76) [.ptr false 4 0] []) rfl,tF,.inl,.ret _ _ _ c2,.cH (decide (0≤dst∧dst<(↑(16:Nat):Int))) true (by (simp only [cf] at*;omega)),.get _ _ _ (@jM q0 q1 q2 q3 q4 q5 q6 q7 q8 q9 bK bP bO bN bM bL dst ([.bool fk,.bool fc,.bool fz,.bool fs,.bool fo,.int .u64 (WO.wrap WO.u64 (PA+WO.wrap WO.u64 (dz 24 w dst src base aa ai cc))),.int .i8 24,.int .i8 w,.int .i8 dst,.int .i8 src,.int .i8 base,.int .i64 aa,.int .i64 ai,.int .i8 cc,.int .u64 ld]) d0 d1),.ret _ _ _ c3]++Vc 8 (tC (eF hd))++ [.ret _ _ _ c4,tC (eF hd),tC hd,tC (nt hz),tT]) (by kernel_rfl)).to (by first|((simp only [wk,aB,and_true];repeat' (first|rfl|exact VS|apply VY));done)|(simp [wk,aB,u64,];done))
theorem yp (q0 q1 q2 q3 q4 q5 q6 q7 q8 q9 bK bP bO bN bM bL PA:Int) (fc fz fs fo:Bool) (w dst src base aa ai cc ld:Int) (d0:0≤dst) (d1:dst≤15) (s0:0≤src) (s1:src≤15) (b0:0≤base) (b1:base≤15) (hm:aA 25 w dst src base aa ai cc=true) (Qg:bb cc=true):aZ Tryz.prog 55 ([.agg [.int .u64 q0,.int .u64 q1,.int .u64 q2,.int .u64 q3,.int .u64 q4,.int .u64 q5,.int .u64 q6,.int .u64 q7,.int .u64 q8,.int .u64 q9,.int .u64 bK,.int .u64 bP,.int .u64 bO,.int .u64 bN,.int .u64 bM,.int .u64 bL,.bool true,.bool fc,.bool fz,.bool fs,.bool fo,.int .u64 (PA)],xD 25 w dst src base aa ai cc,.int .u64 ld]) (.aM [.agg [.int .u64 (st 0 dst (aQ (if dw cc fc fz fs fo then rg [q0,q1,q2,q3,q4,q5,q6,q7,q8,q9,bK,bP,bO,bN,bM,bL] src else rg [q0,q1,q2,q3,q4,q5,q6,q7,q8,q9,bK,bP,bO,bN,bM,bL] dst) w) q0),.int .u64 (st 1 dst (aQ (if dw cc fc fz fs fo then rg [q0,q1,q2,q3,q4,q5,q6,q7,q8,q9,bK,bP,bO,bN,bM,bL] src else rg [q0,q1,q2,q3,q4,q5,q6,q7,q8,q9,bK,bP,bO,bN,bM,bL] dst) w) q1),.int .u64 (st 2 dst (aQ (if dw cc fc fz fs fo then rg [q0,q1,q2,q3,q4,q5,q6,q7,q8,q9,bK,bP,bO,bN,bM,bL] src else rg [q0,q1,q2,q3,q4,q5,q6,q7,q8,q9,bK,bP,bO,bN,bM,bL] dst) w) q2),.int .u64 (st 3 dst (aQ (if dw cc fc fz fs fo then rg [q0,q1,q2,q3,q4,q5,q6,q7,q8,q9,bK,bP,bO,bN,bM,bL] src else rg [q0,q1,q2,q3,q4,q5,q6,q7,q8,q9,bK,bP,bO,bN,bM,bL] dst) w) q3),.int .u64 (st 4 dst (aQ (if dw cc fc fz fs fo then rg [q0,q1,q2,q3,q4,q5,q6,q7,q8,q9,bK,bP,bO,bN,bM,bL] src else rg [q0,q1,q2,q3,q4,q5,q6,q7,q8,q9,bK,bP,bO,bN,bM,bL] dst) w) q4),.int .u64 (st 5 dst (aQ (if dw cc fc fz fs fo then rg [q0,q1,q2,q3,q4,q5,q6,q7,q8,q9,bK,bP,bO,bN,bM,bL] src else rg [q0,q1,q2,q3,q4,q5,q6,q7,q8,q9,bK,bP,bO,bN,bM,bL] dst) w) q5),.int .u64 (st 6 dst (aQ (if dw cc fc fz fs fo then rg [q0,q1,q2,q3,q4,q5,q6,q7,q8,q9,bK,bP,bO,bN,bM,bL] src else rg [q0,q1,q2,q3,q4,q5,q6,q7,q8,q9,bK,bP,bO,bN,bM,bL] dst) w) q6),.int .u64 (st 7 dst (aQ (if dw cc fc fz fs fo then rg [q0,q1,q2,q3,q4,q5,q6,q7,q8,q9,bK,bP,bO,bN,bM,bL] src else rg [q0,q1,q2,q3,q4,q5,q6,q7,q8,q9,bK,bP,bO,bN,bM,bL] dst) w) q7),.int .u64 (st 8 dst (aQ (if dw cc fc fz fs fo then rg [q0,q1,q2,q3,q4,q5,q6,q7,q8,q9,bK,bP,bO,bN,bM,bL] src else rg [q0,q1,q2,q3,q4,q5,q6,q7,q8,q9,bK,bP,bO,bN,bM,bL] dst) w) q8),.int .u64 (st 9 dst (aQ (if dw cc fc fz fs fo then rg [q0,q1,q2,q3,q4,q5,q6,q7,q8,q9,bK,bP,bO,bN,bM,bL] src else rg [q0,q1,q2,q3,q4,q5,q6,q7,q8,q9,bK,bP,bO,bN,bM,bL] dst) w) q9),.int .u64 (st 10 dst (aQ (if dw cc fc fz fs fo then rg [q0,q1,q2,q3,q4,q5,q6,q7,q8,q9,bK,bP,bO,bN,bM,bL] src else rg [q0,q1,q2,q3,q4,q5,q6,q7,q8,q9,bK,bP,bO,bN,bM,bL] dst) w) bK),.int .u64 (st 11 dst (aQ (if dw cc fc fz fs fo then rg [q0,q1,q2,q3,q4,q5,q6,q7,q8,q9,bK,bP,bO,bN,bM,bL] src else rg [q0,q1,q2,q3,q4,q5,q6,q7,q8,q9,bK,bP,bO,bN,bM,bL] dst) w) bP),.int .u64 (st 12 dst (aQ (if dw cc fc fz fs fo then rg [q0,q1,q2,q3,q4,q5,q6,q7,q8,q9,bK,bP,bO,bN,bM,bL] src else rg [q0,q1,q2,q3,q4,q5,q6,q7,q8,q9,bK,bP,bO,bN,bM,bL] dst) w) bO),.int .u64 (st 13 dst (aQ (if dw cc fc fz fs fo then rg [q0,q1,q2,q3,q4,q5,q6,q7,q8,q9,bK,bP,bO,bN,bM,bL] src else rg [q0,q1,q2,q3,q4,q5,q6,q7,q8,q9,bK,bP,bO,bN,bM,bL] dst) w) bN),.int .u64 (st 14 dst (aQ (if dw cc fc fz fs fo then rg [q0,q1,q2,q3,q4,q5,q6,q7,q8,q9,bK,bP,bO,bN,bM,bL] src else rg [q0,q1,q2,q3,q4,q5,q6,q7,q8,q9,bK,bP,bO,bN,bM,bL] dst) w) bM),.int .u64 (st 15 dst (aQ (if dw cc fc fz fs fo then rg [q0,q1,q2,q3,q4,q5,q6,q7,q8,q9,bK,bP,bO,bN,bM,bL] src else rg [q0,q1,q2,q3,q4,q5,q6,q7,q8,q9,bK,bP,bO,bN,bM,bL] dst) w) bL),.bool true,.bool fc,.bool fz,.bool fs,.bool fo,.int .u64 (u64 (PA+u64 (dz 25 w dst src base aa ai cc)))],.int .i64 0]):=by
 have c0:= @aE 25 w dst src base aa ai cc (by decide)
 rw [show (aA 25 w dst src base aa ai cc)=true from hm] at c0
 have c1:= @bX 25 w dst src base aa ai cc (by decide)
 have c2:= @nY cc fc fz fs fo Qg
 let E1:EL:= [.ret _ _ _ c0,tF,.ret _ _ _ c1,tT,.get ([D.fn (Ve 74) [.ptr false 4 0] [],D.fn (Ve 75) [.ptr false 4 0] [],D.av,D.av,D.av,D.av,D.av,D.av,D.av,D.av,D.av,D.av,D.av,D.av,D.av,D.av,D.av,D.av,D.av,D.av,D.av,D.av,D.av,D.av,D.fn (Ve 76) [.ptr false 4 0] [],D.fn (Ve 77) [.ptr false 4 0] [],D.fn (Ve 78) [.ptr false 4 0] [],D.fn (Ve 79) [.ptr false 4 0] [],D.fn (Ve 80) [.ptr false 4 0] [],D.fn (Ve 81) [.ptr false 4 0] [],D.fn (Ve 82) [.ptr false 4 0] [],D.fn (Ve 83) [.ptr false 4 0] []]) 25 (D.fn (Ve 77) [.ptr false 4 0] []) rfl,tF,.inl,.inl,.ret _ _ _ c2,tF]
 rcases de (dw cc fc fz fs fo) with h3|h3
 ·have c4:= @bS (rg [q0,q1,q2,q3,q4,q5,q6,q7,q8,q9,bK,bP,bO,bN,bM,bL] src) w
  exact (jG (d:= .aM [.agg [.int .u64 (st 0 dst (aQ (rg [q0,q1,q2,q3,q4,q5,q6,q7,q8,q9,bK,bP,bO,bN,bM,bL] src) w) q0),.int .u64 (st 1 dst (aQ (rg [q0,q1,q2,q3,q4,q5,q6,q7,q8,q9,bK,bP,bO,bN,bM,bL] src) w) q1),.int .u64 (st 2 dst (aQ (rg [q0,q1,q2,q3,q4,q5,q6,q7,q8,q9,bK,bP,bO,bN,bM,bL] src) w) q2),.int .u64 (st 3 dst (aQ (rg [q0,q1,q2,q3,q4,q5,q6,q7,q8,q9,bK,bP,bO,bN,bM,bL] src) w) q3),.int .u64 (st 4 dst (aQ (rg [q0,q1,q2,q3,q4,q5,q6,q7,q8,q9,bK,bP,bO,bN,bM,bL] src) w) q4),.int .u64 (st 5 dst (aQ (rg [q0,q1,q2,q3,q4,q5,q6,q7,q8,q9,bK,bP,bO,bN,bM,bL] src) w) q5),.int .u64 (st 6 dst (aQ (rg [q0,q1,q2,q3,q4,q5,q6,q7,q8,q9,bK,bP,bO,bN,bM,bL] src) w) q6),.int .u64 (st 7 dst (aQ (rg [q0,q1,q2,q3,q4,q5,q6,q7,q8,q9,bK,bP,bO,bN,bM,bL] src) w) q7),.int .u64 (st 8 dst (aQ (rg [q0,q1,q2,q3,q4,q5,q6,q7,q8,q9,bK,bP,bO,bN,bM,bL] src) w) q8),.int .u64 (st 9 dst (aQ (rg [q0,q1,q2,q3,q4,q5,q6,q7,q8,q9,bK,bP,bO,bN,bM,bL] src) w) q9),.int .u64 (st 10 dst (aQ (rg [q0,q1,q2,q3,q4,q5,q6,q7,q8,q9,bK,bP,bO,bN,bM,bL] src) w) bK),.int .u64 (st 11 dst (aQ (rg [q0,q1,q2,q3,q4,q5,q6,q7,q8,q9,bK,bP,bO,bN,bM,bL] src) w) bP),.int .u64 (st 12 dst (aQ (rg [q0,q1,q2,q3,q4,q5,q6,q7,q8,q9,bK,bP,bO,bN,bM,bL] src) w) bO),.int .u64 (st 13 dst (aQ (rg [q0,q1,q2,q3,q4,q5,q6,q7,q8,q9,bK,bP,bO,bN,bM,bL] src) w) bN),.int .u64 (st 14 dst (aQ (rg [q0,q1,q2,q3,q4,q5,q6,q7,q8,q9,bK,bP,bO,bN,bM,bL] src) w) bM),.int .u64 (st 15 dst (aQ (rg [q0,q1,q2,q3,q4,q5,q6,q7,q8,q9,bK,bP,bO,bN,bM,bL] src) w) bL),.bool true,.bool fc,.bool fz,.bool fs,.bool fo,.int .u64 (WO.wrap WO.u64 (PA+WO.wrap WO.u64 (dz 25 w dst src base aa ai cc)))],.int .i64 0]) (E1++ [tC h3,.inl,.cH (decide (0≤src∧src<(↑(16:Nat):Int))) true (by (simp only [cf] at*;omega)),.get _ _ _ (@jM q0 q1 q2 q3 q4 q5 q6 q7 q8 q9 bK bP bO bN bM bL src ([.bool true,.bool fc,.bool fz,.bool fs,.bool fo,.int .u64 (WO.wrap WO.u64 (PA+WO.wrap WO.u64 (dz 25 w dst src base aa ai cc))),.int .i8 25,.int .i8 w,.int .i8 dst,.int .i8 src,.int .i8 base,.int .i64 aa,.int .i64 ai,.int .i8 cc,.int .u64 ld]) s0 s1),.inl,.ret _ _ _ c4,.cH (decide (0≤dst∧dst<(↑(16:Nat):Int))) true (by (simp only [cf] at*;omega)),.fK _ _ _ _ (@mo q0 q1 q2 q3 q4 q5 q6 q7 q8 q9 bK bP bO bN bM bL dst (aQ (rg [q0,q1,q2,q3,q4,q5,q6,q7,q8,q9,bK,bP,bO,bN,bM,bL] src) w) ([.bool true,.bool fc,.bool fz,.bool fs,.bool fo,.int .u64 (WO.wrap WO.u64 (PA+WO.wrap WO.u64 (dz 25 w dst src base aa ai cc))),.int .i8 25,.int .i8 w,.int .i8 dst,.int .i8 src,.int .i8 base,.int .i64 aa,.int .i64 ai,.int .i8 cc,.int .u64 ld]) d0 d1),tF]) (by kernel_rfl)).to (by clear E1;first|((simp only [wk,aB,and_true];repeat' (first|rfl|exact VS|apply VY));done)|(simp [wk,aB,u64,h3];done))
 have c5:= @bS (rg [q0,q1,q2,q3,q4,q5,q6,q7,q8,q9,bK,bP,bO,bN,bM,bL] dst) w
 exact (jG (d:= .aM [.agg [.int .u64 (st 0 dst (aQ (rg [q0,q1,q2,q3,q4,q5,q6,q7,q8,q9,bK,bP,bO,bN,bM,bL] dst) w) q0),.int .u64 (st 1 dst (aQ (rg [q0,q1,q2,q3,q4,q5,q6,q7,q8,q9,bK,bP,bO,bN,bM,bL] dst) w) q1),.int .u64 (st 2 dst (aQ (rg [q0,q1,q2,q3,q4,q5,q6,q7,q8,q9,bK,bP,bO,bN,bM,bL] dst) w) q2),.int .u64 (st 3 dst (aQ (rg [q0,q1,q2,q3,q4,q5,q6,q7,q8,q9,bK,bP,bO,bN,bM,bL] dst) w) q3),.int .u64 (st 4 dst (aQ (rg [q0,q1,q2,q3,q4,q5,q6,q7,q8,q9,bK,bP,bO,bN,bM,bL] dst) w) q4),.int .u64 (st 5 dst (aQ (rg [q0,q1,q2,q3,q4,q5,q6,q7,q8,q9,bK,bP,bO,bN,bM,bL] dst) w) q5),.int .u64 (st 6 dst (aQ (rg [q0,q1,q2,q3,q4,q5,q6,q7,q8,q9,bK,bP,bO,bN,bM,bL] dst) w) q6),.int .u64 (st 7 dst (aQ (rg [q0,q1,q2,q3,q4,q5,q6,q7,q8,q9,bK,bP,bO,bN,bM,bL] dst) w) q7),.int .u64 (st 8 dst (aQ (rg [q0,q1,q2,q3,q4,q5,q6,q7,q8,q9,bK,bP,bO,bN,bM,bL] dst) w) q8),.int .u64 (st 9 dst (aQ (rg [q0,q1,q2,q3,q4,q5,q6,q7,q8,q9,bK,bP,bO,bN,bM,bL] dst) w) q9),.int .u64 (st 10 dst (aQ (rg [q0,q1,q2,q3,q4,q5,q6,q7,q8,q9,bK,bP,bO,bN,bM,bL] dst) w) bK),.int .u64 (st 11 dst (aQ (rg [q0,q1,q2,q3,q4,q5,q6,q7,q8,q9,bK,bP,bO,bN,bM,bL] dst) w) bP),.int .u64 (st 12 dst (aQ (rg [q0,q1,q2,q3,q4,q5,q6,q7,q8,q9,bK,bP,bO,bN,bM,bL] dst) w) bO),.int .u64 (st 13 dst (aQ (rg [q0,q1,q2,q3,q4,q5,q6,q7,q8,q9,bK,bP,bO,bN,bM,bL] dst) w) bN),.int .u64 (st 14 dst (aQ (rg [q0,q1,q2,q3,q4,q5,q6,q7,q8,q9,bK,bP,bO,bN,bM,bL] dst) w) bM),.int .u64 (st 15 dst (aQ (rg [q0,q1,q2,q3,q4,q5,q6,q7,q8,q9,bK,bP,bO,bN,bM,bL] dst) w) bL),.bool true,.bool fc,.bool fz,.bool fs,.bool fo,.int .u64 (WO.wrap WO.u64 (PA+WO.wrap WO.u64 (dz 25 w dst src base aa ai cc)))],.int .i64 0]) (E1++ [tC h3,.cH (decide (0≤dst∧dst<(↑(16:Nat):Int))) true (by (simp only [cf] at*;omega)),.get _ _ _ (@jM q0 q1 q2 q3 q4 q5 q6 q7 q8 q9 bK bP bO bN bM bL dst ([.bool true,.bool fc,.bool fz,.bool fs,.bool fo,.int .u64 (WO.wrap WO.u64 (PA+WO.wrap WO.u64 (dz 25 w dst src base aa ai cc))),.int .i8 25,.int .i8 w,.int .i8 dst,.int .i8 src,.int .i8 base,.int .i64 aa,.int .i64 ai,.int .i8 cc,.int .u64 ld]) d0 d1),.inl,.ret _ _ _ c5,.cH (decide (0≤dst∧dst<(↑(16:Nat):Int))) true (by (simp only [cf] at*;omega)),.fK _ _ _ _ (@mo q0 q1 q2 q3 q4 q5 q6 q7 q8 q9 bK bP bO bN bM bL dst (aQ (rg [q0,q1,q2,q3,q4,q5,q6,q7,q8,q9,bK,bP,bO,bN,bM,bL] dst) w) ([.bool true,.bool fc,.bool fz,.bool fs,.bool fo,.int .u64 (WO.wrap WO.u64 (PA+WO.wrap WO.u64 (dz 25 w dst src base aa ai cc))),.int .i8 25,.int .i8 w,.int .i8 dst,.int .i8 src,.int .i8 base,.int .i64 aa,.int .i64 ai,.int .i8 cc,.int .u64 ld]) d0 d1),tF]) (by kernel_rfl)).to (by clear E1;first|((simp only [wk,aB,and_true];repeat' (first|rfl|exact VS|apply VY));done)|(simp [wk,aB,u64,h3];done))
theorem we (q0 q1 q2 q3 q4 q5 q6 q7 q8 q9 bK bP bO bN bM bL PA:Int) (fc fz fs fo:Bool) (w dst src base aa ai cc ld:Int) (d0:0≤dst) (d1:dst≤15) (s0:0≤src) (s1:src≤15) (b0:0≤base) (b1:base≤15) (hm:aA 25 w dst src base aa ai cc=true) (Qg:bb cc=true):aZ Tryz.prog 55 ([.agg [.int .u64 q0,.int .u64 q1,.int .u64 q2,.int .u64 q3,.int .u64 q4,.int .u64 q5,.int .u64 q6,.int .u64 q7,.int .u64 q8,.int .u64 q9,.int .u64 bK,.int .u64 bP,.int .u64 bO,.int .u64 bN,.int .u64 bM,.int .u64 bL,.bool false,.bool fc,.bool fz,.bool fs,.bool fo,.int .u64 (PA)],xD 25 w dst src base aa ai cc,.int .u64 ld]) (.aM [.agg [.int .u64 (0),.int .u64 (0),.int .u64 (0),.int .u64 (0),.int .u64 (0),.int .u64 (0),.int .u64 (0),.int .u64 (0),.int .u64 (0),.int .u64 (0),.int .u64 (0),.int .u64 (0),.int .u64 (0),.int .u64 (0),.int .u64 (0),.int .u64 (0),.bool false,.bool false,.bool false,.bool false,.bool false,.int .u64 (0)],.int .i64 20]):=by
 have c0:= @aE 25 w dst src base aa ai cc (by decide)
 rw [show (aA 25 w dst src base aa ai cc)=true from hm] at c0
 have c1:= @bX 25 w dst src base aa ai cc (by decide)
 have c2:= @nZ cc fc fz fs fo Qg
 exact (jG (d:= .aM [.agg [.int .u64 0,.int .u64 0,.int .u64 0,.int .u64 0,.int .u64 0,.int .u64 0,.int .u64 0,.int .u64 0,.int .u64 0,.int .u64 0,.int .u64 0,.int .u64 0,.int .u64 0,.int .u64 0,.int .u64 0,.int .u64 0,.bool false,.bool false,.bool false,.bool false,.bool false,.int .u64 0],.int .i64 20]) [.ret _ _ _ c0,tF,.ret _ _ _ c1,tT,.get ([D.fn (Ve 74) [.ptr false 4 0] [],D.fn (Ve 75) [.ptr false 4 0] [],D.av,D.av,D.av,D.av,D.av,D.av,D.av,D.av,D.av,D.av,D.av,D.av,D.av,D.av,D.av,D.av,D.av,D.av,D.av,D.av,D.av,D.av,D.fn (Ve 76) [.ptr false 4 0] [],D.fn (Ve 77) [.ptr false 4 0] [],D.fn (Ve 78) [.ptr false 4 0] [],D.fn (Ve 79) [.ptr false 4 0] [],D.fn (Ve 80) [.ptr false 4 0] [],D.fn (Ve 81) [.ptr false 4 0] [],D.fn (Ve 82) [.ptr false 4 0] [],D.fn (Ve 83) [.ptr false 4 0] []]) 25 (D.fn (Ve 77) [.ptr false 4 0] []) rfl,tF,.inl,.inl,.ret _ _ _ c2,tT,tT] (by kernel_rfl)).to (by first|((simp only [wk,aB,and_true];repeat' (first|rfl|exact VS|apply VY));done)|(simp [wk,aB,u64,];done))
theorem yk (q0 q1 q2 q3 q4 q5 q6 q7 q8 q9 bK bP bO bN bM bL PA:Int) (fc fz fs fo:Bool) (w dst src base aa ai cc ld:Int) (d0:0≤dst) (d1:dst≤15) (s0:0≤src) (s1:src≤15) (b0:0≤base) (b1:base≤15) (hm:aA 29 w dst src base aa ai cc=true) (Qg:bb cc=true):aZ Tryz.prog 55 ([.agg [.int .u64 q0,.int .u64 q1,.int .u64 q2,.int .u64 q3,.int .u64 q4,.int .u64 q5,.int .u64 q6,.int .u64 q7,.int .u64 q8,.int .u64 q9,.int .u64 bK,.int .u64 bP,.int .u64 bO,.int .u64 bN,.int .u64 bM,.int .u64 bL,.bool true,.bool fc,.bool fz,.bool fs,.bool fo,.int .u64 (PA)],xD 29 w dst src base aa ai cc,.int .u64 ld]) (.aM [.agg [.int .u64 q0,.int .u64 q1,.int .u64 q2,.int .u64 q3,.int .u64 q4,.int .u64 q5,.int .u64 q6,.int .u64 q7,.int .u64 q8,.int .u64 q9,.int .u64 bK,.int .u64 bP,.int .u64 bO,.int .u64 bN,.int .u64 bM,.int .u64 bL,.bool true,.bool fc,.bool fz,.bool fs,.bool fo,.int .u64 (if dw cc fc fz fs fo then u64 (u64 (PA+u64 (dz 29 w dst src base aa ai cc))+u64 ai) else u64 (PA+u64 (dz 29 w dst src base aa ai cc)))],.int .i64 0]):=by
 have c0:= @aE 29 w dst src base aa ai cc (by decide)
 rw [show (aA 29 w dst src base aa ai cc)=true from hm] at c0
 have c1:= @bX 29 w dst src base aa ai cc (by decide)
 have c2:= @nY cc fc fz fs fo Qg
 let E1:EL:= [.ret _ _ _ c0,tF,.ret _ _ _ c1,tT,.get ([D.fn (Ve 74) [.ptr false 4 0] [],D.fn (Ve 75) [.ptr false 4 0] [],D.av,D.av,D.av,D.av,D.av,D.av,D.av,D.av,D.av,D.av,D.av,D.av,D.av,D.av,D.av,D.av,D.av,D.av,D.av,D.av,D.av,D.av,D.fn (Ve 76) [.ptr false 4 0] [],D.fn (Ve 77) [.ptr false 4 0] [],D.fn (Ve 78) [.ptr false 4 0] [],D.fn (Ve 79) [.ptr false 4 0] [],D.fn (Ve 80) [.ptr false 4 0] [],D.fn (Ve 81) [.ptr false 4 0] [],D.fn (Ve 82) [.ptr false 4 0] [],D.fn (Ve 83) [.ptr false 4 0] []]) 29 (D.fn (Ve 81) [.ptr false 4 0] []) rfl,tF,.inl,.inl,.ret _ _ _ c2,tF]
 rcases de (dw cc fc fz fs fo) with h3|h3
 ·exact (jG (d:= .aM [.agg [.int .u64 q0,.int .u64 q1,.int .u64 q2,.int .u64 q3,.int .u64 q4,.int .u64 q5,.int .u64 q6,.int .u64 q7,.int .u64 q8,.int .u64 q9,.int .u64 bK,.int .u64 bP,.int .u64 bO,.int .u64 bN,.int .u64 bM,.int .u64 bL,.bool true,.bool fc,.bool fz,.bool fs,.bool fo,.int .u64 (WO.wrap WO.u64 (WO.wrap WO.u64 (PA+WO.wrap WO.u64 (dz 29 w dst src base aa ai cc))+WO.wrap WO.u64 ai))],.int .i64 0]) (E1++ [tC h3,.inl,tF]) (by kernel_rfl)).to (by clear E1;first|((simp only [wk,aB,and_true];repeat' (first|rfl|exact VS|apply VY));done)|(simp [wk,aB,u64,h3];done))
 exact (jG (d:= .aM [.agg [.int .u64 q0,.int .u64 q1,.int .u64 q2,.int .u64 q3,.int .u64 q4,.int .u64 q5,.int .u64 q6,.int .u64 q7,.int .u64 q8,.int .u64 q9,.int .u64 bK,.int .u64 bP,.int .u64 bO,.int .u64 bN,.int .u64 bM,.int .u64 bL,.bool true,.bool fc,.bool fz,.bool fs,.bool fo,.int .u64 (WO.wrap WO.u64 (PA+WO.wrap WO.u64 (dz 29 w dst src base aa ai cc)))],.int .i64 0]) (E1++ [tC h3,tF]) (by kernel_rfl)).to (by clear E1;first|((simp only [wk,aB,and_true];repeat' (first|rfl|exact VS|apply VY));done)|(simp [wk,aB,u64,h3];done))
theorem wc (q0 q1 q2 q3 q4 q5 q6 q7 q8 q9 bK bP bO bN bM bL PA:Int) (fc fz fs fo:Bool) (w dst src base aa ai cc ld:Int) (d0:0≤dst) (d1:dst≤15) (s0:0≤src) (s1:src≤15) (b0:0≤base) (b1:base≤15) (hm:aA 29 w dst src base aa ai cc=true) (Qg:bb cc=true):aZ Tryz.prog 55 ([.agg [.int .u64 q0,.int .u64 q1,.int .u64 q2,.int .u64 q3,.int .u64 q4,.int .u64 q5,.int .u64 q6,.int .u64 q7,.int .u64 q8,.int .u64 q9,.int .u64 bK,.int .u64 bP,.int .u64 bO,.int .u64 bN,.int .u64 bM,.int .u64 bL,.bool false,.bool fc,.bool fz,.bool fs,.bool fo,.int .u64 (PA)],xD 29 w dst src base aa ai cc,.int .u64 ld]) (.aM [.agg [.int .u64 (0),.int .u64 (0),.int .u64 (0),.int .u64 (0),.int .u64 (0),.int .u64 (0),.int .u64 (0),.int .u64 (0),.int .u64 (0),.int .u64 (0),.int .u64 (0),.int .u64 (0),.int .u64 (0),.int .u64 (0),.int .u64 (0),.int .u64 (0),.bool false,.bool false,.bool false,.bool false,.bool false,.int .u64 (0)],.int .i64 20]):=by
 have c0:= @aE 29 w dst src base aa ai cc (by decide)
 rw [show (aA 29 w dst src base aa ai cc)=true from hm] at c0
 have c1:= @bX 29 w dst src base aa ai cc (by decide)
 have c2:= @nZ cc fc fz fs fo Qg
 exact (jG (d:= .aM [.agg [.int .u64 0,.int .u64 0,.int .u64 0,.int .u64 0,.int .u64 0,.int .u64 0,.int .u64 0,.int .u64 0,.int .u64 0,.int .u64 0,.int .u64 0,.int .u64 0,.int .u64 0,.int .u64 0,.int .u64 0,.int .u64 0,.bool false,.bool false,.bool false,.bool false,.bool false,.int .u64 0],.int .i64 20]) [.ret _ _ _ c0,tF,.ret _ _ _ c1,tT,.get ([D.fn (Ve 74) [.ptr false 4 0] [],D.fn (Ve 75) [.ptr false 4 0] [],D.av,D.av,D.av,D.av,D.av,D.av,D.av,D.av,D.av,D.av,D.av,D.av,D.av,D.av,D.av,D.av,D.av,D.av,D.av,D.av,D.av,D.av,D.fn (Ve 76) [.ptr false 4 0] [],D.fn (Ve 77) [.ptr false 4 0] [],D.fn (Ve 78) [.ptr false 4 0] [],D.fn (Ve 79) [.ptr false 4 0] [],D.fn (Ve 80) [.ptr false 4 0] [],D.fn (Ve 81) [.ptr false 4 0] [],D.fn (Ve 82) [.ptr false 4 0] [],D.fn (Ve 83) [.ptr false 4 0] []]) 29 (D.fn (Ve 81) [.ptr false 4 0] []) rfl,tF,.inl,.inl,.ret _ _ _ c2,tT,tT] (by kernel_rfl)).to (by first|((simp only [wk,aB,and_true];repeat' (first|rfl|exact VS|apply VY));done)|(simp [wk,aB,u64,];done))
theorem yh (q0 q1 q2 q3 q4 q5 q6 q7 q8 q9 bK bP bO bN bM bL PA:Int) (fk fc fz fs fo:Bool) (op w dst src base aa ai cc ld:Int)(ho:op≤127) (hm:aA op w dst src base aa ai cc=false):aZ Tryz.prog 55 ([.agg [.int .u64 q0,.int .u64 q1,.int .u64 q2,.int .u64 q3,.int .u64 q4,.int .u64 q5,.int .u64 q6,.int .u64 q7,.int .u64 q8,.int .u64 q9,.int .u64 bK,.int .u64 bP,.int .u64 bO,.int .u64 bN,.int .u64 bM,.int .u64 bL,.bool fk,.bool fc,.bool fz,.bool fs,.bool fo,.int .u64 (PA)],xD op w dst src base aa ai cc,.int .u64 ld]) (.aM [.agg [.int .u64 (0),.int .u64 (0),.int .u64 (0),.int .u64 (0),.int .u64 (0),.int .u64 (0),.int .u64 (0),.int .u64 (0),.int .u64 (0),.int .u64 (0),.int .u64 (0),.int .u64 (0),.int .u64 (0),.int .u64 (0),.int .u64 (0),.int .u64 (0),.bool false,.bool false,.bool false,.bool false,.bool false,.int .u64 (0)],.int .i64 2]):=by
 have c0:= @aE op w dst src base aa ai cc ho
 rw [show (aA op w dst src base aa ai cc)=false from hm] at c0
 exact (jG (d:= .aM [.agg [.int .u64 0,.int .u64 0,.int .u64 0,.int .u64 0,.int .u64 0,.int .u64 0,.int .u64 0,.int .u64 0,.int .u64 0,.int .u64 0,.int .u64 0,.int .u64 0,.int .u64 0,.int .u64 0,.int .u64 0,.int .u64 0,.bool false,.bool false,.bool false,.bool false,.bool false,.int .u64 0],.int .i64 2]) [.ret _ _ _ c0,tT] (by kernel_rfl)).to (by first|((simp only [wk,aB,and_true];repeat' (first|rfl|exact VS|apply VY));done)|(simp [wk,aB,u64,];done))
def oQ:List D:= [D.fn (Ve 74) [.ptr false 4 0] [],D.fn (Ve 75) [.ptr false 4 0] [],D.av,D.av,D.av,D.av,D.av,D.av,D.av,D.av,D.av,D.av,D.av,D.av,D.av,D.av,D.av,D.av,D.av,D.av,D.av,D.av,D.av,D.av,D.fn (Ve 76) [.ptr false 4 0] [],D.fn (Ve 77) [.ptr false 4 0] [],D.fn (Ve 78) [.ptr false 4 0] [],D.fn (Ve 79) [.ptr false 4 0] [],D.fn (Ve 80) [.ptr false 4 0] [],D.fn (Ve 81) [.ptr false 4 0] [],D.fn (Ve 82) [.ptr false 4 0] [],D.fn (Ve 83) [.ptr false 4 0] []]
def oP:List (Int×D):= [((2:Int),.int .i8 0),((9:Int),.int .i8 0),((3:Int),.int .i8 4),((10:Int),.int .i8 4),((4:Int),.int .i8 5),((11:Int),.int .i8 5),((8:Int),.int .i8 5),((15:Int),.int .i8 5),((5:Int),.int .i8 1),((12:Int),.int .i8 1),((7:Int),.int .i8 1),((14:Int),.int .i8 1),((6:Int),.int .i8 10),((13:Int),.int .i8 10),((16:Int),.int .i8 2),((17:Int),.int .i8 6),((20:Int),.int .i8 6),((18:Int),.int .i8 7),((21:Int),.int .i8 7),((19:Int),.int .i8 12),((22:Int),.int .i8 12),((23:Int),.int .i8 8)]
def l5 (Pf:Int):Prop:= ∀(m:ab) (w dst src base aa ai cc ld:Int) (d0:0≤dst) (d1:dst≤15) (s0:0≤src) (s1:src≤15) (b0:0≤base) (b1:base≤15) (hm:aA Pf w dst src base aa ai cc=true) (hw:au w=true),aZ Tryz.prog 55 ([m.d,xD Pf w dst src base aa ai cc,.int .u64 ld]) (.aM [(ig (m.at (u64 (m.pc+u64 (dz Pf w dst src base aa ai cc)))) ⟨Pf,w,dst,src,base,aa,ai,cc⟩ ld).1.d,.int .i64 0])
theorem BU:l5 9:=by
 intro m w dst src base aa ai cc ld d0 d1 s0 s1 b0 b1 hm hw
 have c0:= @aE 9 w dst src base aa ai cc (by decide)
 rw [hm] at c0
 have c1:= @bX 9 w dst src base aa ai cc (by decide)
 have c2:= @wG w (rg (ab.rl m) dst) (WO.wrap WO.u64 ai) hw
 have c3:= @Aa w (rg (ab.rl m) dst) (WO.wrap WO.u64 ai) hw
 have c4:= @aY 9 w dst src base aa ai cc (by decide)
 exact (jG (d:= .aM [(ig (m.at (u64 (m.pc+u64 (dz 9 w dst src base aa ai cc)))) ⟨9,w,dst,src,base,aa,ai,cc⟩ ld).1.d,.int .i64 0]) ([.ret _ _ _ c0,tF,.ret _ _ _ c1,tT,.get oQ 9 (.av) rfl,tT,.inl,.inl,.bn [(4,.box (ab.cw m (dT m 9 w dst src base aa ai cc) (xT 9 w dst src base aa ai cc ld)))],.e9 oP 9 (some (.int .i8 0)) rfl,.cH _ true (dC d0 d1),.get _ _ _ (@bQ m dst ((fT m (dT m 9 w dst src base aa ai cc) (xT 9 w dst src base aa ai cc ld))) d0 d1),.inl]++Vc 8 tF++Vc 9 tT++ [.bn [(4,.box (ab.cw m (dT m 9 w dst src base aa ai cc) (xT 9 w dst src base aa ai cc ld)))],.ret _ _ _ c2,tF,tT,.ret _ _ _ c3,.ret _ _ _ c4,tC (nt (@gy 9 w dst src base aa ai cc hm d0 d1 (rfl:true=true))),.cH _ true (dC d0 d1),.fK _ _ _ _ (@cW m dst (gd 0 w (rg (ab.rl m) dst) (WO.wrap WO.u64 ai)) ([.bool true,.bool (GA w (rg (ab.rl m) dst) (WO.wrap WO.u64 ai)),.bool (aQ (u64 (rg (ab.rl m) dst+WO.wrap WO.u64 ai)) w==0),.bool (gp (u64 (rg (ab.rl m) dst+WO.wrap WO.u64 ai)) w),.bool (Gz w (rg (ab.rl m) dst) (WO.wrap WO.u64 ai)),.int .u64 (dT m 9 w dst src base aa ai cc),.int .i8 9,.int .i8 w,.int .i8 dst,.int .i8 src,.int .i8 base,.int .i64 aa,.int .i64 ai,.int .i8 cc,.int .u64 ld]) d0 d1),tF]) (by kernel_rfl))
theorem yF:l5 10:=by
 intro m w dst src base aa ai cc ld d0 d1 s0 s1 b0 b1 hm hw
 have c0:= @aE 10 w dst src base aa ai cc (by decide)
 rw [hm] at c0
 have c1:= @bX 10 w dst src base aa ai cc (by decide)
 have c2:= @wF w (rg (ab.rl m) dst) (WO.wrap WO.u64 ai) hw
 have c3:= @iY w (gd 4 w (rg (ab.rl m) dst) (WO.wrap WO.u64 ai)) hw
 have c4:= @aY 10 w dst src base aa ai cc (by decide)
 exact (jG (d:= .aM [(ig (m.at (u64 (m.pc+u64 (dz 10 w dst src base aa ai cc)))) ⟨10,w,dst,src,base,aa,ai,cc⟩ ld).1.d,.int .i64 0]) ([.ret _ _ _ c0,tF,.ret _ _ _ c1,tT,.get oQ 10 (.av) rfl,tT,.inl,.inl,.bn [(4,.box (ab.cw m (dT m 10 w dst src base aa ai cc) (xT 10 w dst src base aa ai cc ld)))],.e9 oP 10 (some (.int .i8 4)) rfl,.cH _ true (dC d0 d1),.get _ _ _ (@bQ m dst ((fT m (dT m 10 w dst src base aa ai cc) (xT 10 w dst src base aa ai cc ld))) d0 d1),.inl]++Vc 8 tF++Vc 9 tT++ [.bn [(4,.box (ab.cw m (dT m 10 w dst src base aa ai cc) (xT 10 w dst src base aa ai cc ld)))],.ret _ _ _ c2,tF,tF,tF,tF,tT,tT,.ret _ _ _ c3,.ret _ _ _ c4,tC (nt (@gy 10 w dst src base aa ai cc hm d0 d1 (rfl:true=true))),.cH _ true (dC d0 d1),.fK _ _ _ _ (@cW m dst (gd 4 w (rg (ab.rl m) dst) (WO.wrap WO.u64 ai)) ([.bool true,.bool false,.bool (aQ (gd 4 w (rg (ab.rl m) dst) (WO.wrap WO.u64 ai)) w==0),.bool (gp (gd 4 w (rg (ab.rl m) dst) (WO.wrap WO.u64 ai)) w),.bool false,.int .u64 (dT m 10 w dst src base aa ai cc),.int .i8 10,.int .i8 w,.int .i8 dst,.int .i8 src,.int .i8 base,.int .i64 aa,.int .i64 ai,.int .i8 cc,.int .u64 ld]) d0 d1),tF]) (by kernel_rfl))
theorem yE:l5 11:=by
 intro m w dst src base aa ai cc ld d0 d1 s0 s1 b0 b1 hm hw
 have c0:= @aE 11 w dst src base aa ai cc (by decide)
 rw [hm] at c0
 have c1:= @bX 11 w dst src base aa ai cc (by decide)
 have c2:= @mM w (rg (ab.rl m) dst) (WO.wrap WO.u64 ai) hw
 have c3:= @iY w (gd 5 w (rg (ab.rl m) dst) (WO.wrap WO.u64 ai)) hw
 have c4:= @aY 11 w dst src base aa ai cc (by decide)
 exact (jG (d:= .aM [(ig (m.at (u64 (m.pc+u64 (dz 11 w dst src base aa ai cc)))) ⟨11,w,dst,src,base,aa,ai,cc⟩ ld).1.d,.int .i64 0]) ([.ret _ _ _ c0,tF,.ret _ _ _ c1,tT,.get oQ 11 (.av) rfl,tT,.inl,.inl,.bn [(4,.box (ab.cw m (dT m 11 w dst src base aa ai cc) (xT 11 w dst src base aa ai cc ld)))],.e9 oP 11 (some (.int .i8 5)) rfl,.cH _ true (dC d0 d1),.get _ _ _ (@bQ m dst ((fT m (dT m 11 w dst src base aa ai cc) (xT 11 w dst src base aa ai cc ld))) d0 d1),.inl]++Vc 8 tF++Vc 9 tT++ [.bn [(4,.box (ab.cw m (dT m 11 w dst src base aa ai cc) (xT 11 w dst src base aa ai cc ld)))],.ret _ _ _ c2,tF,tF,tF,tF,tF,tT,tT,.ret _ _ _ c3,.ret _ _ _ c4,tC (nt (@gy 11 w dst src base aa ai cc hm d0 d1 (rfl:true=true))),.cH _ true (dC d0 d1),.fK _ _ _ _ (@cW m dst (gd 5 w (rg (ab.rl m) dst) (WO.wrap WO.u64 ai)) ([.bool true,.bool false,.bool (aQ (gd 5 w (rg (ab.rl m) dst) (WO.wrap WO.u64 ai)) w==0),.bool (gp (gd 5 w (rg (ab.rl m) dst) (WO.wrap WO.u64 ai)) w),.bool false,.int .u64 (dT m 11 w dst src base aa ai cc),.int .i8 11,.int .i8 w,.int .i8 dst,.int .i8 src,.int .i8 base,.int .i64 aa,.int .i64 ai,.int .i8 cc,.int .u64 ld]) d0 d1),tF]) (by kernel_rfl))
theorem yC:l5 13:=by
 intro m w dst src base aa ai cc ld d0 d1 s0 s1 b0 b1 hm hw
 have c0:= @aE 13 w dst src base aa ai cc (by decide)
 rw [hm] at c0
 have c1:= @bX 13 w dst src base aa ai cc (by decide)
 have c2:= @rO w (rg (ab.rl m) dst) (WO.wrap WO.u64 ai) hw
 have c3:= @iY w (gd 10 w (rg (ab.rl m) dst) (WO.wrap WO.u64 ai)) hw
 have c4:= @aY 13 w dst src base aa ai cc (by decide)
 exact (jG (d:= .aM [(ig (m.at (u64 (m.pc+u64 (dz 13 w dst src base aa ai cc)))) ⟨13,w,dst,src,base,aa,ai,cc⟩ ld).1.d,.int .i64 0]) ([.ret _ _ _ c0,tF,.ret _ _ _ c1,tT,.get oQ 13 (.av) rfl,tT,.inl,.inl,.bn [(4,.box (ab.cw m (dT m 13 w dst src base aa ai cc) (xT 13 w dst src base aa ai cc ld)))],.e9 oP 13 (some (.int .i8 10)) rfl,.cH _ true (dC d0 d1),.get _ _ _ (@bQ m dst ((fT m (dT m 13 w dst src base aa ai cc) (xT 13 w dst src base aa ai cc ld))) d0 d1),.inl]++Vc 8 tF++Vc 9 tT++ [.bn [(4,.box (ab.cw m (dT m 13 w dst src base aa ai cc) (xT 13 w dst src base aa ai cc ld)))],.ret _ _ _ c2,tF,tF,tF,tF,tF,tF,tT,.ret _ _ _ c3,.ret _ _ _ c4,tC (nt (@gy 13 w dst src base aa ai cc hm d0 d1 (rfl:true=true))),.cH _ true (dC d0 d1),.fK _ _ _ _ (@cW m dst (gd 10 w (rg (ab.rl m) dst) (WO.wrap WO.u64 ai)) ([.bool true,.bool false,.bool (aQ (gd 10 w (rg (ab.rl m) dst) (WO.wrap WO.u64 ai)) w==0),.bool (gp (gd 10 w (rg (ab.rl m) dst) (WO.wrap WO.u64 ai)) w),.bool false,.int .u64 (dT m 13 w dst src base aa ai cc),.int .i8 13,.int .i8 w,.int .i8 dst,.int .i8 src,.int .i8 base,.int .i64 aa,.int .i64 ai,.int .i8 cc,.int .u64 ld]) d0 d1),tF]) (by kernel_rfl))
theorem yB:l5 14:=by
 intro m w dst src base aa ai cc ld d0 d1 s0 s1 b0 b1 hm hw
 have c0:= @aE 14 w dst src base aa ai cc (by decide)
 rw [hm] at c0
 have c1:= @bX 14 w dst src base aa ai cc (by decide)
 have c2:= @mN w (rg (ab.rl m) dst) (WO.wrap WO.u64 ai) hw
 have c3:= @mF w (rg (ab.rl m) dst) (WO.wrap WO.u64 ai) hw
 have c4:= @aY 14 w dst src base aa ai cc (by decide)
 exact (jG (d:= .aM [(ig (m.at (u64 (m.pc+u64 (dz 14 w dst src base aa ai cc)))) ⟨14,w,dst,src,base,aa,ai,cc⟩ ld).1.d,.int .i64 0]) ([.ret _ _ _ c0,tF,.ret _ _ _ c1,tT,.get oQ 14 (.av) rfl,tT,.inl,.inl,.bn [(4,.box (ab.cw m (dT m 14 w dst src base aa ai cc) (xT 14 w dst src base aa ai cc ld)))],.e9 oP 14 (some (.int .i8 1)) rfl,.cH _ true (dC d0 d1),.get _ _ _ (@bQ m dst ((fT m (dT m 14 w dst src base aa ai cc) (xT 14 w dst src base aa ai cc ld))) d0 d1),.inl]++Vc 8 tF++Vc 9 tT++ [.bn [(4,.box (ab.cw m (dT m 14 w dst src base aa ai cc) (xT 14 w dst src base aa ai cc ld)))],.ret _ _ _ c2,tF,tF,tT,.ret _ _ _ c3,.ret _ _ _ c4,tC (nt (cu 0 true (eq_of_beq (@EH 14 w dst src base aa ai cc (rfl:false=false))))),tF]) (by kernel_rfl))
theorem yA:l5 15:=by
 intro m w dst src base aa ai cc ld d0 d1 s0 s1 b0 b1 hm hw
 have c0:= @aE 15 w dst src base aa ai cc (by decide)
 rw [hm] at c0
 have c1:= @bX 15 w dst src base aa ai cc (by decide)
 have c2:= @mM w (rg (ab.rl m) dst) (WO.wrap WO.u64 ai) hw
 have c3:= @iY w (gd 5 w (rg (ab.rl m) dst) (WO.wrap WO.u64 ai)) hw
 have c4:= @aY 15 w dst src base aa ai cc (by decide)
 exact (jG (d:= .aM [(ig (m.at (u64 (m.pc+u64 (dz 15 w dst src base aa ai cc)))) ⟨15,w,dst,src,base,aa,ai,cc⟩ ld).1.d,.int .i64 0]) ([.ret _ _ _ c0,tF,.ret _ _ _ c1,tT,.get oQ 15 (.av) rfl,tT,.inl,.inl,.bn [(4,.box (ab.cw m (dT m 15 w dst src base aa ai cc) (xT 15 w dst src base aa ai cc ld)))],.e9 oP 15 (some (.int .i8 5)) rfl,.cH _ true (dC d0 d1),.get _ _ _ (@bQ m dst ((fT m (dT m 15 w dst src base aa ai cc) (xT 15 w dst src base aa ai cc ld))) d0 d1),.inl]++Vc 8 tF++Vc 9 tT++ [.bn [(4,.box (ab.cw m (dT m 15 w dst src base aa ai cc) (xT 15 w dst src base aa ai cc ld)))],.ret _ _ _ c2,tF,tF,tF,tF,tF,tT,tT,.ret _ _ _ c3,.ret _ _ _ c4,tC (nt (cu 0 true (eq_of_beq (@EH 15 w dst src base aa ai cc (rfl:false=false))))),tF]) (by kernel_rfl))
theorem yz:l5 16:=by
 intro m w dst src base aa ai cc ld d0 d1 s0 s1 b0 b1 hm hw
 have c0:= @aE 16 w dst src base aa ai cc (by decide)
 rw [hm] at c0
 have c1:= @bX 16 w dst src base aa ai cc (by decide)
 have c2:= @Et w (rg (ab.rl m) dst) (rg (ab.rl m) src) hw
 have c3:= @cg
 have c4:= @aY 16 w dst src base aa ai cc (by decide)
 exact (jG (d:= .aM [(ig (m.at (u64 (m.pc+u64 (dz 16 w dst src base aa ai cc)))) ⟨16,w,dst,src,base,aa,ai,cc⟩ ld).1.d,.int .i64 0]) ([.ret _ _ _ c0,tF,.ret _ _ _ c1,tT,.get oQ 16 (.av) rfl,tT,.inl,.inl,.bn [(4,.box (ab.cw m (dT m 16 w dst src base aa ai cc) (xT 16 w dst src base aa ai cc ld)))],.e9 oP 16 (some (.int .i8 2)) rfl,.cH _ true (dC d0 d1),.get _ _ _ (@bQ m dst ((fT m (dT m 16 w dst src base aa ai cc) (xT 16 w dst src base aa ai cc ld))) d0 d1),.inl]++Vc 8 tF++ [tT,tT,tT,tT,tT,tT,tT]++Vc 9 tF++ [.cH _ true (dC s0 s1),.get _ _ _ (@bQ m src ((fT m (dT m 16 w dst src base aa ai cc) (xT 16 w dst src base aa ai cc ld))) s0 s1),.bn [(4,.box (ab.cw m (dT m 16 w dst src base aa ai cc) (xT 16 w dst src base aa ai cc ld)))],.ret _ _ _ c2,tF,tF,tF,tF,tF,tF,tF,.ret _ _ _ c3,.ret _ _ _ c4,tC (nt (@gy 16 w dst src base aa ai cc hm d0 d1 (rfl:true=true))),.cH _ true (dC d0 d1),.fK _ _ _ _ (@cW m dst (gd 2 w (rg (ab.rl m) dst) (rg (ab.rl m) src)) ([.bool false,.bool false,.bool false,.bool false,.bool false,.int .u64 (dT m 16 w dst src base aa ai cc),.int .i8 16,.int .i8 w,.int .i8 dst,.int .i8 src,.int .i8 base,.int .i64 aa,.int .i64 ai,.int .i8 cc,.int .u64 ld]) d0 d1),tF]) (by kernel_rfl))
theorem la (m:ab) (x:XS) (ld:Int) (ho:x.op≤127):aZ Tryz.prog 55 [m.d,x.d,.int .u64 ld] (.aM [(dx m x ld).1.d,.int .i64 (dx m x ld).2]):=by
 cases hm:x.may
 ·rw [Ec hm]
  obtain ⟨q0,q1,q2,q3,q4,q5,q6,q7,q8,q9,bK,bP,bO,bN,bM,bL,fk,fc,fz,fs,fo,pc⟩:=m
  obtain ⟨op,w,dst,src,base,aa,ai,cc⟩:=x
  exact yh q0 q1 q2 q3 q4 q5 q6 q7 q8 q9 bK bP bO bN bM bL pc fk fc fz fs fo op w dst src base aa ai cc ld ho hm
 ·rw [eX hm]
  obtain ⟨q0,q1,q2,q3,q4,q5,q6,q7,q8,q9,bK,bP,bO,bN,bM,bL,fk,fc,fz,fs,fo,pc⟩:=m
  obtain ⟨op,w,dst,src,base,aa,ai,cc⟩:=x
  replace hm:aA op w dst src base aa ai cc=true:=hm
  have RN:aR op≠0:=by
   intro e
   have hs:=(fh hm).2
   rw [e] at hs
   simp [aG] at hs
  obtain ⟨⟨d0,d1,s0,s1,b0,b1,_⟩,hs⟩:=fh hm
  rcases ji RN with rfl|rfl|rfl|rfl|rfl|rfl|rfl|rfl|rfl|rfl|rfl|rfl|rfl|rfl|rfl|rfl|rfl|rfl|rfl|rfl|rfl|rfl|rfl|rfl|rfl|rfl|rfl|rfl|rfl|rfl|rfl|rfl
  ·exact B4 ⟨q0,q1,q2,q3,q4,q5,q6,q7,q8,q9,bK,bP,bO,bN,bM,bL,fk,fc,fz,fs,fo,pc⟩ w dst src base aa ai cc ld d0 d1 s0 s1 b0 b1 hm
  ·exact B3 ⟨q0,q1,q2,q3,q4,q5,q6,q7,q8,q9,bK,bP,bO,bN,bM,bL,fk,fc,fz,fs,fo,pc⟩ w dst src base aa ai cc ld d0 d1 s0 s1 b0 b1 hm
  ·exact B2 ⟨q0,q1,q2,q3,q4,q5,q6,q7,q8,q9,bK,bP,bO,bN,bM,bL,fk,fc,fz,fs,fo,pc⟩ w dst src base aa ai cc ld d0 d1 s0 s1 b0 b1 hm (cR hs (by decide))
  ·exact B1 ⟨q0,q1,q2,q3,q4,q5,q6,q7,q8,q9,bK,bP,bO,bN,bM,bL,fk,fc,fz,fs,fo,pc⟩ w dst src base aa ai cc ld d0 d1 s0 s1 b0 b1 hm (cR hs (by decide))
  ·exact B0 ⟨q0,q1,q2,q3,q4,q5,q6,q7,q8,q9,bK,bP,bO,bN,bM,bL,fk,fc,fz,fs,fo,pc⟩ w dst src base aa ai cc ld d0 d1 s0 s1 b0 b1 hm (cR hs (by decide))
  ·exact BZ ⟨q0,q1,q2,q3,q4,q5,q6,q7,q8,q9,bK,bP,bO,bN,bM,bL,fk,fc,fz,fs,fo,pc⟩ w dst src base aa ai cc ld d0 d1 s0 s1 b0 b1 hm (cR hs (by decide))
  ·exact BX ⟨q0,q1,q2,q3,q4,q5,q6,q7,q8,q9,bK,bP,bO,bN,bM,bL,fk,fc,fz,fs,fo,pc⟩ w dst src base aa ai cc ld d0 d1 s0 s1 b0 b1 hm (cR hs (by decide))
  ·exact BW ⟨q0,q1,q2,q3,q4,q5,q6,q7,q8,q9,bK,bP,bO,bN,bM,bL,fk,fc,fz,fs,fo,pc⟩ w dst src base aa ai cc ld d0 d1 s0 s1 b0 b1 hm (cR hs (by decide))
  ·exact BV ⟨q0,q1,q2,q3,q4,q5,q6,q7,q8,q9,bK,bP,bO,bN,bM,bL,fk,fc,fz,fs,fo,pc⟩ w dst src base aa ai cc ld d0 d1 s0 s1 b0 b1 hm (cR hs (by decide))
  ·exact BU ⟨q0,q1,q2,q3,q4,q5,q6,q7,q8,q9,bK,bP,bO,bN,bM,bL,fk,fc,fz,fs,fo,pc⟩ w dst src base aa ai cc ld d0 d1 s0 s1 b0 b1 hm (cR hs (by decide))
  ·exact yF ⟨q0,q1,q2,q3,q4,q5,q6,q7,q8,q9,bK,bP,bO,bN,bM,bL,fk,fc,fz,fs,fo,pc⟩ w dst src base aa ai cc ld d0 d1 s0 s1 b0 b1 hm (cR hs (by decide))
  ·exact yE ⟨q0,q1,q2,q3,q4,q5,q6,q7,q8,q9,bK,bP,bO,bN,bM,bL,fk,fc,fz,fs,fo,pc⟩ w dst src base aa ai cc ld d0 d1 s0 s1 b0 b1 hm (cR hs (by decide))
  ·exact yD ⟨q0,q1,q2,q3,q4,q5,q6,q7,q8,q9,bK,bP,bO,bN,bM,bL,fk,fc,fz,fs,fo,pc⟩ w dst src base aa ai cc ld d0 d1 s0 s1 b0 b1 hm (cR hs (by decide))
  ·exact yC ⟨q0,q1,q2,q3,q4,q5,q6,q7,q8,q9,bK,bP,bO,bN,bM,bL,fk,fc,fz,fs,fo,pc⟩ w dst src base aa ai cc ld d0 d1 s0 s1 b0 b1 hm (cR hs (by decide))
  ·exact yB ⟨q0,q1,q2,q3,q4,q5,q6,q7,q8,q9,bK,bP,bO,bN,bM,bL,fk,fc,fz,fs,fo,pc⟩ w dst src base aa ai cc ld d0 d1 s0 s1 b0 b1 hm (cR hs (by decide))
  ·exact yA ⟨q0,q1,q2,q3,q4,q5,q6,q7,q8,q9,bK,bP,bO,bN,bM,bL,fk,fc,fz,fs,fo,pc⟩ w dst src base aa ai cc ld d0 d1 s0 s1 b0 b1 hm (cR hs (by decide))
  ·exact yz ⟨q0,q1,q2,q3,q4,q5,q6,q7,q8,q9,bK,bP,bO,bN,bM,bL,fk,fc,fz,fs,fo,pc⟩ w dst src base aa ai cc ld d0 d1 s0 s1 b0 b1 hm (cR hs (by decide))
  ·exact yy ⟨q0,q1,q2,q3,q4,q5,q6,q7,q8,q9,bK,bP,bO,bN,bM,bL,fk,fc,fz,fs,fo,pc⟩ w dst src base aa ai cc ld d0 d1 s0 s1 b0 b1 hm (cR hs (by decide))
  ·exact yx ⟨q0,q1,q2,q3,q4,q5,q6,q7,q8,q9,bK,bP,bO,bN,bM,bL,fk,fc,fz,fs,fo,pc⟩ w dst src base aa ai cc ld d0 d1 s0 s1 b0 b1 hm (cR hs (by decide))
  ·exact yw ⟨q0,q1,q2,q3,q4,q5,q6,q7,q8,q9,bK,bP,bO,bN,bM,bL,fk,fc,fz,fs,fo,pc⟩ w dst src base aa ai cc ld d0 d1 s0 s1 b0 b1 hm (cR hs (by decide))
  ·exact yv ⟨q0,q1,q2,q3,q4,q5,q6,q7,q8,q9,bK,bP,bO,bN,bM,bL,fk,fc,fz,fs,fo,pc⟩ w dst src base aa ai cc ld d0 d1 s0 s1 b0 b1 hm (cR hs (by decide))
  ·exact yu ⟨q0,q1,q2,q3,q4,q5,q6,q7,q8,q9,bK,bP,bO,bN,bM,bL,fk,fc,fz,fs,fo,pc⟩ w dst src base aa ai cc ld d0 d1 s0 s1 b0 b1 hm (cR hs (by decide))
  ·exact yt ⟨q0,q1,q2,q3,q4,q5,q6,q7,q8,q9,bK,bP,bO,bN,bM,bL,fk,fc,fz,fs,fo,pc⟩ w dst src base aa ai cc ld d0 d1 s0 s1 b0 b1 hm (cR hs (by decide))
  ·exact yr ⟨q0,q1,q2,q3,q4,q5,q6,q7,q8,q9,bK,bP,bO,bN,bM,bL,fk,fc,fz,fs,fo,pc⟩ w dst src base aa ai cc ld d0 d1 s0 s1 b0 b1 hm (cR hs (by decide))
  ·cases hd:(aQ (rg [q0,q1,q2,q3,q4,q5,q6,q7,q8,q9,bK,bP,bO,bN,bM,bL] dst) w==0)
   ·cases hz:(aQ q2 w==0)
    ·have e:ig ((⟨q0,q1,q2,q3,q4,q5,q6,q7,q8,q9,bK,bP,bO,bN,bM,bL,fk,fc,fz,fs,fo,pc⟩:ab).at (u64 (pc+u64 (XS.len ⟨24,w,dst,src,base,aa,ai,cc⟩)))) ⟨24,w,dst,src,base,aa,ai,cc⟩ ld=(.zero,20):=by
      show (match (aQ (rg [q0,q1,q2,q3,q4,q5,q6,q7,q8,q9,bK,bP,bO,bN,bM,bL] dst) w==0:Bool) with|true=>((ab.zero,20):ab×Int)|false=>match (aQ q2 w==0:Bool) with|false=>(.zero,20)|true=>_)=_
      rw [hd,hz]
     rw [e]
     exact wg q0 q1 q2 q3 q4 q5 q6 q7 q8 q9 bK bP bO bN bM bL pc fk fc fz fs fo w dst src base aa ai cc ld d0 d1 s0 s1 b0 b1 hm hd hz
    ·have e:ig ((⟨q0,q1,q2,q3,q4,q5,q6,q7,q8,q9,bK,bP,bO,bN,bM,bL,fk,fc,fz,fs,fo,pc⟩:ab).at (u64 (pc+u64 (XS.len ⟨24,w,dst,src,base,aa,ai,cc⟩)))) ⟨24,w,dst,src,base,aa,ai,cc⟩ ld=(⟨u64 ((aQ q0 w).tdiv (aQ (rg [q0,q1,q2,q3,q4,q5,q6,q7,q8,q9,bK,bP,bO,bN,bM,bL] dst) w)),q1,(aQ q0 w).tmod (aQ (rg [q0,q1,q2,q3,q4,q5,q6,q7,q8,q9,bK,bP,bO,bN,bM,bL] dst) w),q3,q4,q5,q6,q7,q8,q9,bK,bP,bO,bN,bM,bL,false,false,false,false,false,u64 (pc+u64 (XS.len ⟨24,w,dst,src,base,aa,ai,cc⟩))⟩,0):=by
      show (match (aQ (rg [q0,q1,q2,q3,q4,q5,q6,q7,q8,q9,bK,bP,bO,bN,bM,bL] dst) w==0:Bool) with|true=>((ab.zero,20):ab×Int)|false=>match (aQ q2 w==0:Bool) with|false=>(.zero,20)|true=>_)=_
      rw [hd,hz]
      rfl
     rw [e]
     exact yq q0 q1 q2 q3 q4 q5 q6 q7 q8 q9 bK bP bO bN bM bL pc fk fc fz fs fo w dst src base aa ai cc ld d0 d1 s0 s1 b0 b1 hm hd hz
   ·have e:ig ((⟨q0,q1,q2,q3,q4,q5,q6,q7,q8,q9,bK,bP,bO,bN,bM,bL,fk,fc,fz,fs,fo,pc⟩:ab).at (u64 (pc+u64 (XS.len ⟨24,w,dst,src,base,aa,ai,cc⟩)))) ⟨24,w,dst,src,base,aa,ai,cc⟩ ld=(.zero,20):=by
     show (match (aQ (rg [q0,q1,q2,q3,q4,q5,q6,q7,q8,q9,bK,bP,bO,bN,bM,bL] dst) w==0:Bool) with|true=>((ab.zero,20):ab×Int)|false=>match (aQ q2 w==0:Bool) with|false=>(.zero,20)|true=>_)=_
     rw [hd]
    rw [e]
    exact wh q0 q1 q2 q3 q4 q5 q6 q7 q8 q9 bK bP bO bN bM bL pc fk fc fz fs fo w dst src base aa ai cc ld d0 d1 s0 s1 b0 b1 hm hd
  ·cases fk
   ·exact we q0 q1 q2 q3 q4 q5 q6 q7 q8 q9 bK bP bO bN bM bL pc fc fz fs fo w dst src base aa ai cc ld d0 d1 s0 s1 b0 b1 hm (DF hs)
   ·exact yp q0 q1 q2 q3 q4 q5 q6 q7 q8 q9 bK bP bO bN bM bL pc fc fz fs fo w dst src base aa ai cc ld d0 d1 s0 s1 b0 b1 hm (DF hs)
  ·exact yo ⟨q0,q1,q2,q3,q4,q5,q6,q7,q8,q9,bK,bP,bO,bN,bM,bL,fk,fc,fz,fs,fo,pc⟩ w dst src base aa ai cc ld d0 d1 s0 s1 b0 b1 hm
  ·exact yn ⟨q0,q1,q2,q3,q4,q5,q6,q7,q8,q9,bK,bP,bO,bN,bM,bL,fk,fc,fz,fs,fo,pc⟩ w dst src base aa ai cc ld d0 d1 s0 s1 b0 b1 hm
  ·exact ym ⟨q0,q1,q2,q3,q4,q5,q6,q7,q8,q9,bK,bP,bO,bN,bM,bL,fk,fc,fz,fs,fo,pc⟩ w dst src base aa ai cc ld d0 d1 s0 s1 b0 b1 hm
  ·cases fk
   ·exact wc q0 q1 q2 q3 q4 q5 q6 q7 q8 q9 bK bP bO bN bM bL pc fc fz fs fo w dst src base aa ai cc ld d0 d1 s0 s1 b0 b1 hm (zT hs)
   ·exact yk q0 q1 q2 q3 q4 q5 q6 q7 q8 q9 bK bP bO bN bM bL pc fc fz fs fo w dst src base aa ai cc ld d0 d1 s0 s1 b0 b1 hm (zT hs)
  ·exact yj ⟨q0,q1,q2,q3,q4,q5,q6,q7,q8,q9,bK,bP,bO,bN,bM,bL,fk,fc,fz,fs,fo,pc⟩ w dst src base aa ai cc ld d0 d1 s0 s1 b0 b1 hm
  ·exact yi ⟨q0,q1,q2,q3,q4,q5,q6,q7,q8,q9,bK,bP,bO,bN,bM,bL,fk,fc,fz,fs,fo,pc⟩ w dst src base aa ai cc ld d0 d1 s0 s1 b0 b1 hm
theorem Bq (l:List cd) (hb:(l.map cd.d).length≤9223372036854775807) (ho:fQ l) (hm:iI l=none):aZ Tryz.prog 59 ([.aj .no 13 (l.map cd.d),.fn (Ve 60) [] []]) (.int .i64 (-1)):=by
 have c0:= @Bs l hb ho hm
 exact (L1 (d:= .int .i64 (-1)) [.head ⟨[0,1,7,8],[],[]⟩ _ _ _ _ _ _ _ c0] (by kernel_rfl)).to (by simp [wk])
theorem Bp (l:List cd) (hb:(l.map cd.d).length≤9223372036854775807) (ho:fQ l) (j:Nat) (hm:iI l=some j):aZ Tryz.prog 59 ([.aj .no 13 (l.map cd.d),.fn (Ve 60) [] []]) (.int .i64 (j:Int)):=by
 have c0:= @Br l _ hb ho hm
 exact (L1 (d:= .int .i64 (↑j:Int)) [.head ⟨[0,1,7,8],[],[]⟩ _ _ _ _ _ _ _ c0] (by kernel_rfl)).to (by simp [wk])
theorem qd (l:List cd) (hb:(l.map cd.d).length≤9223372036854775807) (ho:fQ l) (hm:iI l=none):aZ Tryz.prog 35 ([.aj .no 13 (l.map cd.d)]) (.aM [.int .i64 0,.int .i64 0]):=by
 have c0:= @Bq l hb ho hm
 exact (L4 (d:= .aM [.int .i64 0,.int .i64 0]) [.ret _ _ _ c0,tF] (by kernel_rfl)).to (by simp [wk,aB])
theorem wv (l:List cd) (hb:(l.map cd.d).length≤9223372036854775807) (ho:fQ l) (j:Nat) (hm:iI l=some j):aZ Tryz.prog 35 ([.aj .no 13 (l.map cd.d)]) (.aM [.int .i64 (j:Int),.int .i64 2]):=by
 have c0:= @Bp l hb ho _ hm
 exact (L4 (d:= .aM [.int .i64 (↑j:Int),.int .i64 2]) [.ret _ _ _ c0,tT] (by kernel_rfl)).to (by simp [wk,aB])
end Go.Proofs.YtkpneibifdoecaaGreat
namespace Go.Ev
open Go
def GL (kind op width size:Int) (du:Bool) (dst src off ai:Int):Bool:=Jn kind op width size du dst src off ai&&(!(kind==3)&& !(kind==4))
def Ng (kind op width size:Int) (du:Bool) (dst src off ai:Int):List D:=if GL kind op width size du dst src off ai then G7 kind op width size du dst src off ai else []
def Nh (kind op width size:Int) (du:Bool) (dst src off ai:Int):Int:=if GL kind op width size du dst src off ai then 0 else 2
def F6:D→cd
  | .agg [.int _ a,.int _ b,.int _ c,.int _ d,.int _ e,.int _ f,.int _ g,.int _ h,.int _ i,.int _ j,.int _ k,.int _ l,.int _ m]=>⟨a,b,c,d,e,f,g,h,i,j,k,l,m⟩
  |_=>⟨0,0,0,0,0,0,0,0,0,0,0,0,0⟩
def MH (l:List D):Prop:=(l.map F6).map cd.d=l
abbrev zj (p r:Int):cd:=⟨1,0,0,0,0,0,0,0,0,r,p,0,0⟩
abbrev Mp (r p:Int):cd:=⟨2,0,0,0,0,0,0,0,0,r,p,0,0⟩
abbrev xS (op w dst src ai cc:Int):cd:=⟨0,op,w,dst,src,0,0,ai,cc,0,0,0,0⟩
def ME (l:List cd) (r:aq) (d v:Int):Prop:= ∀m,∃m',cB l r m=(r.put d v,m',0,0)
theorem and_self {x:Int} (h:Mh x):nG x x=x:=by
 unfold nG
 rw [BitVec.and_self,toNat_ofInt]
 unfold u64 Mh at*
 rw [il]
 rw [show ((2^64:Nat):Int)=18446744073709551616 from rfl]
 omega
def Clean (m:ab):Prop:=m.q3=0∧m.q4=0∧m.q5=0∧m.q6=0∧m.q7=0∧m.q8=0∧m.q9=0∧m.bK=0∧m.bO=0∧m.bN=0∧m.bM=0∧m.bL=0∧m.pc=0
theorem Fy {N k:Int} (h:(ql N 2055==0)=true) (k0:0≤k) (k1:k≤15) (hb:dM N k=1):eY k=true:=by
 rw [beq_iff_eq] at h
 have e:=sS N 2055
 rw [h] at e
 have e2:=congrArg (fun b:BitVec 64=>b.getLsbD k.toNat) e
 simp only [BitVec.getLsbD_and,BitVec.getLsbD_not] at e2
 rw [lg k0 k1] at hb
 have hN:(Vh 64 N).getLsbD k.toNat=true:=by
  cases hc:(Vh 64 N).getLsbD k.toNat
  ·rw [hc] at hb;exact absurd hb (by decide)
  ·rfl
 rw [hN] at e2
 have e3:(Vh 64 2055).getLsbD k.toNat=true:=by
  have h0:(Vh 64 0).getLsbD k.toNat=false:=by simp
  rw [h0] at e2
  have hk:k.toNat<64:=by omega
  simpa [hk] using e2
 have key:∀k:Int,0≤k→k≤15→(Vh 64 2055).getLsbD k.toNat=true→eY k=true:=by
  refine tH ?_ ?_ ?_ ?_ ?_ ?_ ?_ ?_ ?_ ?_ ?_ ?_ ?_ ?_ ?_ ?_<;>decide
 exact key k k0 k1 e3
def Lz:List cd:= [zj 0 0,zj 1 1,zj 2 2,zj 11 3]
def MA:List cd:=Lz++ [xS 14 64 0 0 0 0]
def OG (n:Int):Prop:= ∀i,16≤i→(Vh 64 n).getLsbD i=false
end Go.Ev
namespace Go.Proofs.YtkpneibifdoecaaGreat
open Go Go.Ev
end Go.Proofs.YtkpneibifdoecaaGreat
namespace Go.Proofs
open Go.Shelf
shelf_lay_g Lays8.n4 Nm8 4 at Tryz 36 as Tryz.growFr
end Go.Proofs
namespace Go.Proofs.YtkpneibifdoecaaGreat
open Go Go.Ev
theorem Bv:∃i0 z,Tryz.prog.info? (Tryz.growFr_ren.t 25)=some i0∧i0.zero=some z∧i0.size=13∧z.cells.size=13∧i0.bytes≤65536:=by
 have h:((Tryz.prog.info? (Tryz.growFr_ren.t 25)).bind fun i0=>i0.zero.map fun z=>(decide (i0.size=13)&&decide (z.cells.size=13)&&decide (i0.bytes≤65536)))=some true:=by kernel_rfl
 cases hi:Tryz.prog.info? (Tryz.growFr_ren.t 25) with
 |none=>rw [hi] at h;cases h
 |some i0=>
  rw [hi] at h
  cases hz:i0.zero with
  |none=>simp [hz] at h
  |some z=>
   simp only [hz,Option.bind_some,Option.map_some,Option.some.injEq,Bool.and_eq_true,decide_eq_true_eq] at h
   exact ⟨i0,z,rfl,hz,h.1.1,h.1.2,h.2⟩
theorem DY:J8 Tryz.prog 36:=
 ⟨Tryz.f36,_,Tryz.func36,rfl,by kernel_rfl⟩
theorem Bz (xs:List D) (n v:Nat) (hx:xs.length≤1000000) (hn:n≤1000000):
  cO Tryz.prog 36 [.aj (.tok 0 v) 13 xs,.int .i64 (n:Int)] [.bz v 13] (.aj (.tok 0 (v+1)) 13 xs) [.bz (v+1) 13]:=by
 obtain ⟨i0,z,hi,hz,hs,hc,hb⟩:=Bv
 rw [← hs]
 exact Bx (t:=Tryz.growFr_ren.t 25) DY (by rw [hc,hs]) (by omega) hb (fun base l c n w h1 h2 h3 h4=>Any8.slices_Grow_room Tryz.growFr base l c n w h1 h2 h3 h4)
  (fun base l c n cs w h1 h2 h3 h4 h5 h6 h7=>Any8.slices_Grow_grow Tryz.growFr i0 z hi hz (by omega) base l c n cs w h1 h2 h3 h4 h5 h6 h7) xs n v hx hn
theorem CN (n:Nat) (s:List Ob):∀(t:List Ob) (j:Nat),4≤j→EE [3] n s t j=t
 | [],_,_=>rfl
 |x::t,j,h=>by
  have e:([3]:List Nat).idxOf? j=none:=by rw [List.idxOf?_eq_none_iff];simp;omega
  rw [EE,e,CN n s t (j+1) (by omega)]
theorem ie (cs:List D) (t:List Ob) (xs:List D) (n v:Nat) (hx:xs.length≤1000000) (hn:n≤1000000):
  cO Tryz.prog 36 [.aj (.tok 3 v) 13 xs,.int .i64 (n:Int)] (.box cs:: .dead:: .dead:: .bz v 13::t) (.aj (.tok 3 (v+1)) 13 xs) (.box cs:: .dead:: .dead:: .bz (v+1) 13::t):=by
 have e:∀u,GH [3] (.box cs:: .dead:: .dead:: .bz v 13::t) [.bz u 13]= .box cs:: .dead:: .dead:: .bz u 13::t:=fun u=>by
  have h:=CN (t.length+4) [.bz u 13] t 4 (Nat.le_refl _)
  show (.box cs:: .dead:: .dead:: .bz u 13::EE [3] (t.length+4) [.bz u 13] t 4)++ []=_
  rw [h,Wb]
 have:=(Bz xs n v hx hn).rn [3] (.box cs:: .dead:: .dead:: .bz v 13::t) rfl (by decide) (fun x hx=>by rw [List.mem_singleton] at hx;subst hx;simp) (e v)
 rw [e] at this
 exact this
theorem H3 (p:af) (l outs xs:List D) (n k m j:Nat) (m1:m≤100) (ho:outs.length≤100000) (h:m≤j):ao Tryz.prog (aI Tryz.f9 1) ⟨[3,27,28,29],[0],[(8,13)]⟩ 6 ((uu)::(uu)::(uu)::(.ptr false 0 0)::(un 4++(.aj (.tok 6 0) 13 outs)::(un 18++(.aj .no 13 l)::(.int .i64 (↑n:Int))::(.int .i64 (↑k:Int))::(un 58++(.aj .no 8 xs)::(.int .i64 (↑m:Int))::(.int .i64 (↑j:Int))::(un 11))))) [.box (bW p),.dead,.dead,.dead,.dead,.dead,.bz 0 13] (.exit 9) ((uu)::(uu)::(uu)::(.ptr false 0 0)::(un 4++(.aj (.tok 6 0) 13 outs)::(un 18++(.aj .no 13 l)::(.int .i64 (↑n:Int))::(.int .i64 (↑k:Int))::(un 72)))) ([.box [.int .i8 (af.k p 0),.int .i8 (af.n p 0),.int .i8 (af.k p 1),.int .i8 (af.n p 1),.int .i8 (af.k p 2),.int .i8 (af.n p 2),.int .i8 (af.k p 3),.int .i8 (af.n p 3),.int .i8 (af.k p 4),.int .i8 (af.n p 4),.int .i8 (af.k p 5),.int .i8 (af.n p 5),.int .i8 (af.k p 6),.int .i8 (af.n p 6),.int .i8 (af.k p 7),.int .i8 (af.n p 7),.int .i8 (af.k p 8),.int .i8 (af.n p 8),.int .i8 (af.k p 9),.int .i8 (af.n p 9),.int .i8 (af.k p 10),.int .i8 (af.n p 10)],.dead,.dead,.dead,.dead,.dead,.bz 0 13]):=by
 exact (ao.aw (sp:=⟨[3,27,28,29],[0],[(8,13)]⟩) (n0:=6) (ex:=Ex.exit (9:Nat)) (t':=((uu)::(uu)::(uu)::(.ptr false 0 0)::(un 4++(.aj (.tok 6 0) 13 outs)::(un 18++(.aj .no 13 l)::(.int .i64 (↑n:Int))::(.int .i64 (↑k:Int))::(un 72))))) (s':= [.box [.int .i8 (af.k p 0),.int .i8 (af.n p 0),.int .i8 (af.k p 1),.int .i8 (af.n p 1),.int .i8 (af.k p 2),.int .i8 (af.n p 2),.int .i8 (af.k p 3),.int .i8 (af.n p 3),.int .i8 (af.k p 4),.int .i8 (af.n p 4),.int .i8 (af.k p 5),.int .i8 (af.n p 5),.int .i8 (af.k p 6),.int .i8 (af.n p 6),.int .i8 (af.k p 7),.int .i8 (af.n p 7),.int .i8 (af.k p 8),.int .i8 (af.n p 8),.int .i8 (af.k p 9),.int .i8 (af.n p 9),.int .i8 (af.k p 10),.int .i8 (af.n p 10)],.dead,.dead,.dead,.dead,.dead,.bz 0 13]) mixed [tC (by ((try simp only [Vj,Vl,cf] at*);(try unfold cy at*);omega):(decide ((↑j:Int)<(↑m:Int)))=false)] (by kernel_rfl)).cast (by rfl) (by rfl)
theorem JS (p:af) (l outs xs:List D) (n k m j:Nat) (m1:m≤100) (ho:outs.length≤100000) (hj:j<m) (op w dst src base aa ai cc:Int) (hx:xs[j]? =some (xD op w dst src base aa ai cc)):ao Tryz.prog (aI Tryz.f9 1) ⟨[3,27,28,29,88,89,90],[0],[(8,13)]⟩ 6 ((uu)::(uu)::(uu)::(.ptr false 0 0)::(un 4++(.aj (.tok 6 0) 13 outs)::(un 18++(.aj .no 13 l)::(.int .i64 (↑n:Int))::(.int .i64 (↑k:Int))::(un 58++(.aj .no 8 xs)::(.int .i64 (↑m:Int))::(.int .i64 (↑j:Int))::(un 11))))) [.box (bW p),.dead,.dead,.dead,.dead,.dead,.bz 0 13] .norm ((uu)::(uu)::(uu)::(.ptr false 0 0)::(un 4++(.aj (.tok 6 0) 13 (outs++ [(dJ 0 op w dst src base aa ai cc 0 0 0 0)]))::(un 18++(.aj .no 13 l)::(.int .i64 (↑n:Int))::(.int .i64 (↑k:Int))::(un 58++(.aj .no 8 xs)::(.int .i64 (↑m:Int))::(.int .i64 (WO.i64.wrap ((↑j:Int)+1)))::(un 11))))) ([.box [.int .i8 (af.k p 0),.int .i8 (af.n p 0),.int .i8 (af.k p 1),.int .i8 (af.n p 1),.int .i8 (af.k p 2),.int .i8 (af.n p 2),.int .i8 (af.k p 3),.int .i8 (af.n p 3),.int .i8 (af.k p 4),.int .i8 (af.n p 4),.int .i8 (af.k p 5),.int .i8 (af.n p 5),.int .i8 (af.k p 6),.int .i8 (af.n p 6),.int .i8 (af.k p 7),.int .i8 (af.n p 7),.int .i8 (af.k p 8),.int .i8 (af.n p 8),.int .i8 (af.k p 9),.int .i8 (af.n p 9),.int .i8 (af.k p 10),.int .i8 (af.n p 10)],.dead,.dead,.dead,.dead,.dead,.bz 0 13]):=by
 exact (ao.aw (sp:=⟨[3,27,28,29,88,89,90],[0],[(8,13)]⟩) (n0:=6) (ex:=Ex.norm) (t':=((uu)::(uu)::(uu)::(.ptr false 0 0)::(un 4++(.aj (.tok 6 0) 13 (outs++ [(dJ 0 op w dst src base aa ai cc 0 0 0 0)]))::(un 18++(.aj .no 13 l)::(.int .i64 (↑n:Int))::(.int .i64 (↑k:Int))::(un 58++(.aj .no 8 xs)::(.int .i64 (↑m:Int))::(.int .i64 (WO.i64.wrap ((↑j:Int)+1)))::(un 11)))))) (s':= [.box [.int .i8 (af.k p 0),.int .i8 (af.n p 0),.int .i8 (af.k p 1),.int .i8 (af.n p 1),.int .i8 (af.k p 2),.int .i8 (af.n p 2),.int .i8 (af.k p 3),.int .i8 (af.n p 3),.int .i8 (af.k p 4),.int .i8 (af.n p 4),.int .i8 (af.k p 5),.int .i8 (af.n p 5),.int .i8 (af.k p 6),.int .i8 (af.n p 6),.int .i8 (af.k p 7),.int .i8 (af.n p 7),.int .i8 (af.k p 8),.int .i8 (af.n p 8),.int .i8 (af.k p 9),.int .i8 (af.n p 9),.int .i8 (af.k p 10),.int .i8 (af.n p 10)],.dead,.dead,.dead,.dead,.dead,.bz 0 13]) mixed [tC (by ((try simp only [Vj,Vl,cf] at*);(try unfold cy at*);omega):(decide ((↑j:Int)<(↑m:Int)))=true),tT,.get _ _ _ hx,.len (Vt outs+(1:Nat)) ((2147483648:Nat)) (by first|decide|omega|(simp;omega))] (by kernel_rfl)).cast (by rfl) (by rfl)
end Go.Proofs.YtkpneibifdoecaaGreat
namespace Go.Ev
open Go
def xW (x:XS):cd:=⟨0,x.op,x.w,x.dst,x.src,x.base,x.aa,x.ai,x.cc,0,0,0,0⟩
def lJ (p:af) (x:cd):List XS:=if x.kind=1 then [gQ x.aC (p.k x.aP) (p.n x.aP)] else if x.kind=2 then js x.aC (p.k x.aP) (p.n x.aP) else if x.kind=3 then GX p x.num else gr p
def rz (p:af) (x:cd):List cd:=if x.kind=1∨x.kind=2∨x.kind=3∨x.kind=6 then (lJ p x).map xW else [x]
def oo (p:af) (l:List cd):List cd:=l.flatMap (rz p)
theorem m7 {x:cd} (h:x.may=true) (hk:x.kind=1∨x.kind=2):0≤x.aP∧x.aP≤10∧eY x.aC=true:=by
 unfold cd.may at h
 rcases hk with e|e<;>rw [e] at h<;>first|rw [lP] at h|rw [lO] at h
 all_goals
  simp only [Bool.and_eq_true,decide_eq_true_eq] at h
  exact ⟨h.1.1.1.1,h.1.1.1.2,h.1.1.2⟩
theorem Jm {x:cd} (h:x.may=true) (hk:x.kind=3):0≤x.num∧x.num≤15:=by
 unfold cd.may at h
 rw [hk,sW] at h
 simp only [Bool.and_eq_true,decide_eq_true_eq] at h
 exact h.1.1
theorem wJ {l:List cd} (h:iI l=none):∀x∈l,x.may=true:=by
 intro x hx
 unfold iI at h
 rw [List.findIdx?_eq_none_iff] at h
 have:=h x hx
 simpa using this
end Go.Ev
namespace Go.Proofs.YtkpneibifdoecaaGreat
open Go Go.Ev
abbrev gx (l:List XS):List D:=(l.map xW).map cd.d
abbrev ib (l:List XS):List D:=l.map XS.d
theorem jw (l:List XS):(ib l).length=l.length:=Vl _
theorem EG {l:List XS} {k:Nat} (h:k<l.length):(ib l)[k]? =some (xD l[k].op l[k].w l[k].dst l[k].src l[k].base l[k].aa l[k].ai l[k].cc):=by
 simp [ib,h,XS.d]
abbrev Lh (l outs xs:List D) (n k m j:Nat):List D:=((.undef)::(.undef)::(.undef)::(.ptr false 0 0)::(un 4++(.aj (.tok 6 0) 13 outs)::(un 18++(.aj .no 13 l)::(.int .i64 (n:Int))::(.int .i64 (k:Int))::(un 58++(.aj .no 8 xs)::(.int .i64 (m:Int))::(.int .i64 (j:Int))::(un 11)))))
abbrev Mw (l outs:List D) (n k:Nat):List D:=((.undef)::(.undef)::(.undef)::(.ptr false 0 0)::(un 4++(.aj (.tok 6 0) 13 outs)::(un 18++(.aj .no 13 l)::(.int .i64 (n:Int))::(.int .i64 (k:Int))::(un 72))))
abbrev Km (p:af):List Ob:= [.box (bW p),.dead,.dead,.dead,.dead,.dead,.bz 0 13]
theorem Mu (p:af) (l:List D) (n k:Nat) (ys:List XS) (hy:ys.length≤100):∀(r j:Nat) (outs:List D),j+r=ys.length→outs.length≤50000+j→
  aF Tryz.prog (aI Tryz.f9 1) 6 (Lh l outs (ib ys) n k ys.length j) (Km p) (.exit 9) (Mw l (outs++gx (ys.drop j)) n k) (Km p)
 |0,j,outs,hj,ho=>by
  obtain rfl:j=ys.length:=by omega
  have:=H3 p l outs (ib ys) n k ys.length ys.length hy (by omega) (Nat.le_refl _)
  rw [List.drop_length,show gx []= [] from rfl,Wb]
  exact aF.last this (fun h=>by cases h)
 |r+1,j,outs,hj,ho=>by
  have OK:j<ys.length:=by omega
  have:=JS p l outs (ib ys) n k ys.length j hy (by omega) OK _ _ _ _ _ _ _ _ (EG OK)
  rw [LD (by omega)] at this
  have ih:=Mu p l n k ys hy r (j+1) (outs++ [(xW ys[j]).d]) (by omega) (by rw [Vd,VX];omega)
  rw [Wa] at ih
  rw [List.drop_eq_getElem_cons OK,gx,WG,WG]
  exact aF.cG this ih
abbrev H4 (l outs:List D) (ys:List XS) (n k:Nat):List D:=((.undef)::(.undef)::(.undef)::(.ptr false 0 0)::(un 4++(.aj (.tok 6 0) 13 outs)::(un 18++(.aj .no 13 l)::(.int .i64 (n:Int))::(.int .i64 (k:Int))::(un 58++(.aj .no 8 (ib ys))::(.int .i64 ((ib ys).length:Int))::(.int .i64 0)::(un 11)))))
theorem Kn (p:af) (l:List D) (n k:Nat) (ys:List XS) (hy:ys.length≤100) (outs:List D) (ho:outs.length≤20000):aU Tryz.prog 6 (.loop (aI Tryz.f9 1)) (H4 l outs ys n k) (Km p) (.exit 9) (Mw l (outs++gx ys) n k) (Km p):=by
 have e:H4 l outs ys n k=Lh l outs (ib ys) n k ys.length 0:=by simp only [H4,Lh,jw];rfl
 rw [e]
 exact aU.bA (by simp) (Mu p l n k ys hy ys.length 0 outs (by omega) (by omega))
theorem J9 {n:Int} (h:0≤n∧n<11):WO.i64.wrap (8*WO.i64.wrap n)=8*n:=by rw [aH,aH];omega
theorem Eb (p:af) (hm:p.may=true) (s0:0≤p.sp) (s1:p.sp≤11):aZ Tryz.prog 19 [.agg (bW p)] (.aM [.aj .no 8 (ib (gr p)),.int .i64 0]):=by
 have w1:WO.i64.wrap (8*p.sp)=8*p.sp:=by rw [aH];omega
 have o0:=dS (af.fg hm (i:=0) (by decide) (by decide))
 by_cases hs:p.sp>0
 ·rcases o0 with ⟨a,a2⟩|⟨a,a2⟩|⟨a,a2,a3⟩
  ·have e:gr p= [qA 0 0,⟨9,64,4,0,0,0,8*p.sp,0⟩,⟨30,0,0,0,0,0,0,0⟩]:=by
    unfold gr gQ
    simp [a,hs]
   have q:=yf p hm s0 s1 hs (by simp [a]) (by simp [a])
   rw [w1] at q
   rw [e]
   exact q
  ·have e:gr p= [⟨0,64,0,p.n 0,0,0,0,0⟩,⟨9,64,4,0,0,0,8*p.sp,0⟩,⟨30,0,0,0,0,0,0,0⟩]:=by
    unfold gr gQ
    simp [a,hs]
   have q:=ye p hm s0 s1 hs (by simp [a]) (by simp [a])
   rw [w1] at q
   rw [e]
   exact q
  ·have e:gr p= [⟨26,64,0,0,4,8*p.n 0,0,0⟩,⟨9,64,4,0,0,0,8*p.sp,0⟩,⟨30,0,0,0,0,0,0,0⟩]:=by
    unfold gr gQ
    simp [a,hs]
   have q:=yd p hm s0 s1 hs (by simp [a]) a2 a3
   rw [w1,J9 ⟨a2,a3⟩] at q
   rw [e]
   exact q
 ·have hs:p.sp≤0:=by omega
  rcases o0 with ⟨a,a2⟩|⟨a,a2⟩|⟨a,a2,a3⟩
  ·have e:gr p= [qA 0 0,⟨30,0,0,0,0,0,0,0⟩]:=by
    unfold gr gQ
    simp [a,show ¬(0<p.sp) by omega]
   have q:=yc p hm s0 s1 hs (by simp [a]) (by simp [a])
   rw [e]
   exact q
  ·have e:gr p= [⟨0,64,0,p.n 0,0,0,0,0⟩,⟨30,0,0,0,0,0,0,0⟩]:=by
    unfold gr gQ
    simp [a,show ¬(0<p.sp) by omega]
   have q:=yb p hm s0 s1 hs (by simp [a]) (by simp [a])
   rw [e]
   exact q
  ·have e:gr p= [⟨26,64,0,0,4,8*p.n 0,0,0⟩,⟨30,0,0,0,0,0,0,0⟩]:=by
    unfold gr gQ
    simp [a,show ¬(0<p.sp) by omega]
   have q:=ya p hm s0 s1 hs (by simp [a]) a2 a3
   rw [J9 ⟨a2,a3⟩] at q
   rw [e]
   exact q
abbrev MW (m i:Int):List D:= [.undef,.ptr false 0 0,.undef,.int .i64 m,.int .i64 i,.undef,.undef,.undef,.undef,.undef,.undef,.undef,.undef,.undef,.undef,.undef,.undef,.undef,.undef,.undef,.undef,.undef,.undef]
abbrev MX (m:Int):List D:= [.undef,.undef,.undef,.int .i64 m,.undef,.undef,.undef,.undef,.undef,.undef,.undef,.undef,.undef,.undef,.undef,.undef,.undef,.undef,.undef,.undef,.undef,.undef,.undef]
theorem vL (aC:Int) (h0:0≤aC) (hn:aC≤127):aZ Tryz.prog 61 ([dJ 1 0 0 0 0 0 0 0 0 0 aC 0 0]) (.bool (eY aC)):=by
 rcases Bool.eq_false_or_eq_true (eY aC) with k0|k0
 ·skip
  have c1:= @kQ (aC) hn
  exact (aZ.aw (d:= .bool true) mixed Tryz.func61 (by kernel_rfl) ([.inl,.inl,tT,tT,tT,tT,tT,tT,tT,tT,tT,.get ([D.fn (Ve 120) [] [],D.fn (Ve 117) [] [],D.fn (Ve 117) [] [],D.fn (Ve 123) [] [],D.fn (Ve 124) [] [.ptr false 2 0],D.fn (Ve 119) [] [],D.fn (Ve 126) [] []]) 1 (D.fn (Ve 117) [] []) rfl,tT,.inl,.inl,tT]++ [tT,tT,tT,tT,tT,tT,tT,tT,.ret _ _ _ c1,tT,tT,tC (eT k0),tC (eT k0),tC (eT k0),tC (eT k0),tC (eT k0)]++ [.flat _ _ hU,tC k0]) (by kernel_rfl)).to (by first|rfl|(simp [wk,k0];done))
 ·skip
  have c2:= @kQ (aC) hn
  exact (aZ.aw (d:= .bool false) mixed Tryz.func61 (by kernel_rfl) ([.inl,.inl,tT,tT,tT,tT,tT,tT,tT,tT,tT,.get ([D.fn (Ve 120) [] [],D.fn (Ve 117) [] [],D.fn (Ve 117) [] [],D.fn (Ve 123) [] [],D.fn (Ve 124) [] [.ptr false 2 0],D.fn (Ve 119) [] [],D.fn (Ve 126) [] []]) 1 (D.fn (Ve 117) [] []) rfl,tT,.inl,.inl,tT]++ [tT,tT,tT,tT,tT,tT,tT,tT,.ret _ _ _ c2,tT,tT,tC (eT k0),tC (eT k0),tC (eT k0),tC (eT k0),tC (eT k0)]++ [tC k0]) (by kernel_rfl)).to (by first|rfl|(simp [wk,k0];done))
abbrev Oc (s:Int→Int):List D:= [.int .u64 (s 0),.int .u64 (s 1),.int .u64 (s 2),.int .u64 (s 3),.int .u64 (s 4),.int .u64 (s 5),.int .u64 (s 6),.int .u64 (s 7),.int .u64 (s 8),.int .u64 (s 9),.int .u64 (s 10)]
theorem FX (l:List Mv) (OW:l.length≤64) (O0:∀p∈l,p.1≠p.2) (sc:Int) (outs:List D) (ho:outs.length≤200) (hp:0<l.length) (j:Nat) (hj:fY l l 0=some j) (jl:j<l.length) (a b:Int) (hA:hH (dU l) (j*2) 2 [.int .i8 a,.int .i8 b]) (c1 c2:List D) (PD:∀c∈c1,c.clean=true) (PS:∀c∈c2,c.clean=true) (hF:hH (dU l) 0 (VB (j:Int)*2) c1) (hR:hH (dU l) (0+VB (WO.i64.wrap ((j:Int)+1))*2) ((l.length - VB (WO.i64.wrap ((j:Int)+1)))*2) c2) (hb:(Nat.blt 0 (VB (j:Int)+(l.length - VB (WO.i64.wrap ((j:Int)+1)))))=true):ao Tryz.prog (aI Tryz.f47 1) ⟨[1],[],[(4,2),(6,2)]⟩ 3 ((uu)::(.int .i8 sc)::(uu)::(uu)::(.aj (.tok 3 0) 2 outs)::(uu)::(.bR 4 2 (Vt l))::(un 94)) [.dead,.dead,.dead,.bz 0 2,.box (dU l)] .norm ((uu)::(.int .i8 sc)::(uu)::(uu)::(.aj (.tok 3 0) 2 (outs++ [.agg [.int .i8 a,.int .i8 b]]))::(uu)::(.bR 4 2 (VB (↑j:Int)+(Vt l - VB (WO.i64.wrap ((↑j:Int)+1)))))::(un 94)) ([.dead,.dead,.dead,.bz 0 2,.box (VG D.aJ (c1++c2))]):=by
 exact (ao.aw (sp:=⟨[1],[],[(4,2),(6,2)]⟩) (n0:=3) (ex:=Ex.norm) (t':=((uu)::(.int .i8 sc)::(uu)::(uu)::(.aj (.tok 3 0) 2 (outs++ [.agg [.int .i8 a,.int .i8 b]]))::(uu)::(.bR 4 2 (VB (↑j:Int)+(Vt l - VB (WO.i64.wrap ((↑j:Int)+1)))))::(un 94))) (s':= [.dead,.dead,.dead,.bz 0 2,.box (VG D.aJ (c1++c2))]) mixed [tC (fb 0 (by ((try simp only [Vd,Vf,Vg,Vj,cf] at*);(try unfold cy at*);omega):(decide ((↑(Vt l):Int)<1))=false)),.kB _ _ _ _ _ (@vm l OW O0 _ hj),tF,.cH (decide (0≤(↑j:Int)∧(↑j:Int)<(↑(Vt l):Int))) true (by ((try simp only [Vd,Vf,Vg,Vj,cf] at*);(try unfold cy at*);omega)),.bV _ _ _ _ (@iT (dU l) (VB (↑j:Int)*(2:Nat)) ((2:Nat)) _ hA),.len (Vt outs+(1:Nat)) ((2147483648:Nat)) (by first|decide|omega|(simp;omega)),.cH (decide (0≤(↑j:Int)∧(↑j:Int)≤(↑j:Int)∧(↑j:Int)≤(↑(Vt l):Int))) true (by ((try simp only [Vd,Vf,Vg,Vj,cf] at*);(try unfold cy at*);omega)),.cH (decide (0≤WO.i64.wrap ((↑j:Int)+1)∧WO.i64.wrap ((↑j:Int)+1)≤(↑(Vt l):Int))) true (by ((try simp only [Vd,Vf,Vg,Vj,cf] at*);(try unfold cy at*);omega)),.len (VB (↑j:Int)+(Vt l - VB (WO.i64.wrap ((↑j:Int)+1)))) ((2147483648:Nat)) (by first|decide|omega|(simp;omega)),tC (v:=true) (@qW (VB (↑j:Int))),tC hb,.bV _ _ _ _ (@iT (dU l) ((0:Nat)) (VB (↑j:Int)*(2:Nat)) _ hF),.bV _ _ _ _ (@iT (dU l) ((0:Nat)+VB (WO.i64.wrap ((↑j:Int)+1))*(2:Nat)) ((Vt l - VB (WO.i64.wrap ((↑j:Int)+1)))*(2:Nat)) _ hR),.cl (c1++c2) (by first|exact dn rfl|exact cm _|exact eQ PD PS)] (by kernel_rfl)).cast (by rfl) (by rfl)
theorem FY (l:List Mv) (OW:l.length≤64) (O0:∀p∈l,p.1≠p.2) (sc:Int) (outs:List D) (ho:outs.length≤200) (hp:0<l.length) (j:Nat) (hj:fY l l 0=some j) (jl:j<l.length) (a b:Int) (hA:hH (dU l) (j*2) 2 [.int .i8 a,.int .i8 b]) (hb:(Nat.blt 0 (VB (j:Int)+(l.length - VB (WO.i64.wrap ((j:Int)+1)))))=false):ao Tryz.prog (aI Tryz.f47 1) ⟨[1,6],[],[(4,2)]⟩ 3 ((uu)::(.int .i8 sc)::(uu)::(uu)::(.aj (.tok 3 0) 2 outs)::(uu)::(.bR 4 2 (Vt l))::(un 94)) [.dead,.dead,.dead,.bz 0 2,.box (dU l)] .norm ((uu)::(.int .i8 sc)::(uu)::(uu)::(.aj (.tok 3 0) 2 (outs++ [.agg [.int .i8 a,.int .i8 b]]))::(uu)::(.aj .tight 2 [])::(un 94)) ([.dead,.dead,.dead,.bz 0 2]):=by
 exact (ao.aw (sp:=⟨[1,6],[],[(4,2)]⟩) (n0:=3) (ex:=Ex.norm) (t':=((uu)::(.int .i8 sc)::(uu)::(uu)::(.aj (.tok 3 0) 2 (outs++ [.agg [.int .i8 a,.int .i8 b]]))::(uu)::(.aj .tight 2 [])::(un 94))) (s':= [.dead,.dead,.dead,.bz 0 2]) mixed [tC (fb 0 (by ((try simp only [Vd,Vf,Vg,Vj,cf] at*);(try unfold cy at*);omega):(decide ((↑(Vt l):Int)<1))=false)),.kB _ _ _ _ _ (@vm l OW O0 _ hj),tF,.cH (decide (0≤(↑j:Int)∧(↑j:Int)<(↑(Vt l):Int))) true (by ((try simp only [Vd,Vf,Vg,Vj,cf] at*);(try unfold cy at*);omega)),.bV _ _ _ _ (@iT (dU l) (VB (↑j:Int)*(2:Nat)) ((2:Nat)) _ hA),.len (Vt outs+(1:Nat)) ((2147483648:Nat)) (by first|decide|omega|(simp;omega)),.cH (decide (0≤(↑j:Int)∧(↑j:Int)≤(↑j:Int)∧(↑j:Int)≤(↑(Vt l):Int))) true (by ((try simp only [Vd,Vf,Vg,Vj,cf] at*);(try unfold cy at*);omega)),.cH (decide (0≤WO.i64.wrap ((↑j:Int)+1)∧WO.i64.wrap ((↑j:Int)+1)≤(↑(Vt l):Int))) true (by ((try simp only [Vd,Vf,Vg,Vj,cf] at*);(try unfold cy at*);omega)),.len (VB (↑j:Int)+(Vt l - VB (WO.i64.wrap ((↑j:Int)+1)))) ((2147483648:Nat)) (by first|decide|omega|(simp;omega)),tC (v:=true) (@qW (VB (↑j:Int))),tC hb] (by kernel_rfl)).cast (by rfl) (by rfl)
theorem DA (l:List Mv) (OW:l.length≤64) (O0:∀p∈l,p.1≠p.2) (sc:Int) (outs:List D) (ho:outs.length≤200) (hp:0<l.length) (hj:fY l l 0=none) (f:Int) (hf:(dU l)[0*2+1]? =some (.int .i8 f)):ao Tryz.prog (aI Tryz.f47 1) ⟨[1],[],[(4,2),(6,2)]⟩ 3 ((D.undef)::(.int .i8 sc)::(D.undef)::(D.undef)::(.aj (.tok 3 0) 2 outs)::(D.undef)::(.bR 4 2 (Vt l))::(un 94)) [.dead,.dead,.dead,.bz 0 2,.box (dU l)] .norm ((D.undef)::(.int .i8 sc)::(D.undef)::(D.undef)::(.aj (.tok 3 0) 2 (outs++ [.agg [.int .i8 sc,.int .i8 f]]))::(D.undef)::(.bR 4 2 (Vt l))::(un 94)) ([.dead,.dead,.dead,.bz 0 2,.box (VG D.aJ (dU (VG (Ar sc f) l)))]):=by
 have c0:= @MU l OW sc f (outs++ [.agg [.int .i8 sc,.int .i8 f]])
 exact (ao.aw (sp:=⟨[1],[],[(4,2),(6,2)]⟩) (n0:=3) (ex:=Ex.norm) (t':=((D.undef)::(.int .i8 sc)::(D.undef)::(D.undef)::(.aj (.tok 3 0) 2 (outs++ [.agg [.int .i8 sc,.int .i8 f]]))::(D.undef)::(.bR 4 2 (Vt l))::(un 94))) (s':= [.dead,.dead,.dead,.bz 0 2,.box (VG D.aJ (dU (VG (Ar sc f) l)))]) mixed [tC (fb 0 (by ((try simp only [Vd,Vf,Vg,Vj,cf] at*);(try unfold cy at*);omega):(decide ((↑(Vt l):Int)<(1:Int)))=false)),.kB _ _ _ _ _ (@CV (l) OW O0 hj),tT,.cH (decide ((0:Int)≤(0:Int)∧(0:Int)<(↑(Vt l):Int))) true (by ((try simp only [Vd,Vf,Vg,Vj,cf] at*);(try unfold cy at*);omega)),.get _ _ _ hf,.len (Vt outs+(1:Nat)) ((2147483648:Nat)) (by first|decide|omega|(simp;omega)),.head ⟨[1,4,6,12,67,68],[3,1000004],[]⟩ _ _ _ _ _ _ _ c0,.cl (dU l) (by first|exact dn rfl|exact cm _|exact eQ PD PS),.cl (dU (VG (Ar sc f) l)) (by first|exact dn rfl|exact cm _|exact eQ PD PS)] (by kernel_rfl)).cast (by rfl) (by rfl)
theorem HD (sc:Int) (outs:List D):ao Tryz.prog (aI Tryz.f47 1) ⟨[],[],[(4,2)]⟩ 3 ((uu)::(.int .i8 sc)::(uu)::(uu)::(.aj (.tok 3 0) 2 outs)::(uu)::(.aj .tight 2 [])::(un 94)) [.dead,.dead,.dead,.bz 0 2] (.exit 3) (un 4++(.aj (.tok 3 0) 2 outs)::(un 96)) ([.dead,.dead,.dead,.bz 0 2]):=by
 exact (ao.aw (sp:=⟨[],[],[(4,2)]⟩) (n0:=3) (ex:=Ex.exit (3:Nat)) (t':=(un 4++(.aj (.tok 3 0) 2 outs)::(un 96))) (s':= [.dead,.dead,.dead,.bz 0 2]) mixed [tF] (by kernel_rfl)).cast (by rfl) (by rfl)
theorem vC (sc:Int):∀f,iH sc f []= []
 |0=>rfl
 |_+1=>rfl
theorem vy (p:Mv) (l:List Mv):eN (p::l)= .agg [.int .i8 p.1,.int .i8 p.2]::eN l:=rfl
abbrev Md (sc:Int) (outs:List D) (n:Nat):List D:=((.undef)::(.int .i8 sc)::(.undef)::(.undef)::(.aj (.tok 3 0) 2 outs)::(.undef)::(.bR 4 2 n)::(un 94))
abbrev Me (outs:List D):List D:=(un 4++(.aj (.tok 3 0) 2 outs)::(un 96))
abbrev Nr (l:List Mv):List Ob:= [.dead,.dead,.dead,.bz 0 2,.box (dU l)]
theorem DI (sc:Int):∀(f:Nat) (l:List Mv) (outs:List D),qM sc l→l≠ []→l.length+hP sc l≤f→l.length≤64→outs.length+f≤200→
  aF Tryz.prog (aI Tryz.f47 1) 3 (Md sc outs l.length) (Nr l) (.exit 3) (Me (outs++eN (iH sc f l))) [.dead,.dead,.dead,.bz 0 2]
 |0,l,outs,h,hn,hf,OW,ho=>by
  have:=List.length_pos_iff.2 hn
  omega
 |f+1,[],outs,h,hn,hf,OW,ho=>absurd rfl hn
 |f+1,p::r,outs,h,hn,hf,OW,ho=>by
  have O5:0<(p::r).length:=by simp
  have Ru:=fun k=>pq sc (p::r) k
  rw [iH]
  cases hj:fY (p::r) (p::r) 0 with
  |some j=>
   obtain ⟨j',q,rfl,hk,hq⟩:=pj _ _ _ _ hj
   rw [Nat.zero_add] at*
   obtain ⟨OK,PO⟩:=List.getElem?_eq_some_iff.1 hk
   have hA:=ku OK
   rw [PO] at hA
   have hw:WO.i64.wrap ((j':Int)+1)=((j'+1:Nat):Int):=tY (by omega)
   have hlen:((p::r).eraseIdx j').length+1=(p::r).length:=by rw [List.length_eraseIdx,if_pos OK];omega
   simp only []
   rw [List.getD_eq_getElem?_getD,hk,Option.getD_some,vy]
   by_cases h1:(p::r).length=1
   ·have hb:Nat.blt 0 (VB (j':Int)+((p::r).length - VB (WO.i64.wrap ((j':Int)+1))))=false:=by
     rw [hw,Ws,Ws,h1,show j'=0 by omega];rfl
    have:=FY (p::r) OW h.ne sc outs (by omega) O5 j' hj OK q.1 q.2 hA hb
    have e:(p::r).eraseIdx j'= []:=List.eq_nil_of_length_eq_zero (by omega)
    rw [e,vC]
    exact aF.cG this (aF.last (HD sc (outs++ [.agg [.int .i8 q.1,.int .i8 q.2]])) (fun h=>by cases h))
   ·have hb:Nat.blt 0 (VB (j':Int)+((p::r).length - VB (WO.i64.wrap ((j':Int)+1))))=true:=by
     rw [hw,Ws,Ws,Nat.blt_eq];omega
    have hF:=AZ (l:=p::r) (k:=j') (by omega)
    have hR:hH (dU (p::r)) (0+VB (WO.i64.wrap ((j':Int)+1))*2) (((p::r).length - VB (WO.i64.wrap ((j':Int)+1)))*2) (dU ((p::r).drop (j'+1))):=by
     rw [hw,Ws,Nat.zero_add]
     exact Dz (by omega) rfl
    have:=FX (p::r) OW h.ne sc outs (by omega) O5 j' hj OK q.1 q.2 hA _ _ (cm _) (cm _) hF hR hb
    have e:(p::r).eraseIdx j'=(p::r).take j'++(p::r).drop (j'+1):=List.eraseIdx_eq_take_drop_succ _ _
    have el:VB (j':Int)+((p::r).length - VB (WO.i64.wrap ((j':Int)+1)))=((p::r).eraseIdx j').length:=by rw [hw,Ws,Ws];omega
    rw [el,← sT,ca,← e] at this
    have SU:=Ru j'
    have ih:=DI sc f ((p::r).eraseIdx j') (outs++ [.agg [.int .i8 q.1,.int .i8 q.2]]) (h.erase j') (fun e=>h1 (by rw [← hlen,e];rfl)) (by omega) (by omega) (by rw [Vd,VX];omega)
    rw [Wa] at ih
    exact aF.cG this ih
  |none=>
   have Uf:=Ax sc (p::r) h.nd h.sc hj
   have hp:p.2≠sc:=Uf p (by simp)
   obtain ⟨o1,o2⟩:=vv sc p.2 hp (p::r)
   have o3:hP sc ((p::r).map (Ar sc p.2))<hP sc (p::r):=o2 ⟨p,by simp,rfl⟩
   simp only []
   rw [vy]
   have:=DA (p::r) OW h.ne sc outs (by omega) O5 hj p.2 rfl
   rw [ca] at this
   have ih:=DI sc f ((p::r).map (Ar sc p.2)) (outs++ [.agg [.int .i8 sc,.int .i8 p.2]]) (h.swap p.2) (by simp) (by rw [Vl];omega) (by rw [Vl];omega) (by rw [Vd,VX];omega)
   rw [Wa,Vl] at ih
   exact aF.cG this ih
abbrev Ip (l:List Mv):Nat:=2*l.length
theorem Jo (l:List Mv) (OW:l.length≤64) (sc:Int) (h:qM sc (cS l)) (hn:cS l≠ []):aU Tryz.prog 3 (.loop (aI Tryz.f47 1)) (Md sc [] (cS l).length) [.dead,.dead,.dead,.bz 0 2,.box (VG D.aJ (dU (cS l)))] (.exit 3) (Me (eN (iH sc (Ip l) (cS l)))) [.dead,.dead,.dead,.bz 0 2]:=by
 have hle:(cS l).length≤l.length:=List.length_filter_le _ _
 have ho:=sR sc (cS l)
 have:=DI sc (Ip l) (cS l) [] h hn (by unfold Ip;omega) (by omega) (by unfold Ip;simp;omega)
 rw [List.nil_append] at this
 rw [ca]
 exact aU.bA (by simp) this
theorem vB (l:List Mv) (OW:(eN l).length≤64) (SL:l.length≤64) (sc:Int) (hl:(eN l).length≤16) (h:lB l sc=true) (hn:cS l= []):aZ Tryz.prog 47 ([.aj .no 2 (eN l),.int .i8 sc]) (.aM [.aj .tight 0 [],.int .i64 0]):=by
 have c0:= @vH l SL sc
 have c1:= @KG l SL sc hn
 exact (L2 (d:= .aM [.aj .tight 0 [],.int .i64 0]) [tC (fb 16 (by ((try simp only [Vd,Vf,Vg,Vj,cf] at*);(try unfold cy at*);omega):(decide ((↑(Vt (eN l)):Int)<17))=true)),.ret _ _ _ c0,tC (nt h),.ot _ _ fM,.head ⟨[1,4,6,7,24,25,26],[1],[]⟩ _ _ _ _ _ _ _ c1,.go 64,tF] (by kernel_rfl)).to (by simp [wk,aB,aK])
theorem xH (l:List Mv) (OW:(eN l).length≤64) (SL:l.length≤64) (sc:Int) (hl:(eN l).length≤16) (h:lB l sc=true) (hk:qM sc (cS l)) (hn:cS l≠ []) (hp:0<(cS l).length):aZ Tryz.prog 47 ([.aj .no 2 (eN l),.int .i8 sc]) (.aM [.aj (.fresh 2) 2 (eN (iH sc (Ip l) (cS l))),.int .i64 0]):=by
 have c0:= @vH l SL sc
 have c1:= @KF l SL sc hn
 have c2:= @Jo l SL sc hk hn
 exact (L2 (d:= .aM [.aj (.fresh 2) 2 (eN (iH sc (Ip l) (cS l))),.int .i64 0]) [tC (fb 16 (by ((try simp only [Vd,Vf,Vg,Vj,cf] at*);(try unfold cy at*);omega):(decide ((↑(Vt (eN l)):Int)<17))=true)),.ret _ _ _ c0,tC (nt h),.ot _ _ fM,.head ⟨[1,4,6,7,24,25,26],[1],[]⟩ _ _ _ _ _ _ _ c1,.head ⟨[1],[],[(4,2),(6,2)]⟩ _ _ _ _ _ _ _ c2,.cl (dU (cS l)) (by first|exact dn rfl|exact cm _)] (by kernel_rfl)).to (by simp [wk,aB,aK])
end Go.Proofs.YtkpneibifdoecaaGreat
