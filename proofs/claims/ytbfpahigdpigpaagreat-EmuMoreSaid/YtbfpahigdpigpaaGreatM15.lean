import Derived.Test.YtbfpahigdpigpaaGreatM07
import Derived.Test.YtbfpahigdpigpaaGreatM09
import Derived.Test.YtbfpahigdpigpaaGreatM11
import Derived.Test.YtbfpahigdpigpaaGreatM14
/- Contracts and plain laws that a statement's proof leans on (texts merged:EM5,EM6,MdEn,EM7,EM8,EM9,EM9B,EM0,EM9C,EM9D,EM10). -/
set_option linter.unusedVariables false
set_option linter.unusedSimpArgs false
set_option maxRecDepth 100000
set_option maxHeartbeats 8000000
namespace Go.Proofs.YtbfpahigdpigpaaGreat
open Go Go.Ev
theorem Ge (cc cx fr st an tr:List D) (m:ao) (left en:Int) (nc nx:Nat) (hcc:∀c∈cc,c.clean=true) (hcx:∀c∈cx,c.clean=true) (hfr:∀c∈fr,c.clean=true) (hst:∀c∈st,c.clean=true) (h:left≤0):bF Tryz.prog (eJ Tryz.f45 0) ⟨[],[0,1,11,12,14,15,1000004,1000007,1000008,1000009],[(1011024,3)]⟩ 16 [D.iq 15,.ptr false 12 0,D.undef,.ptr false 14 0,D.undef,D.undef,D.undef,D.undef,D.undef,D.undef,D.undef,D.undef,D.undef,D.undef,D.undef,D.undef,D.undef,D.undef,D.undef,D.undef,D.undef,D.undef,D.undef,D.undef,D.undef,D.undef,D.undef,D.undef,D.undef,D.undef,D.undef,D.undef,D.undef,D.undef,D.undef] [.box [.int .i8 0,.int .u64 0,.aj .tight 0 [],.aj .tight 0 [],.int .i64 left],.box (fX nc nx),.dead,.dead,.box cc,.dead,.dead,.box cx,.box fr,.box st,.dead,.box (uC m an tr 0 en),.box [.ptr false 11 0],.dead,.box [.ptr false 0 4],Ob.lp Lk.ready (List.replicate 56 D.undef) #[27,28] (dq Tryz.f10 0) (dp Tryz.f10 0),Ob.bX 0 3] (Ex.exit 0) [D.undef,D.undef,D.undef,D.undef,D.undef,D.undef,D.undef,D.undef,D.undef,D.undef,D.undef,D.undef,D.undef,D.undef,D.undef,D.undef,D.undef,D.undef,D.undef,D.undef,D.undef,D.undef,D.undef,D.undef,D.undef,D.undef,D.undef,D.undef,D.undef,D.undef,D.undef,D.undef,D.undef,D.undef,D.undef] ([.box [.int .i8 0,.int .u64 0,.aj .tight 0 [],.aj .tight 0 [],.int .i64 left],.box (mE nc nx),.dead,.dead,.box (List.map D.aX cc),.dead,.dead,.box (List.map D.aX cx),.box (List.map D.aX fr),.box (List.map D.aX st),.dead,.box (uC m an tr 0 en),.box [.ptr false 11 0],.dead,.box [.ptr false 0 4],Ob.lp Lk.ready [D.undef,D.undef,D.undef,D.undef,D.undef,D.undef,D.undef,D.undef,D.undef,D.undef,D.undef,D.undef,D.undef,D.undef,D.undef,D.undef,D.undef,D.undef,D.undef,D.undef,D.undef,D.undef,D.undef,D.undef,D.undef,D.undef,D.undef,D.undef,D.undef,D.undef,D.undef,D.undef,D.undef,D.undef,D.undef,D.undef,D.undef,D.undef,D.undef,D.undef,D.undef,D.undef,D.undef,D.undef,D.undef,D.undef,D.undef,D.undef,D.undef,D.undef,D.undef,D.undef,D.undef,D.undef,D.undef,D.undef] #[27,28] (dq Tryz.f10 0) (dp Tryz.f10 0),Ob.bX 0 3]):=by
 exact bF.ae mixed [tC (a7 0 (decide_eq_true (Int.lt_add_one_of_le h))),.cl (cc) (by first|exact eD rfl|exact hcc|exact hcx|exact hfr|exact hst|exact hcx2|exact hfr2|exact hst2),.cl (cx) (by first|exact eD rfl|exact hcc|exact hcx|exact hfr|exact hst|exact hcx2|exact hfr2|exact hst2),.cl (fr) (by first|exact eD rfl|exact hcc|exact hcx|exact hfr|exact hst|exact hcx2|exact hfr2|exact hst2),.cl (st) (by first|exact eD rfl|exact hcc|exact hcx|exact hfr|exact hst|exact hcx2|exact hfr2|exact hst2)] (by kernel_rfl)
theorem Gd (cc cx fr st an tr:List D) (m:ao) (left en:Int) (nc nx:Nat) (hcc:∀c∈cc,c.clean=true) (hcx:∀c∈cx,c.clean=true) (hfr:∀c∈fr,c.clean=true) (hst:∀c∈st,c.clean=true) (cx2 fr2 st2 an2 tr2:List D) (m2:ao) (en2:Int) (dd:List Ob) (hcx2:∀c∈cx2,c.clean=true) (hfr2:∀c∈fr2,c.clean=true) (hst2:∀c∈st2,c.clean=true) (h:0<left) (hs:ai Tryz.prog 47 [.ptr false 11 0] (.box [.int .i8 0,.int .u64 0,.aj .tight 0 [],.aj .tight 0 [],.int .i64 (IntKind.i64.wrap (left - 1))]:: .box (fX nc nx):: .dead:: .dead:: .box cc:: .dead:: .dead:: .box cx:: .box fr:: .box st:: .dead:: .box (uC m an tr 0 en):: .box [.ptr false 11 0]:: .dead:: .box [.ptr false 0 4]:: .lp .ready (List.replicate 56 .undef) #[27,28] (dq Tryz.f10 0) (dp Tryz.f10 0):: .bX 0 3:: []) (.bool true) (.box [.int .i8 0,.int .u64 0,.aj .tight 0 [],.aj .tight 0 [],.int .i64 (IntKind.i64.wrap (left - 1))]:: .box (fX nc nx):: .dead:: .dead:: .box cc:: .dead:: .dead:: .box cx2:: .box fr2:: .box st2:: .dead:: .box (uC m2 an2 tr2 0 en2):: .box [.ptr false 11 0]:: .dead:: .box [.ptr false 0 4]:: .lp .ready (List.replicate 56 .undef) #[27,28] (dq Tryz.f10 0) (dp Tryz.f10 0):: .bX 0 3::dd)):bF Tryz.prog (eJ Tryz.f45 0) ⟨[0,1,3],[0,1,11,12,14,15,1000004,1000007,1000008,1000009],[(1011024,3)]⟩ 16 [D.iq 15,.ptr false 12 0,D.undef,.ptr false 14 0,D.undef,D.undef,D.undef,D.undef,D.undef,D.undef,D.undef,D.undef,D.undef,D.undef,D.undef,D.undef,D.undef,D.undef,D.undef,D.undef,D.undef,D.undef,D.undef,D.undef,D.undef,D.undef,D.undef,D.undef,D.undef,D.undef,D.undef,D.undef,D.undef,D.undef,D.undef] [.box [.int .i8 0,.int .u64 0,.aj .tight 0 [],.aj .tight 0 [],.int .i64 left],.box (fX nc nx),.dead,.dead,.box cc,.dead,.dead,.box cx,.box fr,.box st,.dead,.box (uC m an tr 0 en),.box [.ptr false 11 0],.dead,.box [.ptr false 0 4],Ob.lp Lk.ready (List.replicate 56 D.undef) #[27,28] (dq Tryz.f10 0) (dp Tryz.f10 0),Ob.bX 0 3] .norm [D.iq 15,.ptr false 12 0,D.undef,.ptr false 14 0,D.undef,D.undef,D.undef,D.undef,D.undef,D.undef,D.undef,D.undef,D.undef,D.undef,D.undef,D.undef,D.undef,D.undef,D.undef,D.undef,D.undef,D.undef,D.undef,D.undef,D.undef,D.undef,D.undef,D.undef,D.undef,D.undef,D.undef,D.undef,D.undef,D.undef,D.undef] ([.box [.int .i8 0,.int .u64 0,.aj .tight 0 [],.aj .tight 0 [],.int .i64 (IntKind.i64.wrap (left - 1))],.box (mE nc nx),.dead,.dead,.box (List.map D.aX cc),.dead,.dead,.box (List.map D.aX cx2),.box (List.map D.aX fr2),.box (List.map D.aX st2),.dead,.box (uC m2 an2 tr2 0 en2),.box [.ptr false 11 0],.dead,.box [.ptr false 0 4],Ob.lp Lk.ready [D.undef,D.undef,D.undef,D.undef,D.undef,D.undef,D.undef,D.undef,D.undef,D.undef,D.undef,D.undef,D.undef,D.undef,D.undef,D.undef,D.undef,D.undef,D.undef,D.undef,D.undef,D.undef,D.undef,D.undef,D.undef,D.undef,D.undef,D.undef,D.undef,D.undef,D.undef,D.undef,D.undef,D.undef,D.undef,D.undef,D.undef,D.undef,D.undef,D.undef,D.undef,D.undef,D.undef,D.undef,D.undef,D.undef,D.undef,D.undef,D.undef,D.undef,D.undef,D.undef,D.undef,D.undef,D.undef,D.undef] #[27,28] (dq Tryz.f10 0) (dp Tryz.f10 0),Ob.bX 0 3]):=by
 exact bF.ae mixed [tC (a7 0 (decide_eq_false (by omega:¬left<1))),.aC _ _ _ _ _ (@wy (.box [.int .i8 0,.int .u64 0,.aj .tight 0 [],.aj .tight 0 [],.int .i64 left]) (.box [.ptr false 11 0]) (.dead) (.box [.ptr false 0 4]) (Ob.lp Lk.ready [D.undef,D.undef,D.undef,D.undef,D.undef,D.undef,D.undef,D.undef,D.undef,D.undef,D.undef,D.undef,D.undef,D.undef,D.undef,D.undef,D.undef,D.undef,D.undef,D.undef,D.undef,D.undef,D.undef,D.undef,D.undef,D.undef,D.undef,D.undef,D.undef,D.undef,D.undef,D.undef,D.undef,D.undef,D.undef,D.undef,D.undef,D.undef,D.undef,D.undef,D.undef,D.undef,D.undef,D.undef,D.undef,D.undef,D.undef,D.undef,D.undef,D.undef,D.undef,D.undef,D.undef,D.undef,D.undef,D.undef] #[27,28] (dq Tryz.f10 0) (dp Tryz.f10 0)) (cc) (cx) (fr) (st) (an) (tr) (m) (en) (nc) (nx)),.aB [(0,.box [.int .i8 0,.int .u64 0,.aj .tight 0 [],.aj .tight 0 [],.int .i64 left]),(1,.box (mE nc nx)),(4,.box cc),(7,.box cx),(8,.box fr),(9,.box st),(11,.box (uC m an tr 0 en)),(12,.box [.ptr false 11 0]),(14,.box [.ptr false 0 4]),(15,Ob.lp Lk.ready [D.undef,D.undef,D.undef,D.undef,D.undef,D.undef,D.undef,D.undef,D.undef,D.undef,D.undef,D.undef,D.undef,D.undef,D.undef,D.undef,D.undef,D.undef,D.undef,D.undef,D.undef,D.undef,D.undef,D.undef,D.undef,D.undef,D.undef,D.undef,D.undef,D.undef,D.undef,D.undef,D.undef,D.undef,D.undef,D.undef,D.undef,D.undef,D.undef,D.undef,D.undef,D.undef,D.undef,D.undef,D.undef,D.undef,D.undef,D.undef,D.undef,D.undef,D.undef,D.undef,D.undef,D.undef,D.undef,D.undef] #[27,28] (dq Tryz.f10 0) (dp Tryz.f10 0)),(16,Ob.bX 0 3)],.inl,tF,.aC _ _ _ _ _ (@p9 ([.ptr false 11 0]) ([.box [.int .i8 0,.int .u64 0,.aj .tight 0 [],.aj .tight 0 [],.int .i64 (IntKind.i64.wrap (left - 1))],.box (mE nc nx),.dead,.dead,.box cc,.dead,.dead,.box cx,.box fr,.box st,.dead,.box (uC m an tr 0 en),.box [.ptr false 11 0],.dead,.box [.ptr false 0 4],Ob.lp Lk.ready [D.undef,D.undef,D.undef,D.undef,D.undef,D.undef,D.undef,D.undef,D.undef,D.undef,D.undef,D.undef,D.undef,D.undef,D.undef,D.undef,D.undef,D.undef,D.undef,D.undef,D.undef,D.undef,D.undef,D.undef,D.undef,D.undef,D.undef,D.undef,D.undef,D.undef,D.undef,D.undef,D.undef,D.undef,D.undef,D.undef,D.undef,D.undef,D.undef,D.undef,D.undef,D.undef,D.undef,D.undef,D.undef,D.undef,D.undef,D.undef,D.undef,D.undef,D.undef,D.undef,D.undef,D.undef,D.undef,D.undef] #[27,28] (dq Tryz.f10 0) (dp Tryz.f10 0),Ob.bX 0 3]) _ _ hs),tF,.cl (cc) (by first|exact eD rfl|exact hcc|exact hcx|exact hfr|exact hst|exact hcx2|exact hfr2|exact hst2),.cl (cx2) (by first|exact eD rfl|exact hcc|exact hcx|exact hfr|exact hst|exact hcx2|exact hfr2|exact hst2),.cl (fr2) (by first|exact eD rfl|exact hcc|exact hcx|exact hfr|exact hst|exact hcx2|exact hfr2|exact hst2),.cl (st2) (by first|exact eD rfl|exact hcc|exact hcx|exact hfr|exact hst|exact hcx2|exact hfr2|exact hst2)] (by kernel_rfl)
theorem Gc (cc cx fr st an tr:List D) (m:ao) (left en:Int) (nc nx:Nat) (hcc:∀c∈cc,c.clean=true) (hcx:∀c∈cx,c.clean=true) (hfr:∀c∈fr,c.clean=true) (hst:∀c∈st,c.clean=true) (cx2 fr2 st2 an2 tr2:List D) (m2:ao) (en2:Int) (dd:List Ob) (hcx2:∀c∈cx2,c.clean=true) (hfr2:∀c∈fr2,c.clean=true) (hst2:∀c∈st2,c.clean=true) (h:0<left) (hs:ai Tryz.prog 47 [.ptr false 11 0] (.box [.int .i8 0,.int .u64 0,.aj .tight 0 [],.aj .tight 0 [],.int .i64 (IntKind.i64.wrap (left - 1))]:: .box (fX nc nx):: .dead:: .dead:: .box cc:: .dead:: .dead:: .box cx:: .box fr:: .box st:: .dead:: .box (uC m an tr 0 en):: .box [.ptr false 11 0]:: .dead:: .box [.ptr false 0 4]:: .lp .ready (List.replicate 56 .undef) #[27,28] (dq Tryz.f10 0) (dp Tryz.f10 0):: .bX 0 3:: []) (.bool true) (.box [.int .i8 0,.int .u64 0,.aj .tight 0 [],.aj .tight 0 [],.int .i64 (IntKind.i64.wrap (left - 1))]:: .box (fX nc nx):: .dead:: .dead:: .box cc:: .dead:: .dead:: .box cx2:: .box fr2:: .box st2:: .dead:: .box (uC m2 an2 tr2 1 en2):: .box [.ptr false 11 0]:: .dead:: .box [.ptr false 0 4]:: .lp .ready (List.replicate 56 .undef) #[27,28] (dq Tryz.f10 0) (dp Tryz.f10 0):: .bX 1 3::dd)):bF Tryz.prog (eJ Tryz.f45 0) ⟨[0,1,3],[0,1,11,12,14,15,1000004,1000007,1000008,1000009],[(1011024,3)]⟩ 16 [D.iq 15,.ptr false 12 0,D.undef,.ptr false 14 0,D.undef,D.undef,D.undef,D.undef,D.undef,D.undef,D.undef,D.undef,D.undef,D.undef,D.undef,D.undef,D.undef,D.undef,D.undef,D.undef,D.undef,D.undef,D.undef,D.undef,D.undef,D.undef,D.undef,D.undef,D.undef,D.undef,D.undef,D.undef,D.undef,D.undef,D.undef] [.box [.int .i8 0,.int .u64 0,.aj .tight 0 [],.aj .tight 0 [],.int .i64 left],.box (fX nc nx),.dead,.dead,.box cc,.dead,.dead,.box cx,.box fr,.box st,.dead,.box (uC m an tr 0 en),.box [.ptr false 11 0],.dead,.box [.ptr false 0 4],Ob.lp Lk.ready (List.replicate 56 D.undef) #[27,28] (dq Tryz.f10 0) (dp Tryz.f10 0),Ob.bX 0 3] .norm [D.iq 15,.ptr false 12 0,D.undef,.ptr false 14 0,D.undef,D.undef,D.undef,D.undef,D.undef,D.undef,D.undef,D.undef,D.undef,D.undef,D.undef,D.undef,D.undef,D.undef,D.undef,D.undef,D.undef,D.undef,D.undef,D.undef,D.undef,D.undef,D.undef,D.undef,D.undef,D.undef,D.undef,D.undef,D.undef,D.undef,D.undef] ([.box [.int .i8 0,.int .u64 0,.aj .tight 0 [],.aj .tight 0 [],.int .i64 (IntKind.i64.wrap (left - 1))],.box (mE nc nx),.dead,.dead,.box (List.map D.aX cc),.dead,.dead,.box (List.map D.aX cx2),.box (List.map D.aX fr2),.box (List.map D.aX st2),.dead,.box (uC m2 an2 tr2 0 en2),.box [.ptr false 11 0],.dead,.box [.ptr false 0 4],Ob.lp Lk.ready [D.undef,D.undef,D.undef,D.undef,D.undef,D.undef,D.undef,D.undef,D.undef,D.undef,D.undef,D.undef,D.undef,D.undef,D.undef,D.undef,D.undef,D.undef,D.undef,D.undef,D.undef,D.undef,D.undef,D.undef,D.undef,D.undef,D.undef,D.undef,D.undef,D.undef,D.undef,D.undef,D.undef,D.undef,D.undef,D.undef,D.undef,D.undef,D.undef,D.undef,D.undef,D.undef,D.undef,D.undef,D.undef,D.undef,D.undef,D.undef,D.undef,D.undef,D.undef,D.undef,D.undef,D.undef,D.undef,D.undef] #[27,28] (dq Tryz.f10 0) (dp Tryz.f10 0),Ob.bX 0 3]):=by
 exact bF.ae mixed [tC (a7 0 (decide_eq_false (by omega:¬left<1))),.aC _ _ _ _ _ (@wy (.box [.int .i8 0,.int .u64 0,.aj .tight 0 [],.aj .tight 0 [],.int .i64 left]) (.box [.ptr false 11 0]) (.dead) (.box [.ptr false 0 4]) (Ob.lp Lk.ready [D.undef,D.undef,D.undef,D.undef,D.undef,D.undef,D.undef,D.undef,D.undef,D.undef,D.undef,D.undef,D.undef,D.undef,D.undef,D.undef,D.undef,D.undef,D.undef,D.undef,D.undef,D.undef,D.undef,D.undef,D.undef,D.undef,D.undef,D.undef,D.undef,D.undef,D.undef,D.undef,D.undef,D.undef,D.undef,D.undef,D.undef,D.undef,D.undef,D.undef,D.undef,D.undef,D.undef,D.undef,D.undef,D.undef,D.undef,D.undef,D.undef,D.undef,D.undef,D.undef,D.undef,D.undef,D.undef,D.undef] #[27,28] (dq Tryz.f10 0) (dp Tryz.f10 0)) (cc) (cx) (fr) (st) (an) (tr) (m) (en) (nc) (nx)),.aB [(0,.box [.int .i8 0,.int .u64 0,.aj .tight 0 [],.aj .tight 0 [],.int .i64 left]),(1,.box (mE nc nx)),(4,.box cc),(7,.box cx),(8,.box fr),(9,.box st),(11,.box (uC m an tr 0 en)),(12,.box [.ptr false 11 0]),(14,.box [.ptr false 0 4]),(15,Ob.lp Lk.ready [D.undef,D.undef,D.undef,D.undef,D.undef,D.undef,D.undef,D.undef,D.undef,D.undef,D.undef,D.undef,D.undef,D.undef,D.undef,D.undef,D.undef,D.undef,D.undef,D.undef,D.undef,D.undef,D.undef,D.undef,D.undef,D.undef,D.undef,D.undef,D.undef,D.undef,D.undef,D.undef,D.undef,D.undef,D.undef,D.undef,D.undef,D.undef,D.undef,D.undef,D.undef,D.undef,D.undef,D.undef,D.undef,D.undef,D.undef,D.undef,D.undef,D.undef,D.undef,D.undef,D.undef,D.undef,D.undef,D.undef] #[27,28] (dq Tryz.f10 0) (dp Tryz.f10 0)),(16,Ob.bX 0 3)],.inl,tF,.aC _ _ _ _ _ (@p9 ([.ptr false 11 0]) ([.box [.int .i8 0,.int .u64 0,.aj .tight 0 [],.aj .tight 0 [],.int .i64 (IntKind.i64.wrap (left - 1))],.box (mE nc nx),.dead,.dead,.box cc,.dead,.dead,.box cx,.box fr,.box st,.dead,.box (uC m an tr 0 en),.box [.ptr false 11 0],.dead,.box [.ptr false 0 4],Ob.lp Lk.ready [D.undef,D.undef,D.undef,D.undef,D.undef,D.undef,D.undef,D.undef,D.undef,D.undef,D.undef,D.undef,D.undef,D.undef,D.undef,D.undef,D.undef,D.undef,D.undef,D.undef,D.undef,D.undef,D.undef,D.undef,D.undef,D.undef,D.undef,D.undef,D.undef,D.undef,D.undef,D.undef,D.undef,D.undef,D.undef,D.undef,D.undef,D.undef,D.undef,D.undef,D.undef,D.undef,D.undef,D.undef,D.undef,D.undef,D.undef,D.undef,D.undef,D.undef,D.undef,D.undef,D.undef,D.undef,D.undef,D.undef] #[27,28] (dq Tryz.f10 0) (dp Tryz.f10 0),Ob.bX 0 3]) _ _ hs),tF,.cl (cc) (by first|exact eD rfl|exact hcc|exact hcx|exact hfr|exact hst|exact hcx2|exact hfr2|exact hst2),.cl (cx2) (by first|exact eD rfl|exact hcc|exact hcx|exact hfr|exact hst|exact hcx2|exact hfr2|exact hst2),.cl (fr2) (by first|exact eD rfl|exact hcc|exact hcx|exact hfr|exact hst|exact hcx2|exact hfr2|exact hst2),.cl (st2) (by first|exact eD rfl|exact hcc|exact hcx|exact hfr|exact hst|exact hcx2|exact hfr2|exact hst2)] (by kernel_rfl)
theorem G6 (cc cx fr st an tr:List D) (m:ao) (left en:Int) (nc nx:Nat) (hcc:∀c∈cc,c.clean=true) (hcx:∀c∈cx,c.clean=true) (hfr:∀c∈fr,c.clean=true) (hst:∀c∈st,c.clean=true) (cx2 fr2 st2 an2 tr2:List D) (m2:ao) (en2:Int) (dd:List Ob) (hcx2:∀c∈cx2,c.clean=true) (hfr2:∀c∈fr2,c.clean=true) (hst2:∀c∈st2,c.clean=true) (h:0<left) (hs:ai Tryz.prog 47 [.ptr false 11 0] (.box [.int .i8 0,.int .u64 0,.aj .tight 0 [],.aj .tight 0 [],.int .i64 (IntKind.i64.wrap (left - 1))]:: .box (fX nc nx):: .dead:: .dead:: .box cc:: .dead:: .dead:: .box cx:: .box fr:: .box st:: .dead:: .box (uC m an tr 0 en):: .box [.ptr false 11 0]:: .dead:: .box [.ptr false 0 4]:: .lp .ready (List.replicate 56 .undef) #[27,28] (dq Tryz.f10 0) (dp Tryz.f10 0):: .bX 0 3:: []) (.bool false) (.box [.int .i8 0,.int .u64 0,.aj .tight 0 [],.aj .tight 0 [],.int .i64 (IntKind.i64.wrap (left - 1))]:: .box (fX nc nx):: .dead:: .dead:: .box cc:: .dead:: .dead:: .box cx2:: .box fr2:: .box st2:: .dead:: .box (uC m2 an2 tr2 0 en2):: .box [.ptr false 11 0]:: .dead:: .box [.ptr false 0 4]:: .lp .ready (List.replicate 56 .undef) #[27,28] (dq Tryz.f10 0) (dp Tryz.f10 0):: .bX 0 3::dd)):bF Tryz.prog (eJ Tryz.f45 0) ⟨[],[0,1,11,12,14,15,1000004,1000007,1000008,1000009],[(1011024,3)]⟩ 16 [D.iq 15,.ptr false 12 0,D.undef,.ptr false 14 0,D.undef,D.undef,D.undef,D.undef,D.undef,D.undef,D.undef,D.undef,D.undef,D.undef,D.undef,D.undef,D.undef,D.undef,D.undef,D.undef,D.undef,D.undef,D.undef,D.undef,D.undef,D.undef,D.undef,D.undef,D.undef,D.undef,D.undef,D.undef,D.undef,D.undef,D.undef] [.box [.int .i8 0,.int .u64 0,.aj .tight 0 [],.aj .tight 0 [],.int .i64 left],.box (fX nc nx),.dead,.dead,.box cc,.dead,.dead,.box cx,.box fr,.box st,.dead,.box (uC m an tr 0 en),.box [.ptr false 11 0],.dead,.box [.ptr false 0 4],Ob.lp Lk.ready (List.replicate 56 D.undef) #[27,28] (dq Tryz.f10 0) (dp Tryz.f10 0),Ob.bX 0 3] (Ex.ret) [D.undef,D.undef,D.undef,D.undef,D.undef,D.undef,D.undef,D.undef,D.undef,D.undef,D.undef,D.undef,D.undef,D.undef,D.undef,D.undef,D.undef,D.undef,D.undef,D.undef,D.undef,D.undef,D.undef,D.undef,D.undef,D.undef,D.undef,D.undef,D.undef,D.undef,D.undef,D.undef,D.undef,D.undef,D.undef] ([.box [.int .i8 0,.int .u64 0,.aj .tight 0 [],.aj .tight 0 [],.int .i64 (IntKind.i64.wrap (left - 1))],.box (mE nc nx),.dead,.dead,.box (List.map D.aX cc),.dead,.dead,.box (List.map D.aX cx2),.box (List.map D.aX fr2),.box (List.map D.aX st2),.dead,.box (uC m2 an2 tr2 0 en2),.box [.ptr false 11 0],.dead,.box [.ptr false 0 4],Ob.lp Lk.ready [D.undef,D.undef,D.undef,D.undef,D.undef,D.undef,D.undef,D.undef,D.undef,D.undef,D.undef,D.undef,D.undef,D.undef,D.undef,D.undef,D.undef,D.undef,D.undef,D.undef,D.undef,D.undef,D.undef,D.undef,D.undef,D.undef,D.undef,D.undef,D.undef,D.undef,D.undef,D.undef,D.undef,D.undef,D.undef,D.undef,D.undef,D.undef,D.undef,D.undef,D.undef,D.undef,D.undef,D.undef,D.undef,D.undef,D.undef,D.undef,D.undef,D.undef,D.undef,D.undef,D.undef,D.undef,D.undef,D.undef] #[27,28] (dq Tryz.f10 0) (dp Tryz.f10 0),Ob.bX 0 3]):=by
 exact bF.ae mixed [tC (a7 0 (decide_eq_false (by omega:¬left<1))),.aC _ _ _ _ _ (@wy (.box [.int .i8 0,.int .u64 0,.aj .tight 0 [],.aj .tight 0 [],.int .i64 left]) (.box [.ptr false 11 0]) (.dead) (.box [.ptr false 0 4]) (Ob.lp Lk.ready [D.undef,D.undef,D.undef,D.undef,D.undef,D.undef,D.undef,D.undef,D.undef,D.undef,D.undef,D.undef,D.undef,D.undef,D.undef,D.undef,D.undef,D.undef,D.undef,D.undef,D.undef,D.undef,D.undef,D.undef,D.undef,D.undef,D.undef,D.undef,D.undef,D.undef,D.undef,D.undef,D.undef,D.undef,D.undef,D.undef,D.undef,D.undef,D.undef,D.undef,D.undef,D.undef,D.undef,D.undef,D.undef,D.undef,D.undef,D.undef,D.undef,D.undef,D.undef,D.undef,D.undef,D.undef,D.undef,D.undef] #[27,28] (dq Tryz.f10 0) (dp Tryz.f10 0)) (cc) (cx) (fr) (st) (an) (tr) (m) (en) (nc) (nx)),.aB [(0,.box [.int .i8 0,.int .u64 0,.aj .tight 0 [],.aj .tight 0 [],.int .i64 left]),(1,.box (mE nc nx)),(4,.box cc),(7,.box cx),(8,.box fr),(9,.box st),(11,.box (uC m an tr 0 en)),(12,.box [.ptr false 11 0]),(14,.box [.ptr false 0 4]),(15,Ob.lp Lk.ready [D.undef,D.undef,D.undef,D.undef,D.undef,D.undef,D.undef,D.undef,D.undef,D.undef,D.undef,D.undef,D.undef,D.undef,D.undef,D.undef,D.undef,D.undef,D.undef,D.undef,D.undef,D.undef,D.undef,D.undef,D.undef,D.undef,D.undef,D.undef,D.undef,D.undef,D.undef,D.undef,D.undef,D.undef,D.undef,D.undef,D.undef,D.undef,D.undef,D.undef,D.undef,D.undef,D.undef,D.undef,D.undef,D.undef,D.undef,D.undef,D.undef,D.undef,D.undef,D.undef,D.undef,D.undef,D.undef,D.undef] #[27,28] (dq Tryz.f10 0) (dp Tryz.f10 0)),(16,Ob.bX 0 3)],.inl,tF,.aC _ _ _ _ _ (@p9 ([.ptr false 11 0]) ([.box [.int .i8 0,.int .u64 0,.aj .tight 0 [],.aj .tight 0 [],.int .i64 (IntKind.i64.wrap (left - 1))],.box (mE nc nx),.dead,.dead,.box cc,.dead,.dead,.box cx,.box fr,.box st,.dead,.box (uC m an tr 0 en),.box [.ptr false 11 0],.dead,.box [.ptr false 0 4],Ob.lp Lk.ready [D.undef,D.undef,D.undef,D.undef,D.undef,D.undef,D.undef,D.undef,D.undef,D.undef,D.undef,D.undef,D.undef,D.undef,D.undef,D.undef,D.undef,D.undef,D.undef,D.undef,D.undef,D.undef,D.undef,D.undef,D.undef,D.undef,D.undef,D.undef,D.undef,D.undef,D.undef,D.undef,D.undef,D.undef,D.undef,D.undef,D.undef,D.undef,D.undef,D.undef,D.undef,D.undef,D.undef,D.undef,D.undef,D.undef,D.undef,D.undef,D.undef,D.undef,D.undef,D.undef,D.undef,D.undef,D.undef,D.undef] #[27,28] (dq Tryz.f10 0) (dp Tryz.f10 0),Ob.bX 0 3]) _ _ hs),tT,.cl (cc) (by first|exact eD rfl|exact hcc|exact hcx|exact hfr|exact hst|exact hcx2|exact hfr2|exact hst2),.cl (cx2) (by first|exact eD rfl|exact hcc|exact hcx|exact hfr|exact hst|exact hcx2|exact hfr2|exact hst2),.cl (fr2) (by first|exact eD rfl|exact hcc|exact hcx|exact hfr|exact hst|exact hcx2|exact hfr2|exact hst2),.cl (st2) (by first|exact eD rfl|exact hcc|exact hcx|exact hfr|exact hst|exact hcx2|exact hfr2|exact hst2)] (by kernel_rfl)
theorem Be (m:ao) (w dst src base aa af cnd:Int) (d0:0≤dst) (d1:dst≤15) (s0:0≤src) (s1:src≤15) (b0:0≤base) (b1:base≤15) (w0:0≤w) (w1:w≤64) (hm:cg 26 w dst src base aa af cnd=true):aE Tryz.prog 111 ([.agg (hQ m),xD 26 w dst src base aa af cnd]) (.aA [.int .u64 (u64 (rg m.rl base+u64 aa)),.int .i64 (w / 8),.bool true]):=by
 have c0:= @aJ (26) (w) (dst) (src) (base) (aa) (af) (cnd) (by first|rfl|decide)
 exact (aE.ae (d:= .aA [.int .u64 (IntKind.u64.wrap (rg m.rl base+IntKind.u64.wrap aa)),.int .i64 (IntKind.i64.wrap (Int.fdiv w 8)),.bool true]) mixed Tryz.func111 (by kernel_rfl) [.ret _ _ _ c0,tC (nt hm),tF,tT,tT,.cU (decide (0≤base∧base<(↑(16:Nat):Int))) true (by ((try simp only [ke,dt,ct,eM,decide_eq_true_eq,decide_eq_false_iff_not,beq_iff_eq,bne_iff_ne,beq_eq_false_iff_ne,bne_eq_false_iff_eq,Bool.not_eq_true',Bool.not_eq_false',Bool.and_eq_true,Bool.or_eq_true] at*);omega)),.get _ _ _ (@bz (m) (base) ([.bool m.fk,.bool m.fc,.bool m.fz,.bool m.fs,.bool m.fo,.int .u64 m.pc]) b0 b1)] (by kernel_rfl)).to (by simp only [wk,aw,and_true,D.int.injEq,true_and];refine ⟨rfl,?_⟩;first|rfl|(rw [ct,H7];omega)|(rw [show IntKind.i64.wrap w=w by rw [ct];omega,Int.tdiv_eq_ediv_of_nonneg w0,ct];omega))
theorem Bd (m:ao) (w dst src base aa af cnd:Int) (d0:0≤dst) (d1:dst≤15) (s0:0≤src) (s1:src≤15) (b0:0≤base) (b1:base≤15) (w0:0≤w) (w1:w≤64) (hm:cg 27 w dst src base aa af cnd=true):aE Tryz.prog 111 ([.agg (hQ m),xD 27 w dst src base aa af cnd]) (.aA [.int .u64 (u64 (rg m.rl base+u64 aa)),.int .i64 (w / 8),.bool true]):=by
 have c0:= @aJ (27) (w) (dst) (src) (base) (aa) (af) (cnd) (by first|rfl|decide)
 exact (aE.ae (d:= .aA [.int .u64 (IntKind.u64.wrap (rg m.rl base+IntKind.u64.wrap aa)),.int .i64 (IntKind.i64.wrap (Int.fdiv w 8)),.bool true]) mixed Tryz.func111 (by kernel_rfl) [.ret _ _ _ c0,tC (nt hm),tF,tF,tT,.cU (decide (0≤base∧base<(↑(16:Nat):Int))) true (by ((try simp only [ke,dt,ct,eM,decide_eq_true_eq,decide_eq_false_iff_not,beq_iff_eq,bne_iff_ne,beq_eq_false_iff_ne,bne_eq_false_iff_eq,Bool.not_eq_true',Bool.not_eq_false',Bool.and_eq_true,Bool.or_eq_true] at*);omega)),.get _ _ _ (@bz (m) (base) ([.bool m.fk,.bool m.fc,.bool m.fz,.bool m.fs,.bool m.fo,.int .u64 m.pc]) b0 b1)] (by kernel_rfl)).to (by simp only [wk,aw,and_true,D.int.injEq,true_and];refine ⟨rfl,?_⟩;first|rfl|(rw [ct,H7];omega)|(rw [show IntKind.i64.wrap w=w by rw [ct];omega,Int.tdiv_eq_ediv_of_nonneg w0,ct];omega))
theorem Bc (m:ao) (w dst src base aa af cnd:Int) (d0:0≤dst) (d1:dst≤15) (s0:0≤src) (s1:src≤15) (b0:0≤base) (b1:base≤15) (hm:cg 30 w dst src base aa af cnd=true):aE Tryz.prog 111 ([.agg (hQ m),xD 30 w dst src base aa af cnd]) (.aA [.int .u64 m.q4,.int .i64 8,.bool true]):=by
 have c0:= @aJ (30) (w) (dst) (src) (base) (aa) (af) (cnd) (by first|rfl|decide)
 exact (aE.ae (d:= .aA [.int .u64 m.q4,.int .i64 8,.bool true]) mixed Tryz.func111 (by kernel_rfl) [.ret _ _ _ c0,tC (nt hm),tT] (by kernel_rfl)).to (by first|((simp only [wk,aw,and_true];repeat' (first|rfl|exact True.intro|apply And.intro));done)|(simp [wk,aw,u64,];done))
theorem vz (m:ao) (op w dst src base aa af cnd:Int) (ho:op≤127) (n1:(op==26)=false) (n2:(op==27)=false) (n3:(op==30)=false) (hm:cg op w dst src base aa af cnd=true):aE Tryz.prog 111 ([.agg (hQ m),xD op w dst src base aa af cnd]) (.aA [.int .u64 0,.int .i64 0,.bool false]):=by
 have c0:= @aJ (op) (w) (dst) (src) (base) (aa) (af) (cnd) ho
 exact (aE.ae (d:= .aA [.int .u64 0,.int .i64 0,.bool false]) mixed Tryz.func111 (by kernel_rfl) [.ret _ _ _ c0,tC (nt hm),tC n3,tC n1,tC n2] (by kernel_rfl)).to (by first|((simp only [wk,aw,and_true];repeat' (first|rfl|exact True.intro|apply And.intro));done)|(simp [wk,aw,u64,];done))
theorem Bb (m:ao) (w dst src base aa af cnd:Int) (d0:0≤dst) (d1:dst≤15) (s0:0≤src) (s1:src≤15) (b0:0≤base) (b1:base≤15) (w0:bh w=true) (hm:cg 27 w dst src base aa af cnd=true):aE Tryz.prog 114 ([.agg (hQ m),xD 27 w dst src base aa af cnd]) (.int .u64 (aP (rg m.rl src) w)):=by
 have c0:= @aJ (27) (w) (dst) (src) (base) (aa) (af) (cnd) (by first|rfl|decide)
 have c1:= @bH (rg m.rl src) (w)
 exact (aE.ae (d:= .int .u64 (aP (rg m.rl src) w)) mixed Tryz.func114 (by kernel_rfl) [tT,tT,.ret _ _ _ c0,tT,tF,tC (nt hm),.cU (decide (0≤src∧src<(↑(16:Nat):Int))) true (by ((try simp only [ke,dt,ct,eM,decide_eq_true_eq,decide_eq_false_iff_not,beq_iff_eq,bne_iff_ne,beq_eq_false_iff_ne,bne_eq_false_iff_eq,Bool.not_eq_true',Bool.not_eq_false',Bool.and_eq_true,Bool.or_eq_true] at*);omega)),.get _ _ _ (@bz (m) (src) ([.bool m.fk,.bool m.fc,.bool m.fz,.bool m.fs,.bool m.fo,.int .u64 m.pc]) s0 s1),.ret _ _ _ c1] (by kernel_rfl)).to (by first|((simp only [wk,aw,and_true];repeat' (first|rfl|exact True.intro|apply And.intro));done)|(simp [wk,aw,u64,];done))
theorem EC (m:ao):aE Tryz.prog 144 ([.agg (hQ m)]) (.aA [.int .i64 (lS m.q0),.bool (qu m.q0)]):=by
 rcases Bool.eq_false_or_eq_true (decide (ao.q0 m<16)) with h0|h0
 ·skip
  exact (aE.ae (d:= .aA [.int .i64 (IntKind.i64.wrap m.q0),.bool true]) mixed Tryz.func144 (by kernel_rfl) [tC (bR 16 h0)] (by kernel_rfl)).to (by first|exact CM h0|exact CN h0)
 ·skip
  exact (aE.ae (d:= .aA [.int .i64 0,.bool false]) mixed Tryz.func144 (by kernel_rfl) [tC (bR 16 h0)] (by kernel_rfl)).to (by first|exact CM h0|exact CN h0)
theorem C1 (num:Int) (h0:0≤num) (h1:num≤15):aE Tryz.prog 162 ([.int .i64 num]) (.int .i64 (Int.tmod num 6)):=by
 exact (aE.ae (d:= .int .i64 (Int.tmod num 6)) mixed Tryz.func162 (by kernel_rfl) ([.inl]++List.replicate 3 (tC (eT (bR 0 (decide_eq_false (Int.not_lt.2 h0)))))++ [tC (bR 0 (decide_eq_false (Int.not_lt.2 h0))),tC (nt (dC 15 (decide_eq_true (Int.lt_add_one_of_le h1))))]) (by kernel_rfl)).to (by simp [wk,aw,aM])
theorem u6 (num:Int) (h0:num<0):aE Tryz.prog 162 ([.int .i64 num]) (.int .i64 0):=by
 exact (aE.ae (d:= .int .i64 0) mixed Tryz.func162 (by kernel_rfl) ([.inl]++List.replicate 3 (tC (eT (bR 0 (decide_eq_true h0))))++ [tC (bR 0 (decide_eq_true h0)),tT]) (by kernel_rfl)).to (by simp [wk,aw,aM])
theorem u7 (num:Int) (h0:15<num):aE Tryz.prog 162 ([.int .i64 num]) (.int .i64 0):=by
 exact (aE.ae (d:= .int .i64 0) mixed Tryz.func162 (by kernel_rfl) ([.inl]++List.replicate 3 (tC (eT (bR 0 (l8 0 (decide_eq_false (by omega:¬num<16))))))++ [tC (bR 0 (l8 0 (decide_eq_false (by omega:¬num<16)))),tC (nt (dC 15 (decide_eq_false (by omega:¬num<16))))]) (by kernel_rfl)).to (by simp [wk,aw,aM])
theorem xx (m:ao) (v:Int) (hn:aE Tryz.prog 144 [.agg (hQ m)] (.aA [.int .i64 v,.bool true])) (ha:aE Tryz.prog 162 [.int .i64 v] (.int .i64 0)):aE Tryz.prog 145 ([.agg (hQ m)]) (.aj .tight 0 []):=by
 exact (aE.ae (d:= .aj .tight 0 []) mixed Tryz.func145 (by kernel_rfl) [.ret _ _ _ hn,tF,.ret _ _ _ ha,tT,.go 64,tF] (by kernel_rfl)).to (by simp [wk,aw,aM])
theorem xw (m:ao) (v:Int) (hn:aE Tryz.prog 144 [.agg (hQ m)] (.aA [.int .i64 v,.bool true])) (ha:aE Tryz.prog 162 [.int .i64 v] (.int .i64 1)):aE Tryz.prog 145 ([.agg (hQ m)]) (.aj (.fresh 1) 1 [.int .u64 m.q7]):=by
 exact (aE.ae (d:= .aj (.fresh 1) 1 [.int .u64 m.q7]) mixed Tryz.func145 (by kernel_rfl) [.ret _ _ _ hn,tF,.ret _ _ _ ha,tT,.go 64,tT,tT,.get ([.int .i8 7]) 0 (.int .i8 7) rfl,tT,.get ([.int .u64 m.q0,.int .u64 m.q1,.int .u64 m.q2,.int .u64 m.q3,.int .u64 m.q4,.int .u64 m.q5,.int .u64 m.q6,.int .u64 m.q7,.int .u64 m.q8,.int .u64 m.q9,.int .u64 m.bJ,.int .u64 m.bM,.int .u64 m.bQ,.int .u64 m.bP,.int .u64 m.bO,.int .u64 m.bN,.bool m.fk,.bool m.fc,.bool m.fz,.bool m.fs,.bool m.fo,.int .u64 m.pc]) 7 (.int .u64 m.q7) rfl,.len (1) (2147483648) (by first|decide|omega|(simp;omega)),tF] (by kernel_rfl)).to (by simp [wk,aw,aM])
theorem xv (m:ao) (v:Int) (hn:aE Tryz.prog 144 [.agg (hQ m)] (.aA [.int .i64 v,.bool true])) (ha:aE Tryz.prog 162 [.int .i64 v] (.int .i64 2)):aE Tryz.prog 145 ([.agg (hQ m)]) (.aj (.fresh 1) 1 [.int .u64 m.q7,.int .u64 m.q6]):=by
 exact (aE.ae (d:= .aj (.fresh 1) 1 [.int .u64 m.q7,.int .u64 m.q6]) mixed Tryz.func145 (by kernel_rfl) ([.ret _ _ _ hn,tF,.ret _ _ _ ha,tT,.go 64,tT,tT,.get ([.int .i8 7,.int .i8 6]) 0 (.int .i8 7) rfl,tT,.get ([.int .u64 m.q0,.int .u64 m.q1,.int .u64 m.q2,.int .u64 m.q3,.int .u64 m.q4,.int .u64 m.q5,.int .u64 m.q6,.int .u64 m.q7,.int .u64 m.q8,.int .u64 m.q9,.int .u64 m.bJ,.int .u64 m.bM,.int .u64 m.bQ,.int .u64 m.bP,.int .u64 m.bO,.int .u64 m.bN,.bool m.fk,.bool m.fc,.bool m.fz,.bool m.fs,.bool m.fo,.int .u64 m.pc]) 7 (.int .u64 m.q7) rfl,.len (1) (2147483648) (by first|decide|omega|(simp;omega)),tT,tT,.get ([.int .i8 7,.int .i8 6]) 1 (.int .i8 6) rfl,tT,.get ([.int .u64 m.q0,.int .u64 m.q1,.int .u64 m.q2,.int .u64 m.q3,.int .u64 m.q4,.int .u64 m.q5,.int .u64 m.q6,.int .u64 m.q7,.int .u64 m.q8,.int .u64 m.q9,.int .u64 m.bJ,.int .u64 m.bM,.int .u64 m.bQ,.int .u64 m.bP,.int .u64 m.bO,.int .u64 m.bN,.bool m.fk,.bool m.fc,.bool m.fz,.bool m.fs,.bool m.fo,.int .u64 m.pc]) 6 (.int .u64 m.q6) rfl]++ [.len (2) (2147483648) (by first|decide|omega|(simp;omega)),tF]) (by kernel_rfl)).to (by simp [wk,aw,aM])
theorem xu (m:ao) (v:Int) (hn:aE Tryz.prog 144 [.agg (hQ m)] (.aA [.int .i64 v,.bool true])) (ha:aE Tryz.prog 162 [.int .i64 v] (.int .i64 3)):aE Tryz.prog 145 ([.agg (hQ m)]) (.aj (.fresh 1) 1 [.int .u64 m.q7,.int .u64 m.q6,.int .u64 m.q2]):=by
 exact (aE.ae (d:= .aj (.fresh 1) 1 [.int .u64 m.q7,.int .u64 m.q6,.int .u64 m.q2]) mixed Tryz.func145 (by kernel_rfl) ([.ret _ _ _ hn,tF,.ret _ _ _ ha,tT,.go 64,tT,tT,.get ([.int .i8 7,.int .i8 6,.int .i8 2]) 0 (.int .i8 7) rfl,tT,.get ([.int .u64 m.q0,.int .u64 m.q1,.int .u64 m.q2,.int .u64 m.q3,.int .u64 m.q4,.int .u64 m.q5,.int .u64 m.q6,.int .u64 m.q7,.int .u64 m.q8,.int .u64 m.q9,.int .u64 m.bJ,.int .u64 m.bM,.int .u64 m.bQ,.int .u64 m.bP,.int .u64 m.bO,.int .u64 m.bN,.bool m.fk,.bool m.fc,.bool m.fz,.bool m.fs,.bool m.fo,.int .u64 m.pc]) 7 (.int .u64 m.q7) rfl,.len (1) (2147483648) (by first|decide|omega|(simp;omega)),tT,tT,.get ([.int .i8 7,.int .i8 6,.int .i8 2]) 1 (.int .i8 6) rfl,tT,.get ([.int .u64 m.q0,.int .u64 m.q1,.int .u64 m.q2,.int .u64 m.q3,.int .u64 m.q4,.int .u64 m.q5,.int .u64 m.q6,.int .u64 m.q7,.int .u64 m.q8,.int .u64 m.q9,.int .u64 m.bJ,.int .u64 m.bM,.int .u64 m.bQ,.int .u64 m.bP,.int .u64 m.bO,.int .u64 m.bN,.bool m.fk,.bool m.fc,.bool m.fz,.bool m.fs,.bool m.fo,.int .u64 m.pc]) 6 (.int .u64 m.q6) rfl]++ [.len (2) (2147483648) (by first|decide|omega|(simp;omega)),tT,tT,.get ([.int .i8 7,.int .i8 6,.int .i8 2]) 2 (.int .i8 2) rfl,tT,.get ([.int .u64 m.q0,.int .u64 m.q1,.int .u64 m.q2,.int .u64 m.q3,.int .u64 m.q4,.int .u64 m.q5,.int .u64 m.q6,.int .u64 m.q7,.int .u64 m.q8,.int .u64 m.q9,.int .u64 m.bJ,.int .u64 m.bM,.int .u64 m.bQ,.int .u64 m.bP,.int .u64 m.bO,.int .u64 m.bN,.bool m.fk,.bool m.fc,.bool m.fz,.bool m.fs,.bool m.fo,.int .u64 m.pc]) 2 (.int .u64 m.q2) rfl,.len (3) (2147483648) (by first|decide|omega|(simp;omega)),tF]) (by kernel_rfl)).to (by simp [wk,aw,aM])
theorem xr (m:ao) (v:Int) (hn:aE Tryz.prog 144 [.agg (hQ m)] (.aA [.int .i64 v,.bool true])) (ha:aE Tryz.prog 162 [.int .i64 v] (.int .i64 4)):aE Tryz.prog 145 ([.agg (hQ m)]) (.aj (.fresh 1) 1 [.int .u64 m.q7,.int .u64 m.q6,.int .u64 m.q2,.int .u64 m.bJ]):=by
 exact (aE.ae (d:= .aj (.fresh 1) 1 [.int .u64 m.q7,.int .u64 m.q6,.int .u64 m.q2,.int .u64 m.bJ]) mixed Tryz.func145 (by kernel_rfl) ([.ret _ _ _ hn,tF,.ret _ _ _ ha,tT,.go 64,tT,tT,.get ([.int .i8 7,.int .i8 6,.int .i8 2,.int .i8 10]) 0 (.int .i8 7) rfl,tT,.get ([.int .u64 m.q0,.int .u64 m.q1,.int .u64 m.q2,.int .u64 m.q3,.int .u64 m.q4,.int .u64 m.q5,.int .u64 m.q6,.int .u64 m.q7,.int .u64 m.q8,.int .u64 m.q9,.int .u64 m.bJ,.int .u64 m.bM,.int .u64 m.bQ,.int .u64 m.bP,.int .u64 m.bO,.int .u64 m.bN,.bool m.fk,.bool m.fc,.bool m.fz,.bool m.fs,.bool m.fo,.int .u64 m.pc]) 7 (.int .u64 m.q7) rfl,.len (1) (2147483648) (by first|decide|omega|(simp;omega)),tT,tT,.get ([.int .i8 7,.int .i8 6,.int .i8 2,.int .i8 10]) 1 (.int .i8 6) rfl,tT,.get ([.int .u64 m.q0,.int .u64 m.q1,.int .u64 m.q2,.int .u64 m.q3,.int .u64 m.q4,.int .u64 m.q5,.int .u64 m.q6,.int .u64 m.q7,.int .u64 m.q8,.int .u64 m.q9,.int .u64 m.bJ,.int .u64 m.bM,.int .u64 m.bQ,.int .u64 m.bP,.int .u64 m.bO,.int .u64 m.bN,.bool m.fk,.bool m.fc,.bool m.fz,.bool m.fs,.bool m.fo,.int .u64 m.pc]) 6 (.int .u64 m.q6) rfl]++ [.len (2) (2147483648) (by first|decide|omega|(simp;omega)),tT,tT,.get ([.int .i8 7,.int .i8 6,.int .i8 2,.int .i8 10]) 2 (.int .i8 2) rfl,tT,.get ([.int .u64 m.q0,.int .u64 m.q1,.int .u64 m.q2,.int .u64 m.q3,.int .u64 m.q4,.int .u64 m.q5,.int .u64 m.q6,.int .u64 m.q7,.int .u64 m.q8,.int .u64 m.q9,.int .u64 m.bJ,.int .u64 m.bM,.int .u64 m.bQ,.int .u64 m.bP,.int .u64 m.bO,.int .u64 m.bN,.bool m.fk,.bool m.fc,.bool m.fz,.bool m.fs,.bool m.fo,.int .u64 m.pc]) 2 (.int .u64 m.q2) rfl,.len (3) (2147483648) (by first|decide|omega|(simp;omega)),tT,tT,.get ([.int .i8 7,.int .i8 6,.int .i8 2,.int .i8 10]) 3 (.int .i8 10) rfl,tT,.get ([.int .u64 m.q0,.int .u64 m.q1,.int .u64 m.q2,.int .u64 m.q3,.int .u64 m.q4,.int .u64 m.q5,.int .u64 m.q6,.int .u64 m.q7,.int .u64 m.q8,.int .u64 m.q9,.int .u64 m.bJ,.int .u64 m.bM,.int .u64 m.bQ,.int .u64 m.bP,.int .u64 m.bO,.int .u64 m.bN,.bool m.fk,.bool m.fc,.bool m.fz,.bool m.fs,.bool m.fo,.int .u64 m.pc]) 10 (.int .u64 m.bJ) rfl,.len (4) (2147483648) (by first|decide|omega|(simp;omega)),tF]) (by kernel_rfl)).to (by simp [wk,aw,aM])
theorem xq (m:ao) (v:Int) (hn:aE Tryz.prog 144 [.agg (hQ m)] (.aA [.int .i64 v,.bool true])) (ha:aE Tryz.prog 162 [.int .i64 v] (.int .i64 5)):aE Tryz.prog 145 ([.agg (hQ m)]) (.aj (.fresh 1) 1 [.int .u64 m.q7,.int .u64 m.q6,.int .u64 m.q2,.int .u64 m.bJ,.int .u64 m.q8]):=by
 exact (aE.ae (d:= .aj (.fresh 1) 1 [.int .u64 m.q7,.int .u64 m.q6,.int .u64 m.q2,.int .u64 m.bJ,.int .u64 m.q8]) mixed Tryz.func145 (by kernel_rfl) ([.ret _ _ _ hn,tF,.ret _ _ _ ha,tT,.go 64,tT,tT,.get ([.int .i8 7,.int .i8 6,.int .i8 2,.int .i8 10,.int .i8 8]) 0 (.int .i8 7) rfl,tT,.get ([.int .u64 m.q0,.int .u64 m.q1,.int .u64 m.q2,.int .u64 m.q3,.int .u64 m.q4,.int .u64 m.q5,.int .u64 m.q6,.int .u64 m.q7,.int .u64 m.q8,.int .u64 m.q9,.int .u64 m.bJ,.int .u64 m.bM,.int .u64 m.bQ,.int .u64 m.bP,.int .u64 m.bO,.int .u64 m.bN,.bool m.fk,.bool m.fc,.bool m.fz,.bool m.fs,.bool m.fo,.int .u64 m.pc]) 7 (.int .u64 m.q7) rfl,.len (1) (2147483648) (by first|decide|omega|(simp;omega)),tT,tT,.get ([.int .i8 7,.int .i8 6,.int .i8 2,.int .i8 10,.int .i8 8]) 1 (.int .i8 6) rfl,tT,.get ([.int .u64 m.q0,.int .u64 m.q1,.int .u64 m.q2,.int .u64 m.q3,.int .u64 m.q4,.int .u64 m.q5,.int .u64 m.q6,.int .u64 m.q7,.int .u64 m.q8,.int .u64 m.q9,.int .u64 m.bJ,.int .u64 m.bM,.int .u64 m.bQ,.int .u64 m.bP,.int .u64 m.bO,.int .u64 m.bN,.bool m.fk,.bool m.fc,.bool m.fz,.bool m.fs,.bool m.fo,.int .u64 m.pc]) 6 (.int .u64 m.q6) rfl]++ [.len (2) (2147483648) (by first|decide|omega|(simp;omega)),tT,tT,.get ([.int .i8 7,.int .i8 6,.int .i8 2,.int .i8 10,.int .i8 8]) 2 (.int .i8 2) rfl,tT,.get ([.int .u64 m.q0,.int .u64 m.q1,.int .u64 m.q2,.int .u64 m.q3,.int .u64 m.q4,.int .u64 m.q5,.int .u64 m.q6,.int .u64 m.q7,.int .u64 m.q8,.int .u64 m.q9,.int .u64 m.bJ,.int .u64 m.bM,.int .u64 m.bQ,.int .u64 m.bP,.int .u64 m.bO,.int .u64 m.bN,.bool m.fk,.bool m.fc,.bool m.fz,.bool m.fs,.bool m.fo,.int .u64 m.pc]) 2 (.int .u64 m.q2) rfl,.len (3) (2147483648) (by first|decide|omega|(simp;omega)),tT,tT,.get ([.int .i8 7,.int .i8 6,.int .i8 2,.int .i8 10,.int .i8 8]) 3 (.int .i8 10) rfl,tT,.get ([.int .u64 m.q0,.int .u64 m.q1,.int .u64 m.q2,.int .u64 m.q3,.int .u64 m.q4,.int .u64 m.q5,.int .u64 m.q6,.int .u64 m.q7,.int .u64 m.q8,.int .u64 m.q9,.int .u64 m.bJ,.int .u64 m.bM,.int .u64 m.bQ,.int .u64 m.bP,.int .u64 m.bO,.int .u64 m.bN,.bool m.fk,.bool m.fc,.bool m.fz,.bool m.fs,.bool m.fo,.int .u64 m.pc]) 10 (.int .u64 m.bJ) rfl,.len (4) (2147483648) (by first|decide|omega|(simp;omega)),tT,tT,.get ([.int .i8 7,.int .i8 6,.int .i8 2,.int .i8 10,.int .i8 8]) 4 (.int .i8 8) rfl]++ [tT,.get ([.int .u64 m.q0,.int .u64 m.q1,.int .u64 m.q2,.int .u64 m.q3,.int .u64 m.q4,.int .u64 m.q5,.int .u64 m.q6,.int .u64 m.q7,.int .u64 m.q8,.int .u64 m.q9,.int .u64 m.bJ,.int .u64 m.bM,.int .u64 m.bQ,.int .u64 m.bP,.int .u64 m.bO,.int .u64 m.bN,.bool m.fk,.bool m.fc,.bool m.fz,.bool m.fs,.bool m.fo,.int .u64 m.pc]) 8 (.int .u64 m.q8) rfl,.len (5) (2147483648) (by first|decide|omega|(simp;omega)),tF]) (by kernel_rfl)).to (by simp [wk,aw,aM])
end Go.Proofs.YtbfpahigdpigpaaGreat
namespace Go.Ev
open Go
structure tU where
  num:Int
  args:List Int
  Ig:Int
def tU.d (e:tU):D:= .agg [.int .i64 e.num,.aj .no 1 (wD e.args),.int .u64 e.Ig]
def dE (l:List tU):List D:=l.map tU.d
structure lF where
  m:ao
  cx:List Int
  fr:List Int
  st:List Int
  an:List Int
  tr:List tU
  en:Int
def qU (base:Int) (len:Nat) (a n:Int):Bool:=decide (base≤a∧IntKind.u64.wrap (a - base)≤(len:Int)∧n≤(len:Int) - IntKind.u64.wrap (a - base))
def ka (base a:Int):Nat:=(IntKind.u64.wrap (a - base)).toNat
theorem Bx {base a n:Int} {len:Nat} (h:qU base len a n=true):base≤a∧IntKind.u64.wrap (a - base)≤(len:Int)∧n≤(len:Int) - IntKind.u64.wrap (a - base):=of_decide_eq_true h
theorem dV {base a n:Int} {len:Nat} (h:qU base len a n=false):a<base∨(len:Int)<IntKind.u64.wrap (a - base)∨(len:Int) - IntKind.u64.wrap (a - base)<n:=by
 have:=of_decide_eq_false h
 omega
theorem of_le {base a n:Int} {len:Nat} (h:qU base len a n=true) (hn:0≤n):ka base a+n.toNat≤len:=by
 have:=Bx h
 have h0:0≤IntKind.u64.wrap (a - base):=by rw [eM];omega
 unfold ka
 omega
def qG (l:List Int) (k n:Nat):Int:=tV ((l.drop k).take n)
def Ff (l:List Int) (k:Nat) (w:Int):Nat→List Int
  |0=>l
  |n+1=>(Ff l k w n).set (k+n*1) (IntKind.u8.wrap (w.fdiv (256^n)))
theorem od (l:List Int) (k:Nat) (w:Int):∀n,(Ff l k w n).length=l.length
 |0=>rfl
 |n+1=>by rw [Ff,List.length_set,od l k w n]
theorem gH (l:List Int) (k:Nat) (w:Int):∀n,GB (bD l) k w n=bD (Ff l k w n)
 |0=>rfl
 |n+1=>by
  rw [GB,gH l k w n,Ff]
  simp [bD,List.map_set]
theorem bW {l:List Int} {k:Nat} (j:Nat) (h:k+j<l.length):(bD l)[k+j*1]? =some (.int .u8 (l.getD (k+j) 0)):=by
 rw [Nat.mul_one]
 simp [bD,h,List.getD_eq_getElem?_getD]
theorem dA:∀(n k:Nat) (l:List Int),k+n≤l.length→(l.drop k).take n=(List.range n).map fun j=>l.getD (k+j) 0
 |0,k,l,_=>by simp
 |n+1,k,l,h=>by
  rw [List.range_succ,List.map_append,← dA n k l (by omega),List.take_add_one]
  have:(l.drop k)[n]? =some (l.getD (k+n) 0):=by
   rw [List.getElem?_drop,List.getD_eq_getElem?_getD,List.getElem?_eq_getElem (by omega)]
   rfl
  rw [this]
  rfl
def qS (cb cx fr st:List Int) (a n:Int):Option Int:=
  if qU 1048576 cb.length a n=true then some (qG cb (ka 1048576 a) n.toNat)
  else if qU 2097152 cx.length a n=true then some (qG cx (ka 2097152 a) n.toNat)
  else if qU 3145728 64 a n=true then some (qG fr (ka 3145728 a) n.toNat)
  else if qU 4194304 264 a n=true then some (qG st (ka 4194304 a) n.toNat)
  else none
def mV (cx fr st:List Int) (a n w:Int):Option (List Int×List Int×List Int):=
  if qU 2097152 cx.length a n=true then some (Ff cx (ka 2097152 a) w n.toNat,fr,st)
  else if qU 3145728 64 a n=true then some (cx,Ff fr (ka 3145728 a) w n.toNat,st)
  else if qU 4194304 264 a n=true then some (cx,fr,Ff st (ka 4194304 a) w n.toNat)
  else none
theorem vT {cx fr st:List Int} {a n w:Int} {r:List Int×List Int×List Int} (h:mV cx fr st a n w=some r):r.1.length=cx.length∧r.2.1.length=fr.length∧r.2.2.length=st.length:=by
 unfold mV at h
 split at h
 ·cases h;exact ⟨od _ _ _ _,rfl,rfl⟩
 split at h
 ·cases h;exact ⟨rfl,od _ _ _ _,rfl⟩
 split at h
 ·cases h;exact ⟨rfl,rfl,od _ _ _ _⟩
 ·cases h
def qC (v:Int):Nat:=if 0≤v∧v≤15 then v.toNat%6 else 0
theorem EZ (v:Int):qC v≤5:=by unfold qC;split<;>omega
def qf (m:ao) (n:Nat):List Int:= [m.q7,m.q6,m.q2,m.bJ,m.q8].take n
def cC (cb:List Int) (e:lF):lF×Bool:=
  if qU 1048576 cb.length e.m.pc 1=true then
    match mm (cb.drop (ka 1048576 e.m.pc)) with
    |none=>({ e with en:=3 },false)
    |some x=>
      if x.op=31 then
        if qu e.m.q0=true then
          match e.an with
          | []=>({ e with en:=2 },false)
          |a::r=>({ e with m:=(fw e.m x a).1,an:=r,tr:=e.tr++ [⟨lS e.m.q0,qf e.m (qC (lS e.m.q0)),a⟩],en:=0 },true)
        else ({ e with en:=3 },false)
      else if x.op=27 then
        match mV e.cx e.fr e.st (u64 (rg e.m.rl x.base+u64 x.aa)) (x.w / 8) (aP (rg e.m.rl x.src) x.w) with
        |none=>({ e with en:=3 },false)
        |some r=>({ e with m:=(fw e.m x 0).1,cx:=r.1,fr:=r.2.1,st:=r.2.2,en:=0 },true)
      else if x.op=26 then
        match qS cb e.cx e.fr e.st (u64 (rg e.m.rl x.base+u64 x.aa)) (x.w / 8) with
        |none=>({ e with en:=3 },false)
        |some v=>({ e with m:=(fw e.m x v).1,en:=0 },true)
      else if x.op=30 then
        match qS cb e.cx e.fr e.st e.m.q4 8 with
        |none=>({ e with en:=3 },false)
        |some v=>if v=0 then ({ e with m:=(fw e.m x v).1,en:=1 },false) else ({ e with m:=(fw e.m x v).1,en:=0 },true)
      else if (fw e.m x 0).2=0 then ({ e with m:=(fw e.m x 0).1,en:=0 },true)
      else ({ e with en:=3 },false)
  else ({ e with en:=3 },false)
structure Ho (e e2:lF):Prop where
  cx:e2.cx.length=e.cx.length
  fr:e2.fr.length=e.fr.length
  st:e2.st.length=e.st.length
  tr:∃t,e2.tr=e.tr++t∧t.length≤1
theorem so (cb:List Int) (e:lF):Ho e (cC cb e).1:=by
 have z:∀e2:lF,e2.cx=e.cx→e2.fr=e.fr→e2.st=e.st→e2.tr=e.tr→Ho e e2:=fun e2 h1 h2 h3 h4=>⟨by rw [h1],by rw [h2],by rw [h3],[],by rw [h4,List.append_nil],by simp⟩
 unfold cC
 split
 ·split
  ·exact z _ rfl rfl rfl rfl
  ·split
   ·split
    ·split
     ·exact z _ rfl rfl rfl rfl
     ·exact ⟨rfl,rfl,rfl,_,rfl,Nat.le_refl _⟩
    ·exact z _ rfl rfl rfl rfl
   ·split
    ·split
     ·exact z _ rfl rfl rfl rfl
     ·rename_i r hr
      obtain ⟨h1,h2,h3⟩:=vT hr
      exact ⟨h1,h2,h3,[],by rw [List.append_nil],by simp⟩
    ·split
     ·split<;>exact z _ rfl rfl rfl rfl
     ·split
      ·split
       ·exact z _ rfl rfl rfl rfl
       ·split<;>exact z _ rfl rfl rfl rfl
      ·split<;>exact z _ rfl rfl rfl rfl
 ·exact z _ rfl rfl rfl rfl
theorem x8 (cb:List Int) (e:lF):((cC cb e).2=true→(cC cb e).1.en=0)∧((cC cb e).2=false→(cC cb e).1.en≠0):=by
 unfold cC
 repeat' split
 all_goals (constructor<;>intro h<;>first|rfl|(cases h;done)|decide|(show (3:Int)≠0;decide)|(show (2:Int)≠0;decide)|(show (1:Int)≠0;decide))
def eW (cb:List Int):Nat→lF→lF×Nat
  |0,e=>(e,0)
  |f+1,e=>match cC cb e with
    |(e2,true)=>eW cb f e2
    |(e2,false)=>(e2,f)
theorem uw (cb:List Int) (M:Nat):∀(f:Nat) (e:lF),e.en=0→
  (eW cb f e).2≤f∧(∃t,(eW cb (f+M) e).1.tr=(eW cb f e).1.tr++t)∧
  ((eW cb f e).1.en=0→(eW cb f e).2=0∧(eW cb (f+M) e).2≤M)∧((eW cb f e).1.en≠0→eW cb (f+M) e=((eW cb f e).1,(eW cb f e).2+M))
 |0,e,h0=>by
  have key:∀(M:Nat) (e:lF),(eW cb M e).2≤M∧∃t,(eW cb M e).1.tr=e.tr++t:=by
   intro M
   induction M with
   |zero=>intro e;exact ⟨Nat.le_refl _,[],by simp [eW]⟩
   |succ M ih=>
    intro e
    obtain ⟨t,ht,_⟩:=(so cb e).tr
    rw [eW]
    cases hs:cC cb e with
    |mk e2 b=>
     rw [hs] at ht
     cases b with
     |true=>
      obtain ⟨h1,t2,h2⟩:=ih e2
      exact ⟨by simp only [];omega,t++t2,by simp only [];rw [h2,ht,List.append_assoc]⟩
     |false=>exact ⟨by simp,t,ht⟩
  obtain ⟨k1,k2⟩:=key M e
  rw [Nat.zero_add]
  exact ⟨Nat.le_refl _,k2,fun _=>⟨rfl,k1⟩,fun h=>absurd h0 h⟩
 |f+1,e,h0=>by
  have hen:=x8 cb e
  rw [show f+1+M=(f+M)+1 by omega,eW,eW]
  cases hs:cC cb e with
  |mk e2 b=>
   rw [hs] at hen
   cases b with
   |true=>
    obtain ⟨i1,i2,i3,i4⟩:=uw cb M f e2 (hen.1 rfl)
    exact ⟨by simp only [];omega,i2,i3,i4⟩
   |false=>exact ⟨by simp,⟨[],by simp⟩,fun h=>absurd h (hen.2 rfl),fun _=>rfl⟩
theorem oe (cb:List Int):∀(f:Nat) (e:lF),(eW cb f e).1.cx.length=e.cx.length∧(eW cb f e).1.tr.length≤e.tr.length+f
 |0,e=>⟨rfl,Nat.le_refl _⟩
 |f+1,e=>by
  have ho:=so cb e
  obtain ⟨t,ht,hl⟩:=ho.tr
  rw [eW]
  cases hs:cC cb e with
  |mk e2 b=>
   rw [hs] at ho ht
   cases b with
   |true=>
    obtain ⟨h1,h2⟩:=oe cb f e2
    refine ⟨h1.trans ho.cx,?_⟩
    have:e2.tr.length≤e.tr.length+1:=by rw [ht,List.length_append];omega
    simp only [];omega
   |false=>
    refine ⟨ho.cx,?_⟩
    have:e2.tr.length≤e.tr.length+1:=by rw [ht,List.length_append];omega
    simp only [];omega
end Go.Ev
namespace Go.Proofs.YtbfpahigdpigpaaGreat
open Go Go.Ev
section
variable (o0 aI aH aG aF x0 x1 x2 x3 x4 x5:Ob) (cb cx fr st:List Int) (u:List D) (v:Nat)
abbrev rS:List Ob:= [o0,.box (fX cb.length cx.length),.dead,.dead,.box (bD cb),.dead,.dead,.box (bD cx),.box (bD fr),.box (bD st),.dead,.box u,aI,aH,aG,aF,.bX v 3,x0,x1,x2,x3,x4]
abbrev wS (nc nx:Nat):List Ob:= [o0,.box (fX nc nx),.dead,.dead,.box (bD cb),.dead,.dead,.box (bD cx),.box (bD fr),.box (bD st),.dead,.box u,aI,aH,aG,aF,.bX v 3,x0,x1,x2,x3,x4,x5]
theorem uY (hc:cb.length≤16384) (hx:cx.length≤256) (hf:fr.length=64) (hs:st.length=264) (a n:Int) (hn:n=1∨n=2∨n=4∨n=8):
  ai Tryz.prog 115 [.ptr false 1 0,.int .u64 a,.int .i64 n] (rS o0 aI aH aG aF x0 x1 x2 x3 x4 cb cx fr st u v) (match qS cb cx fr st a n with|some z=> .aA [.int .u64 z,.int .i64 0]|none=> .aA [.int .u64 0,.int .i64 20]) (rS o0 aI aH aG aF x0 x1 x2 x3 x4 cb cx fr st u v):=by
 unfold qS
 cases h0:qU 1048576 cb.length a n with
 |true=>
  have y:=Bx h0
  have le:=of_le h0 (by omega)
  unfold ka at le
  rw [if_pos rfl]
  rcases hn with rfl|rfl|rfl|rfl
  ·rw [qG,show (1:Int).toNat=1 from rfl,ka,dA 1 _ cb le]
   exact zK o0 aI aH aG aF x0 x1 x2 x3 x4 (bD cb) (bD cx) (bD fr) (bD st) u cb.length cx.length v hc hx a y.1 y.2.1 y.2.2 _ (bW 0 (by omega))
  ·rw [qG,show (2:Int).toNat=2 from rfl,ka,dA 2 _ cb le]
   exact zJ o0 aI aH aG aF x0 x1 x2 x3 x4 (bD cb) (bD cx) (bD fr) (bD st) u cb.length cx.length v hc hx a y.1 y.2.1 y.2.2 _ _ (bW 0 (by omega)) (bW 1 (by omega))
  ·rw [qG,show (4:Int).toNat=4 from rfl,ka,dA 4 _ cb le]
   exact zI o0 aI aH aG aF x0 x1 x2 x3 x4 (bD cb) (bD cx) (bD fr) (bD st) u cb.length cx.length v hc hx a y.1 y.2.1 y.2.2 _ _ _ _ (bW 0 (by omega)) (bW 1 (by omega)) (bW 2 (by omega)) (bW 3 (by omega))
  ·rw [qG,show (8:Int).toNat=8 from rfl,ka,dA 8 _ cb le]
   exact zH o0 aI aH aG aF x0 x1 x2 x3 x4 (bD cb) (bD cx) (bD fr) (bD st) u cb.length cx.length v hc hx a y.1 y.2.1 y.2.2 _ _ _ _ _ _ _ _ (bW 0 (by omega)) (bW 1 (by omega)) (bW 2 (by omega)) (bW 3 (by omega)) (bW 4 (by omega)) (bW 5 (by omega)) (bW 6 (by omega)) (bW 7 (by omega))
 |false=>
 rw [if_neg (by simp)]
 cases h1:qU 2097152 cx.length a n with
 |true=>
  have y:=Bx h1
  have le:=of_le h1 (by omega)
  unfold ka at le
  rw [if_pos rfl]
  rcases hn with rfl|rfl|rfl|rfl
  ·rw [qG,show (1:Int).toNat=1 from rfl,ka,dA 1 _ cx le]
   exact zG o0 aI aH aG aF x0 x1 x2 x3 x4 (bD cb) (bD cx) (bD fr) (bD st) u cb.length cx.length v hc hx a (dV h0) y.1 y.2.1 y.2.2 _ (bW 0 (by omega))
  ·rw [qG,show (2:Int).toNat=2 from rfl,ka,dA 2 _ cx le]
   exact zF o0 aI aH aG aF x0 x1 x2 x3 x4 (bD cb) (bD cx) (bD fr) (bD st) u cb.length cx.length v hc hx a (dV h0) y.1 y.2.1 y.2.2 _ _ (bW 0 (by omega)) (bW 1 (by omega))
  ·rw [qG,show (4:Int).toNat=4 from rfl,ka,dA 4 _ cx le]
   exact zE o0 aI aH aG aF x0 x1 x2 x3 x4 (bD cb) (bD cx) (bD fr) (bD st) u cb.length cx.length v hc hx a (dV h0) y.1 y.2.1 y.2.2 _ _ _ _ (bW 0 (by omega)) (bW 1 (by omega)) (bW 2 (by omega)) (bW 3 (by omega))
  ·rw [qG,show (8:Int).toNat=8 from rfl,ka,dA 8 _ cx le]
   exact zD o0 aI aH aG aF x0 x1 x2 x3 x4 (bD cb) (bD cx) (bD fr) (bD st) u cb.length cx.length v hc hx a (dV h0) y.1 y.2.1 y.2.2 _ _ _ _ _ _ _ _ (bW 0 (by omega)) (bW 1 (by omega)) (bW 2 (by omega)) (bW 3 (by omega)) (bW 4 (by omega)) (bW 5 (by omega)) (bW 6 (by omega)) (bW 7 (by omega))
 |false=>
 rw [if_neg (by simp)]
 cases h2:qU 3145728 64 a n with
 |true=>
  have y:=Bx h2
  have le:=of_le h2 (by omega)
  unfold ka at le
  rw [← hf] at le
  rw [if_pos rfl]
  rcases hn with rfl|rfl|rfl|rfl
  ·rw [qG,show (1:Int).toNat=1 from rfl,ka,dA 1 _ fr le]
   exact zB o0 aI aH aG aF x0 x1 x2 x3 x4 (bD cb) (bD cx) (bD fr) (bD st) u cb.length cx.length v hc hx a (dV h0) (dV h1) y.1 y.2.1 y.2.2 _ (bW 0 (by omega))
  ·rw [qG,show (2:Int).toNat=2 from rfl,ka,dA 2 _ fr le]
   exact zA o0 aI aH aG aF x0 x1 x2 x3 x4 (bD cb) (bD cx) (bD fr) (bD st) u cb.length cx.length v hc hx a (dV h0) (dV h1) y.1 y.2.1 y.2.2 _ _ (bW 0 (by omega)) (bW 1 (by omega))
  ·rw [qG,show (4:Int).toNat=4 from rfl,ka,dA 4 _ fr le]
   exact zy o0 aI aH aG aF x0 x1 x2 x3 x4 (bD cb) (bD cx) (bD fr) (bD st) u cb.length cx.length v hc hx a (dV h0) (dV h1) y.1 y.2.1 y.2.2 _ _ _ _ (bW 0 (by omega)) (bW 1 (by omega)) (bW 2 (by omega)) (bW 3 (by omega))
  ·rw [qG,show (8:Int).toNat=8 from rfl,ka,dA 8 _ fr le]
   exact zx o0 aI aH aG aF x0 x1 x2 x3 x4 (bD cb) (bD cx) (bD fr) (bD st) u cb.length cx.length v hc hx a (dV h0) (dV h1) y.1 y.2.1 y.2.2 _ _ _ _ _ _ _ _ (bW 0 (by omega)) (bW 1 (by omega)) (bW 2 (by omega)) (bW 3 (by omega)) (bW 4 (by omega)) (bW 5 (by omega)) (bW 6 (by omega)) (bW 7 (by omega))
 |false=>
 rw [if_neg (by simp)]
 cases h3:qU 4194304 264 a n with
 |true=>
  have y:=Bx h3
  have le:=of_le h3 (by omega)
  unfold ka at le
  rw [← hs] at le
  rw [if_pos rfl]
  rcases hn with rfl|rfl|rfl|rfl
  ·rw [qG,show (1:Int).toNat=1 from rfl,ka,dA 1 _ st le]
   exact zw o0 aI aH aG aF x0 x1 x2 x3 x4 (bD cb) (bD cx) (bD fr) (bD st) u cb.length cx.length v hc hx a (dV h0) (dV h1) (dV h2) y.1 y.2.1 y.2.2 _ (bW 0 (by omega))
  ·rw [qG,show (2:Int).toNat=2 from rfl,ka,dA 2 _ st le]
   exact zu o0 aI aH aG aF x0 x1 x2 x3 x4 (bD cb) (bD cx) (bD fr) (bD st) u cb.length cx.length v hc hx a (dV h0) (dV h1) (dV h2) y.1 y.2.1 y.2.2 _ _ (bW 0 (by omega)) (bW 1 (by omega))
  ·rw [qG,show (4:Int).toNat=4 from rfl,ka,dA 4 _ st le]
   exact zt o0 aI aH aG aF x0 x1 x2 x3 x4 (bD cb) (bD cx) (bD fr) (bD st) u cb.length cx.length v hc hx a (dV h0) (dV h1) (dV h2) y.1 y.2.1 y.2.2 _ _ _ _ (bW 0 (by omega)) (bW 1 (by omega)) (bW 2 (by omega)) (bW 3 (by omega))
  ·rw [qG,show (8:Int).toNat=8 from rfl,ka,dA 8 _ st le]
   exact zs o0 aI aH aG aF x0 x1 x2 x3 x4 (bD cb) (bD cx) (bD fr) (bD st) u cb.length cx.length v hc hx a (dV h0) (dV h1) (dV h2) y.1 y.2.1 y.2.2 _ _ _ _ _ _ _ _ (bW 0 (by omega)) (bW 1 (by omega)) (bW 2 (by omega)) (bW 3 (by omega)) (bW 4 (by omega)) (bW 5 (by omega)) (bW 6 (by omega)) (bW 7 (by omega))
 |false=>
 rw [if_neg (by simp)]
 exact DZ o0 aI aH aG aF x0 x1 x2 x3 x4 (bD cb) (bD cx) (bD fr) (bD st) u cb.length cx.length v hc hx a n hn (by omega) (by omega) (dV h0) (dV h1) (dV h2) (dV h3)
theorem ze (hc:cb.length≤16384) (hx:cx.length≤256) (hf:fr.length=64) (hs:st.length=264) (a n w:Int) (hn:n=1∨n=2∨n=4∨n=8):
  match mV cx fr st a n w with
  |some r=>ai Tryz.prog 113 [.ptr false 1 0,.int .u64 a,.int .i64 n,.int .u64 w] (wS o0 aI aH aG aF x0 x1 x2 x3 x4 x5 cb cx fr st u v cb.length cx.length) (.int .i64 0) (wS o0 aI aH aG aF x0 x1 x2 x3 x4 x5 cb r.1 r.2.1 r.2.2 u v cb.length cx.length)
  |none=>ai Tryz.prog 113 [.ptr false 1 0,.int .u64 a,.int .i64 n,.int .u64 w] (wS o0 aI aH aG aF x0 x1 x2 x3 x4 x5 cb cx fr st u v cb.length cx.length) (.int .i64 20) (wS o0 aI aH aG aF x0 x1 x2 x3 x4 x5 cb cx fr st u v cb.length cx.length):=by
 unfold mV
 cases h1:qU 2097152 cx.length a n with
 |true=>
  have y:=Bx h1
  have g0:a<1048576∨(cb.length:Int)<IntKind.u64.wrap (a - 1048576)∨(cb.length:Int) - IntKind.u64.wrap (a - 1048576)<n:=by
   right;left
   rw [eM] at y ⊢
   omega
  rw [if_pos rfl]
  rcases hn with rfl|rfl|rfl|rfl
  ·have:=y6 o0 aI aH aG aF x0 x1 x2 x3 x4 x5 (bD cb) (bD cx) (bD fr) (bD st) u cb.length cx.length v hc hx a w g0 y.1 y.2.1 y.2.2 (by rw [aN])
   rw [gH] at this
   exact this
  ·have:=yZ o0 aI aH aG aF x0 x1 x2 x3 x4 x5 (bD cb) (bD cx) (bD fr) (bD st) u cb.length cx.length v hc hx a w g0 y.1 y.2.1 y.2.2 (by rw [aN])
   rw [gH] at this
   exact this
  ·have:=yY o0 aI aH aG aF x0 x1 x2 x3 x4 x5 (bD cb) (bD cx) (bD fr) (bD st) u cb.length cx.length v hc hx a w g0 y.1 y.2.1 y.2.2 (by rw [aN])
   rw [gH] at this
   exact this
  ·have:=yX o0 aI aH aG aF x0 x1 x2 x3 x4 x5 (bD cb) (bD cx) (bD fr) (bD st) u cb.length cx.length v hc hx a w g0 y.1 y.2.1 y.2.2 (by rw [aN])
   rw [gH] at this
   exact this
 |false=>
 rw [if_neg (by simp)]
 cases h2:qU 3145728 64 a n with
 |true=>
  have y:=Bx h2
  have g0:a<1048576∨(cb.length:Int)<IntKind.u64.wrap (a - 1048576)∨(cb.length:Int) - IntKind.u64.wrap (a - 1048576)<n:=by
   right;left
   rw [eM] at y ⊢
   omega
  rw [if_pos rfl]
  rcases hn with rfl|rfl|rfl|rfl
  ·have:=yW o0 aI aH aG aF x0 x1 x2 x3 x4 x5 (bD cb) (bD cx) (bD fr) (bD st) u cb.length cx.length v hc hx a w g0 (dV h1) y.1 y.2.1 y.2.2 (by rw [aN,hf])
   rw [gH] at this
   exact this
  ·have:=yV o0 aI aH aG aF x0 x1 x2 x3 x4 x5 (bD cb) (bD cx) (bD fr) (bD st) u cb.length cx.length v hc hx a w g0 (dV h1) y.1 y.2.1 y.2.2 (by rw [aN,hf])
   rw [gH] at this
   exact this
  ·have:=yU o0 aI aH aG aF x0 x1 x2 x3 x4 x5 (bD cb) (bD cx) (bD fr) (bD st) u cb.length cx.length v hc hx a w g0 (dV h1) y.1 y.2.1 y.2.2 (by rw [aN,hf])
   rw [gH] at this
   exact this
  ·have:=yT o0 aI aH aG aF x0 x1 x2 x3 x4 x5 (bD cb) (bD cx) (bD fr) (bD st) u cb.length cx.length v hc hx a w g0 (dV h1) y.1 y.2.1 y.2.2 (by rw [aN,hf])
   rw [gH] at this
   exact this
 |false=>
 rw [if_neg (by simp)]
 cases h3:qU 4194304 264 a n with
 |true=>
  have y:=Bx h3
  have g0:a<1048576∨(cb.length:Int)<IntKind.u64.wrap (a - 1048576)∨(cb.length:Int) - IntKind.u64.wrap (a - 1048576)<n:=by
   right;left
   rw [eM] at y ⊢
   omega
  rw [if_pos rfl]
  rcases hn with rfl|rfl|rfl|rfl
  ·have:=yR o0 aI aH aG aF x0 x1 x2 x3 x4 x5 (bD cb) (bD cx) (bD fr) (bD st) u cb.length cx.length v hc hx a w g0 (dV h1) (dV h2) y.1 y.2.1 y.2.2 (by rw [aN,hs])
   rw [gH] at this
   exact this
  ·have:=yQ o0 aI aH aG aF x0 x1 x2 x3 x4 x5 (bD cb) (bD cx) (bD fr) (bD st) u cb.length cx.length v hc hx a w g0 (dV h1) (dV h2) y.1 y.2.1 y.2.2 (by rw [aN,hs])
   rw [gH] at this
   exact this
  ·have:=yP o0 aI aH aG aF x0 x1 x2 x3 x4 x5 (bD cb) (bD cx) (bD fr) (bD st) u cb.length cx.length v hc hx a w g0 (dV h1) (dV h2) y.1 y.2.1 y.2.2 (by rw [aN,hs])
   rw [gH] at this
   exact this
  ·have:=yO o0 aI aH aG aF x0 x1 x2 x3 x4 x5 (bD cb) (bD cx) (bD fr) (bD st) u cb.length cx.length v hc hx a w g0 (dV h1) (dV h2) y.1 y.2.1 y.2.2 (by rw [aN,hs])
   rw [gH] at this
   exact this
 |false=>
 rw [if_neg (by simp)]
 cases h0:qU 1048576 cb.length a n with
 |true=>exact BA o0 aI aH aG aF x0 x1 x2 x3 x4 x5 (bD cb) (bD cx) (bD fr) (bD st) u cb.length cx.length v hc hx w a n hn (by omega) (by omega) (Bx h0).1 (Bx h0).2.1 (Bx h0).2.2 (dV h1) (dV h2) (dV h3)
 |false=>exact DH o0 aI aH aG aF x0 x1 x2 x3 x4 x5 (bD cb) (bD cx) (bD fr) (bD st) u cb.length cx.length v hc hx w a n hn (by omega) (by omega) (dV h0) (dV h1) (dV h2) (dV h3)
end
theorem Ep (v:Int):aE Tryz.prog 162 [.int .i64 v] (.int .i64 (qC v:Int)):=by
 unfold qC
 by_cases h0:0≤v
 ·by_cases h1:v≤15
  ·rw [if_pos ⟨h0,h1⟩]
   have e:Int.tmod v 6=((v.toNat%6:Nat):Int):=by rw [Int.tmod_eq_emod_of_nonneg h0];omega
   rw [← e]
   exact C1 v h0 h1
  ·rw [if_neg (fun h=>h1 h.2)];exact u7 v (by omega)
 ·rw [if_neg (fun h=>h0 h.1)];exact u6 v (by omega)
theorem EF (m:ao) (v:Int) (hn:aE Tryz.prog 144 [.agg (hQ m)] (.aA [.int .i64 v,.bool true])):aE Tryz.prog 145 [.agg (hQ m)] (.aj .no 1 (wD (qf m (qC v)))):=by
 have ha:=Ep v
 have h5:=EZ v
 generalize qC v=n at ha h5
 have:n=0∨n=1∨n=2∨n=3∨n=4∨n=5:=by omega
 rcases this with rfl|rfl|rfl|rfl|rfl|rfl
 ·exact (xx m v hn ha).to (by exact ⟨rfl,.inr rfl,trivial,.inl rfl⟩)
 ·exact (xw m v hn ha).to (by exact ⟨rfl,.inl rfl,trivial,.inr rfl⟩)
 ·exact (xv m v hn ha).to (by exact ⟨rfl,.inl rfl,trivial,.inr rfl⟩)
 ·exact (xu m v hn ha).to (by exact ⟨rfl,.inl rfl,trivial,.inr rfl⟩)
 ·exact (xr m v hn ha).to (by exact ⟨rfl,.inl rfl,trivial,.inr rfl⟩)
 ·exact (xq m v hn ha).to (by exact ⟨rfl,.inl rfl,trivial,.inr rfl⟩)
abbrev eS (o0 aI aH aG aF:Ob) (cb:List Int) (nc nx:Nat) (e:lF) (v:Nat) (dd:List Ob):List Ob:=o0:: .box (fX nc nx):: .dead:: .dead:: .box (bD cb):: .dead:: .dead:: .box (bD e.cx):: .box (bD e.fr):: .box (bD e.st):: .dead:: .box (uC e.m (wD e.an) (dE e.tr) v e.en)::aI::aH::aG::aF:: .bX v 3::dd
theorem Hc {m:ao} {x:XS} {ld:Int} (hm:x.may=true) (ho:x.op=26∨x.op=27∨x.op=30∨x.op=31):(fw m x ld).2=0:=by
 rw [ru hm]
 obtain ⟨op,w,dst,src,base,aa,af,cc⟩:=x
 rcases ho with h|h|h|h<;>(simp only at h;subst h;rfl)
theorem uV {op w dst src base aa af cc:Int} (h:cg op w dst src base aa af cc=true) (ho:op=26∨op=27):bh w=true:=by
 have hs:=(dv h).2
 rcases ho with rfl|rfl
 ·rw [show ax 26=7 from rfl] at hs
  simp [hN] at hs;exact hs.1
 ·rw [show ax 27=8 from rfl] at hs
  simp [hN] at hs;exact hs.1
theorem yw {op w dst src base aa af cc:Int} (h:cg op w dst src base aa af cc=true):op≤127:=by
 have hs:=(dv h).2
 have hsh:ax op≠0:=by
  intro e
  rw [e] at hs
  simp [hN] at hs
 rcases gK hsh with rfl|rfl|rfl|rfl|rfl|rfl|rfl|rfl|rfl|rfl|rfl|rfl|rfl|rfl|rfl|rfl|rfl|rfl|rfl|rfl|rfl|rfl|rfl|rfl|rfl|rfl|rfl|rfl|rfl|rfl|rfl|rfl<;>decide
theorem B9 {b:List Int} {x:XS} (h:mm b=some x):x.may=true:=by
 unfold mm at h
 split at h
 ·rename_i hf
  cases h
  unfold jy at hf
  rw [Bool.and_eq_true] at hf
  exact hf.1
 ·cases h
theorem bne {a b:Int} (h:a≠b):(a==b)=false:=by rw [beq_eq_false_iff_ne];exact h
theorem CZ {b:List Int} (h:gQ b) (k:Nat):gQ (b.drop k):=fun x hx=>h x (List.mem_of_mem_drop hx)
theorem BQ (o0 aI aH aG aF:Ob) (cb:List Int) (hb:gQ cb) (hc:cb.length≤16384) (nx:Nat) (hnx:nx≤256) (e:lF) (hx:e.cx.length=nx) (hf:e.fr.length=64) (hs:e.st.length=264) (ht:e.tr.length≤100000):
  ∃(v:Nat) (dd:List Ob),(v=0∨v=1∧(cC cb e).2=true)∧ai Tryz.prog 47 [.ptr false 11 0] (eS o0 aI aH aG aF cb cb.length nx e 0 []) (.bool (cC cb e).2) (eS o0 aI aH aG aF cb cb.length nx (cC cb e).1 v dd):=by
 obtain ⟨m,cx,fr,st,an,tr,en⟩:=e
 simp only at hx hf hs ht
 subst hx
 cases h0:qU 1048576 cb.length m.pc 1 with
 |false=>
  have es:cC cb ⟨m,cx,fr,st,an,tr,en⟩=(⟨m,cx,fr,st,an,tr,3⟩,false):=by unfold cC;rw [if_neg (by rw [h0];decide)]
  rw [es]
  exact ⟨0,[],.inl rfl,v5 o0 aI aH aG aF (bD cb) (bD cx) (bD fr) (bD st) (wD an) (dE tr) m en cb.length cx.length hc hnx (dV h0)⟩
 |true=>
  obtain ⟨p0,p1,p2⟩:=Bx h0
  have hk0:0≤IntKind.u64.wrap (m.pc - 1048576):=by rw [eM];omega
  have hF:gB (bD cb) (0+Int.toNat (IntKind.u64.wrap (m.pc - 1048576))*1) ((cb.length - Int.toNat (IntKind.u64.wrap (m.pc - 1048576)))*1) (bD (cb.drop (ka 1048576 m.pc))):=by
   refine ⟨?_,by rw [aN];omega⟩
   have:0+Int.toNat (IntKind.u64.wrap (m.pc - 1048576))*1=ka 1048576 m.pc:=by unfold ka;omega
   rw [this,Nat.mul_one]
   unfold bD
   rw [← List.map_drop,List.take_of_length_le]
   rw [List.length_map,List.length_drop]
   unfold ka
   omega
  have hr:=Ca (cb.drop (ka 1048576 m.pc)) (CZ hb _)
  cases hM:mm (cb.drop (ka 1048576 m.pc)) with
  |none=>
   rw [hM] at hr
   have es:cC cb ⟨m,cx,fr,st,an,tr,en⟩=(⟨m,cx,fr,st,an,tr,3⟩,false):=by unfold cC;rw [if_pos h0,hM]
   rw [es]
   exact ⟨0,[.dead,.dead,.dead],.inl rfl,zl o0 aI aH aG aF (bD cb) (bD cx) (bD fr) (bD st) (wD an) (dE tr) m en cb.length cx.length hc hnx p0 p1 p2 _ hF (bL _) 0 0 0 0 0 0 0 0 0 30 hr (by decide)⟩
  |some x=>
   rw [hM] at hr
   have hm:=B9 hM
   have hd:=fun ld=>A0 m x ld (yw hm)
   have he0:=fun ld=>Hc (m:=m) (ld:=ld) hm
   obtain ⟨op,w,dst,src,base,aa,af,cc⟩:=x
   have hm':cg op w dst src base aa af cc=true:=hm
   have hop:=yw hm'
   obtain ⟨⟨d0,d1,s0,s1,b0,b1,_⟩,_⟩:=dv hm'
   by_cases c31:op=31
   ·subst c31
    have ha:=vz m 31 w dst src base aa af cc hop (by decide) (by decide) (by decide) hm'
    have hn:=EC m
    cases hq:qu m.q0 with
    |false=>
     rw [hq] at hn
     have es:cC cb ⟨m,cx,fr,st,an,tr,en⟩=(⟨m,cx,fr,st,an,tr,3⟩,false):=by
      simp [cC,h0,hM,hq]
     rw [es]
     exact ⟨0,List.replicate 6 .dead,.inl rfl,ur o0 aI aH aG aF (bD cb) (bD cx) (bD fr) (bD st) (wD an) (dE tr) m en cb.length cx.length hc hnx p0 p1 p2 _ hF (bL _) _ _ _ _ _ _ _ _ _ hr rfl rfl rfl rfl _ _ _ ha _ hn⟩
    |true=>
     rw [hq] at hn
     cases an with
     |nil=>
      have es:cC cb ⟨m,cx,fr,st,[],tr,en⟩=(⟨m,cx,fr,st,[],tr,2⟩,false):=by
       simp [cC,h0,hM,hq]
      rw [es]
      exact ⟨0,List.replicate 6 .dead,.inl rfl,uq o0 aI aH aG aF (bD cb) (bD cx) (bD fr) (bD st) (dE tr) m en cb.length cx.length hc hnx p0 p1 p2 _ hF (bL _) _ _ _ _ _ _ _ _ _ hr rfl rfl rfl rfl _ _ _ ha _ hn⟩
     |cons a0 ar=>
      have es:cC cb ⟨m,cx,fr,st,a0::ar,tr,en⟩=(⟨(fw m ⟨31,w,dst,src,base,aa,af,cc⟩ a0).1,cx,fr,st,ar,tr++ [⟨lS m.q0,qf m (qC (lS m.q0)),a0⟩],0⟩,true):=by
       simp [cC,h0,hM,hq]
      rw [es]
      have hD:=hd a0
      rw [he0 a0 (.inr (.inr (.inr rfl)))] at hD
      have hg:=EF m _ hn
      have et:dE (tr++ [⟨lS m.q0,qf m (qC (lS m.q0)),a0⟩])=dE tr++ [.agg [.int .i64 (lS m.q0),.aj .no 1 (wD (qf m (qC (lS m.q0)))),.int .u64 a0]]:=by simp [dE,tU.d]
      refine ⟨1,List.replicate 9 .dead,.inr ⟨rfl,rfl⟩,?_⟩
      have:=zn o0 aI aH aG aF (bD cb) (bD cx) (bD fr) (bD st) (wD ar) (dE tr) _ m en cb.length cx.length hc hnx p0 p1 p2 _ hF (bL _) _ _ _ _ _ _ _ _ _ hr rfl rfl rfl rfl _ _ _ ha _ a0 (by simpa [dE] using ht) hn hg _ _ hD rfl
      rw [← et] at this
      exact this
   by_cases c27:op=27
   ·subst c27
    have hw:=uV hm' (.inr rfl)
    have hwc:=fZ hw
    have ha:=Bd m w dst src base aa af cc d0 d1 s0 s1 b0 b1 (by omega) (by omega) hm'
    have hst:=Bb m w dst src base aa af cc d0 d1 s0 s1 b0 b1 hw hm'
    have hW:=ze o0 aI aH aG aF (.bX 0 1) .dead (.box [.int .i8 27,.int .i8 w,.int .i8 dst,.int .i8 src,.int .i8 base,.int .i64 aa,.int .i64 af,.int .i8 cc]) (.box [.int .i8 27,.int .i8 w,.int .i8 dst,.int .i8 src,.int .i8 base,.int .i64 aa,.int .i64 af,.int .i8 cc]) .dead .dead cb cx fr st (uC m (wD an) (dE tr) 0 3) 0 hc hnx hf hs (u64 (rg m.rl base+u64 aa)) (w / 8) (aP (rg m.rl src) w) (by omega)
    cases hS:mV cx fr st (u64 (rg m.rl base+u64 aa)) (w / 8) (aP (rg m.rl src) w) with
    |none=>
     rw [hS] at hW
     have es:cC cb ⟨m,cx,fr,st,an,tr,en⟩=(⟨m,cx,fr,st,an,tr,3⟩,false):=by
      simp [cC,h0,hM,hS]
     rw [es]
     exact ⟨0,List.replicate 6 .dead,.inl rfl,sA o0 aI aH aG aF (bD cb) (bD cx) (bD fr) (bD st) (wD an) (dE tr) m en cb.length cx.length hc hnx p0 p1 p2 _ hF (bL _) _ _ _ _ _ _ _ _ _ hr rfl rfl rfl rfl _ _ _ ha _ hst hW⟩
    |some r=>
     rw [hS] at hW
     have es:cC cb ⟨m,cx,fr,st,an,tr,en⟩=(⟨(fw m ⟨27,w,dst,src,base,aa,af,cc⟩ 0).1,r.1,r.2.1,r.2.2,an,tr,0⟩,true):=by
      simp [cC,h0,hM,hS]
     rw [es]
     have hD:=hd 0
     rw [he0 0 (.inr (.inl rfl))] at hD
     exact ⟨0,List.replicate 8 .dead,.inl rfl,vY o0 aI aH aG aF (bD cb) (bD cx) (bD fr) (bD st) (wD an) (dE tr) m en cb.length cx.length hc hnx p0 p1 p2 _ hF (bL _) _ _ _ _ _ _ _ _ _ hr rfl rfl rfl rfl _ _ _ ha _ _ _ _ hst hW _ _ hD rfl⟩
   by_cases c26:op=26
   ·subst c26
    have hw:=uV hm' (.inl rfl)
    have hwc:=fZ hw
    have ha:=Be m w dst src base aa af cc d0 d1 s0 s1 b0 b1 (by omega) (by omega) hm'
    have hL:=uY o0 aI aH aG aF (.bX 0 1) .dead (.box [.int .i8 26,.int .i8 w,.int .i8 dst,.int .i8 src,.int .i8 base,.int .i64 aa,.int .i64 af,.int .i8 cc]) (.box [.int .i8 26,.int .i8 w,.int .i8 dst,.int .i8 src,.int .i8 base,.int .i64 aa,.int .i64 af,.int .i8 cc]) .dead cb cx fr st (uC m (wD an) (dE tr) 0 3) 0 hc hnx hf hs (u64 (rg m.rl base+u64 aa)) (w / 8) (by omega)
    cases hS:qS cb cx fr st (u64 (rg m.rl base+u64 aa)) (w / 8) with
    |none=>
     rw [hS] at hL
     have es:cC cb ⟨m,cx,fr,st,an,tr,en⟩=(⟨m,cx,fr,st,an,tr,3⟩,false):=by
      simp [cC,h0,hM,hS]
     rw [es]
     exact ⟨0,List.replicate 5 .dead,.inl rfl,uo o0 aI aH aG aF (bD cb) (bD cx) (bD fr) (bD st) (wD an) (dE tr) m en cb.length cx.length hc hnx p0 p1 p2 _ hF (bL _) _ _ _ _ _ _ _ _ _ hr rfl rfl rfl rfl _ _ _ ha hL⟩
    |some z=>
     rw [hS] at hL
     have es:cC cb ⟨m,cx,fr,st,an,tr,en⟩=(⟨(fw m ⟨26,w,dst,src,base,aa,af,cc⟩ z).1,cx,fr,st,an,tr,0⟩,true):=by
      simp [cC,h0,hM,hS]
     rw [es]
     have hD:=hd z
     rw [he0 z (.inl rfl)] at hD
     exact ⟨0,List.replicate 7 .dead,.inl rfl,zm o0 aI aH aG aF (bD cb) (bD cx) (bD fr) (bD st) (wD an) (dE tr) m en cb.length cx.length hc hnx p0 p1 p2 _ hF (bL _) _ _ _ _ _ _ _ _ _ hr rfl rfl rfl rfl _ _ _ ha _ hL _ _ hD rfl⟩
   by_cases c30:op=30
   ·subst c30
    have ha:=Bc m w dst src base aa af cc d0 d1 s0 s1 b0 b1 hm'
    have hL:=uY o0 aI aH aG aF (.bX 0 1) .dead (.box [.int .i8 30,.int .i8 w,.int .i8 dst,.int .i8 src,.int .i8 base,.int .i64 aa,.int .i64 af,.int .i8 cc]) (.box [.int .i8 30,.int .i8 w,.int .i8 dst,.int .i8 src,.int .i8 base,.int .i64 aa,.int .i64 af,.int .i8 cc]) .dead cb cx fr st (uC m (wD an) (dE tr) 0 3) 0 hc hnx hf hs m.q4 8 (by omega)
    cases hS:qS cb cx fr st m.q4 8 with
    |none=>
     rw [hS] at hL
     have es:cC cb ⟨m,cx,fr,st,an,tr,en⟩=(⟨m,cx,fr,st,an,tr,3⟩,false):=by
      simp [cC,h0,hM,hS]
     rw [es]
     exact ⟨0,List.replicate 5 .dead,.inl rfl,vZ o0 aI aH aG aF (bD cb) (bD cx) (bD fr) (bD st) (wD an) (dE tr) m en cb.length cx.length hc hnx p0 p1 p2 _ hF (bL _) _ _ _ _ _ _ _ _ _ hr rfl rfl rfl rfl _ _ _ ha hL⟩
    |some z=>
     rw [hS] at hL
     have hD:=hd z
     rw [he0 z (.inr (.inr (.inl rfl)))] at hD
     by_cases hz:z=0
     ·have es:cC cb ⟨m,cx,fr,st,an,tr,en⟩=(⟨(fw m ⟨30,w,dst,src,base,aa,af,cc⟩ z).1,cx,fr,st,an,tr,1⟩,false):=by
       simp [cC,h0,hM,hS,hz]
      rw [es]
      exact ⟨0,List.replicate 7 .dead,.inl rfl,zk o0 aI aH aG aF (bD cb) (bD cx) (bD fr) (bD st) (wD an) (dE tr) m en cb.length cx.length hc hnx p0 p1 p2 _ hF (bL _) _ _ _ _ _ _ _ _ _ hr rfl rfl rfl rfl _ _ _ ha _ hL _ _ hD rfl (by rw [hz];rfl)⟩
     ·have es:cC cb ⟨m,cx,fr,st,an,tr,en⟩=(⟨(fw m ⟨30,w,dst,src,base,aa,af,cc⟩ z).1,cx,fr,st,an,tr,0⟩,true):=by
       simp [cC,h0,hM,hS,hz]
      rw [es]
      exact ⟨0,List.replicate 7 .dead,.inl rfl,BV o0 aI aH aG aF (bD cb) (bD cx) (bD fr) (bD st) (wD an) (dE tr) m en cb.length cx.length hc hnx p0 p1 p2 _ hF (bL _) _ _ _ _ _ _ _ _ _ hr rfl rfl rfl rfl _ _ _ ha _ hL _ _ hD rfl (bne hz)⟩
   ·have ha:=vz m op w dst src base aa af cc hop (bne c26) (bne c27) (bne c30) hm'
    by_cases he:(fw m ⟨op,w,dst,src,base,aa,af,cc⟩ 0).2=0
    ·have es:cC cb ⟨m,cx,fr,st,an,tr,en⟩=(⟨(fw m ⟨op,w,dst,src,base,aa,af,cc⟩ 0).1,cx,fr,st,an,tr,0⟩,true):=by
      simp [cC,h0,hM,c31,c27,c26,c30,he]
     rw [es]
     exact ⟨0,List.replicate 7 .dead,.inl rfl,zo o0 aI aH aG aF (bD cb) (bD cx) (bD fr) (bD st) (wD an) (dE tr) m en cb.length cx.length hc hnx p0 p1 p2 _ hF (bL _) _ _ _ _ _ _ _ _ _ hr (bne c26) (bne c27) (bne c30) (bne c31) _ _ _ ha _ _ (hd 0) he⟩
    ·have es:cC cb ⟨m,cx,fr,st,an,tr,en⟩=(⟨m,cx,fr,st,an,tr,3⟩,false):=by
      simp [cC,h0,hM,c31,c27,c26,c30,he]
     rw [es]
     exact ⟨0,List.replicate 7 .dead,.inl rfl,uv o0 aI aH aG aF (bD cb) (bD cx) (bD fr) (bD st) (wD an) (dE tr) m en cb.length cx.length hc hnx p0 p1 p2 _ hF (bL _) _ _ _ _ _ _ _ _ _ hr (bne c26) (bne c27) (bne c30) (bne c31) _ _ _ ha _ _ (hd 0) he⟩
abbrev Hx:List D:= [.iq 15,.ptr false 12 0,.undef,.ptr false 14 0,.undef,.undef,.undef,.undef,.undef,.undef,.undef,.undef,.undef,.undef,.undef,.undef,.undef,.undef,.undef,.undef,.undef,.undef,.undef,.undef,.undef,.undef,.undef,.undef,.undef,.undef,.undef,.undef,.undef,.undef,.undef]
abbrev Hw:List D:= [.undef,.undef,.undef,.undef,.undef,.undef,.undef,.undef,.undef,.undef,.undef,.undef,.undef,.undef,.undef,.undef,.undef,.undef,.undef,.undef,.undef,.undef,.undef,.undef,.undef,.undef,.undef,.undef,.undef,.undef,.undef,.undef,.undef,.undef,.undef]
abbrev Ib (lp:Ob) (cb:List Int) (nx:Nat) (e:lF) (left:Int):List Ob:=eS (.box [.int .i8 0,.int .u64 0,.aj .tight 0 [],.aj .tight 0 [],.int .i64 left]) (.box [.ptr false 11 0]) .dead (.box [.ptr false 0 4]) lp cb cb.length nx e 0 []
def GF (e:lF):Ex:=if e.en=0 then .exit 0 else .ret
theorem pa (cb:List Int) (hb:gQ cb) (hc:cb.length≤16384) (nx:Nat) (hnx:nx≤256):∀(f:Nat) (e:lF),e.en=0→e.cx.length=nx→e.fr.length=64→e.st.length=264→e.tr.length+f≤100000→
  cK Tryz.prog (eJ Tryz.f45 0) 16 Hx (Ib (.lp .ready (List.replicate 56 .undef) #[27,28] (dq Tryz.f10 0) (dp Tryz.f10 0)) cb nx e (f:Int)) (GF (eW cb f e).1) Hw (Ib (.lp .ready (List.replicate 56 .undef) #[27,28] (dq Tryz.f10 0) (dp Tryz.f10 0)) cb nx (eW cb f e).1 ((eW cb f e).2:Int))
 |0,e,h0,hx,hf,hs,ht=>by
  have:=Ge (bD cb) (bD e.cx) (bD e.fr) (bD e.st) (wD e.an) (dE e.tr) e.m ((0:Nat):Int) e.en cb.length nx (bq _) (bq _) (bq _) (bq _) (Int.le_refl _)
  rw [cN,cN,cN,cN] at this
  rw [eW,GF,if_pos h0]
  exact cK.last this (fun h=>by cases h)
 |f+1,e,h0,hx,hf,hs,ht=>by
  have hw:IntKind.i64.wrap (((f+1:Nat):Int) - 1)=(f:Int):=by rw [ct];omega
  obtain ⟨v,dd,hv,hS⟩:=BQ (.box [.int .i8 0,.int .u64 0,.aj .tight 0 [],.aj .tight 0 [],.int .i64 (f:Int)]) (.box [.ptr false 11 0]) .dead (.box [.ptr false 0 4]) (.lp .ready (List.replicate 56 .undef) #[27,28] (dq Tryz.f10 0) (dp Tryz.f10 0)) cb hb hc nx hnx e hx hf hs (by omega)
  have hen:=x8 cb e
  have hok:=so cb e
  rw [eW]
  cases hst:cC cb e with
  |mk e2 b=>
   rw [hst] at hS hv hen hok
   simp only at hS hv hen hok
   cases b with
   |true=>
    obtain ⟨t,ht2,hl⟩:=hok.tr
    have ih:=pa cb hb hc nx hnx f e2 (hen.1 rfl) (hok.cx.trans hx) (hok.fr.trans hf) (hok.st.trans hs) (by rw [ht2,List.length_append];omega)
    rw [← hw] at hS
    rcases hv with rfl|⟨rfl,_⟩
    ·have:=Gd (bD cb) (bD e.cx) (bD e.fr) (bD e.st) (wD e.an) (dE e.tr) e.m ((f+1:Nat):Int) e.en cb.length nx (bq _) (bq _) (bq _) (bq _) (bD e2.cx) (bD e2.fr) (bD e2.st) (wD e2.an) (dE e2.tr) e2.m e2.en dd (bq _) (bq _) (bq _) (by omega) hS
     rw [cN,cN,cN,cN,hw] at this
     exact cK.iM this ih
    ·have:=Gc (bD cb) (bD e.cx) (bD e.fr) (bD e.st) (wD e.an) (dE e.tr) e.m ((f+1:Nat):Int) e.en cb.length nx (bq _) (bq _) (bq _) (bq _) (bD e2.cx) (bD e2.fr) (bD e2.st) (wD e2.an) (dE e2.tr) e2.m e2.en dd (bq _) (bq _) (bq _) (by omega) hS
     rw [cN,cN,cN,cN,hw] at this
     exact cK.iM this ih
   |false=>
    rw [← hw] at hS
    rcases hv with rfl|⟨_,h⟩
    ·have:=G6 (bD cb) (bD e.cx) (bD e.fr) (bD e.st) (wD e.an) (dE e.tr) e.m ((f+1:Nat):Int) e.en cb.length nx (bq _) (bq _) (bq _) (bq _) (bD e2.cx) (bD e2.fr) (bD e2.st) (wD e2.an) (dE e2.tr) e2.m e2.en dd (bq _) (bq _) (bq _) (by omega) hS
     rw [cN,cN,cN,cN,hw] at this
     simp only [GF]
     rw [if_neg (hen.2 rfl)]
     exact cK.last this (fun h=>by cases h)
    ·cases h
def Ix:ao:=⟨0,0,0,0,4194560,0,0,0,0,0,0,0,0,0,0,0,false,false,false,false,false,1048576⟩
def vy (cx an:List Int):lF:=⟨Ix,cx,List.replicate 64 0,List.replicate 264 0,an,[],0⟩
abbrev EE (lp:Ob) (cc cx:List D) (an:List D) (f:Int):List Ob:= [.box [.int .i8 0,.int .u64 0,.aj .tight 0 [],.aj .tight 0 [],.int .i64 f],.box (fX cc.length cx.length),.dead,.dead,.box (cc.map D.aX),.dead,.dead,.box (cx.map D.aX),.box ((List.replicate 64 (fN (Value.int IntKind.u8 0))).map D.aX),.box ((List.replicate 264 (fN (Value.int IntKind.u8 0))).map D.aX),.dead,.box [.int .u64 0,.int .u64 0,.int .u64 0,.int .u64 0,.int .u64 4194560,.int .u64 0,.int .u64 0,.int .u64 0,.int .u64 0,.int .u64 0,.int .u64 0,.int .u64 0,.int .u64 0,.int .u64 0,.int .u64 0,.int .u64 0,.bool false,.bool false,.bool false,.bool false,.bool false,.int .u64 1048576,.ptr false 1 0,.aj .no 1 an,.aj (.tok 16 0) 3 [],.int .i8 0],.box [.ptr false 11 0],.dead,.box [.ptr false 0 4],lp,.bX 0 3]
abbrev Hv (lp:Ob) (cb:List Int) (e:lF) (f:Int):List Ob:= [.box [.int .i8 0,.int .u64 0,.aj .tight 0 [],.aj .tight 0 [],.int .i64 f],.box (fX (bD cb).length (bD e.cx).length),.dead,.dead,.box (bD cb),.dead,.dead,.box (bD e.cx),.box (bD e.fr),.box (bD e.st),.dead,.box (uC e.m (wD e.an) (dE e.tr) 0 e.en),.box [.ptr false 11 0],.dead,.box [.ptr false 0 4],lp,.bX 0 3]
theorem GP (n:Nat):(List.replicate n (fN (Value.int IntKind.u8 0))).map D.aX=bD (List.replicate n 0):=by
 rw [bD,List.map_replicate,List.map_replicate];rfl
theorem Fh (cb cx an:List Int) (f:Nat) (E:lF) (lf:Nat) (hb:gQ cb) (lc:(bD cb).length≤16384) (lx:(bD cx).length≤256) (hf:f≤100000) (hR:eW cb f (vy cx an)=(E,lf)):
  ea Tryz.prog 16 (.loop (eJ Tryz.f45 0)) Hx (EE (.lp .ready (List.replicate 56 .undef) #[27,28] (dq Tryz.f10 0) (dp Tryz.f10 0)) (bD cb) (bD cx) (wD an) (f:Int)) (GF E) Hw (Hv (.lp .ready (List.replicate 56 .undef) #[27,28] (dq Tryz.f10 0) (dp Tryz.f10 0)) cb E (lf:Int)):=by
 have hl:=(oe cb f (vy cx an)).1
 have:=pa cb hb (by rw [aN] at lc;exact lc) cx.length (by rw [aN] at lx;exact lx) f (vy cx an) rfl rfl rfl rfl (by show 0+f≤100000;omega)
 rw [hR] at this hl
 have hl':E.cx.length=cx.length:=hl
 unfold EE Hv
 rw [GP,GP,cN,cN,aN,aN,aN,hl']
 exact ea.gM (by simp) this
theorem FC (cb cx an:List Int) (f:Nat) (E:lF) (lf:Nat) (hb:gQ cb) (lc:(bD cb).length≤16384) (lx:(bD cx).length≤256) (hf:f≤100000) (hR:eW cb f (vy cx an)=(E,lf)) (he:E.en=0):
  ea Tryz.prog 16 (.loop (eJ Tryz.f45 0)) Hx (EE (.lp .ready (List.replicate 56 .undef) #[27,28] (dq Tryz.f10 0) (dp Tryz.f10 0)) (bD cb) (bD cx) (wD an) (f:Int)) (.exit 0) Hw (Hv (.lp .ready (List.replicate 56 .undef) #[27,28] (dq Tryz.f10 0) (dp Tryz.f10 0)) cb E (lf:Int)):=by
 have:=Fh cb cx an f E lf hb lc lx hf hR
 rw [GF,if_pos he] at this
 exact this
theorem B0 (cb cx an:List Int) (f:Nat) (E:lF) (lf:Nat) (hb:gQ cb) (lc:(bD cb).length≤16384) (lx:(bD cx).length≤256) (hf:f≤100000) (hR:eW cb f (vy cx an)=(E,lf)) (he:E.en≠0):
  ea Tryz.prog 16 (.loop (eJ Tryz.f45 0)) Hx (EE (.lp .ready (List.replicate 56 .undef) #[27,28] (dq Tryz.f10 0) (dp Tryz.f10 0)) (bD cb) (bD cx) (wD an) (f:Int)) .ret Hw (Hv (.lp .ready (List.replicate 56 .undef) #[27,28] (dq Tryz.f10 0) (dp Tryz.f10 0)) cb E (lf:Int)):=by
 have:=Fh cb cx an f E lf hb lc lx hf hR
 rw [GF,if_neg he] at this
 exact this
theorem m6 (cb cx:List Int) (an:List D) (fuel:Int) (hc:bA (bD cb)=some (bD cb)) (hx:bA (bD cx)=some (bD cx)) (bb:(bD cb).all isByte=true) (bx:(bD cx).all isByte=true) (lc:(bD cb).length≤16384) (lx:(bD cx).length≤256) (f0:0≤fuel) (f1:fuel≤640064):ai Tryz.prog 23 ([.aj .no 1 (bD cb),.aj .no 1 (bD cx),.aj .no 1 an,.int .i64 fuel]) ([.box [.int .i8 0,.int .u64 0,.aj .tight 0 [],.aj .tight 0 [],.int .i64 0]]) (.aA [.ptr false 11 0,.int .i64 0]) ([.box [.int .i8 0,.int .u64 0,.aj .tight 0 [],.aj .tight 0 [],.int .i64 0],.box [.int .u64 1048576,.dn 4 1 (Int.toNat ((bD cb).length:Int)),.bool false,.int .u64 2097152,.dn 7 1 (Int.toNat ((bD cx).length:Int)),.bool true,.int .u64 3145728,.dn 8 1 64,.bool true,.int .u64 4194304,.dn 9 1 264,.bool true],.dead,.dead,.box (bD cb),.dead,.dead,.box (bD cx),.box (List.replicate 64 (fN (Value.int IntKind.u8 0))),.box (List.replicate 264 (fN (Value.int IntKind.u8 0))),.dead,.box [.int .u64 0,.int .u64 0,.int .u64 0,.int .u64 0,.int .u64 4194560,.int .u64 0,.int .u64 0,.int .u64 0,.int .u64 0,.int .u64 0,.int .u64 0,.int .u64 0,.int .u64 0,.int .u64 0,.int .u64 0,.int .u64 0,.bool false,.bool false,.bool false,.bool false,.bool false,.int .u64 1048576,.ptr false 1 0,.aj .no 1 an,.aj .tight 0 [],.int .i8 0]]):=by
 exact ai.ae (aB:= [0,1,4,7,8,9,11]) mixed ([.inl,tC (eF (a7 256 (by ((try simp only [eZ] at*);(try unfold dZ at*);omega):(decide ((↑(List.length (bD cx)):Int)<(257:Int)))=true))),tC (eF (a7 256 (by ((try simp only [eZ] at*);(try unfold dZ at*);omega):(decide ((↑(List.length (bD cx)):Int)<(257:Int)))=true))),tC (eF (a7 256 (by ((try simp only [eZ] at*);(try unfold dZ at*);omega):(decide ((↑(List.length (bD cx)):Int)<(257:Int)))=true))),tC (a7 256 (by ((try simp only [eZ] at*);(try unfold dZ at*);omega):(decide ((↑(List.length (bD cx)):Int)<(257:Int)))=true)),tC (a7 16384 (by ((try simp only [eZ] at*);(try unfold dZ at*);omega):(decide ((↑(List.length (bD cb)):Int)<(16385:Int)))=true)),.inl,.cU (decide ((0:Int)≤(↑(List.length (bD cb)):Int)∧(↑(List.length (bD cb)):Int)=(↑(List.length (bD cb)):Int)∧(↑(List.length (bD cb)):Int)≤(2147483648:Int))) true (by ((try simp only [eZ] at*);(try unfold dZ at*);omega)),.raw,.EH _ _ hc,tC (v:=true) (@gN (List.length (bD cb))),tC (v:=true) bb,.cm _ _ _ _ (@jH _ (Int.toNat (↑(List.length (bD cb)):Int)) (fN (Value.int IntKind.u8 (0:Int))) (bD cb) (by first|rfl|decide) (by first|rfl|decide)),.inl,.cU (decide ((0:Int)≤(↑(List.length (bD cx)):Int)∧(↑(List.length (bD cx)):Int)=(↑(List.length (bD cx)):Int)∧(↑(List.length (bD cx)):Int)≤(2147483648:Int))) true (by ((try simp only [eZ] at*);(try unfold dZ at*);omega)),.raw]++ [.EH _ _ hx,tC (v:=true) (@gN (List.length (bD cx))),tC (v:=true) bx,.cm _ _ _ _ (@jH _ (Int.toNat (↑(List.length (bD cx)):Int)) (fN (Value.int IntKind.u8 (0:Int))) (bD cx) (by first|rfl|decide) (by first|rfl|decide)),tT,.raw,tT,tT,.raw,tT,tT,tF,tC (eF (decide_eq_false (Int.not_lt.2 f0))),tC (eF (decide_eq_false (Int.not_lt.2 f0))),tC (decide_eq_false (Int.not_lt.2 f0)),tC (a7 640064 (decide_eq_true (Int.lt_add_one_of_le f1)))]++ [.inl]) (by kernel_rfl)
theorem EG (o0 o4 o8 o9 Fm aI aH aG aF Fl:Ob) (cx:List Int) (nc:Nat) (lE:(bD cx).length≤256) (cE:bA (bD cx)=some (bD cx)) (bE:(bD cx).all isByte=true):ai Tryz.prog 25 ([.ptr false 1 0]) ([o0,.box (fX nc (bD cx).length),.dead,.dead,o4,.dead,.dead,.box (bD cx),o8,o9,.dead,Fm,aI,aH,aG,aF,Fl]) (.dn 19 1 (Int.toNat ((bD cx).length:Int))) ([o0,.box (fX nc (bD cx).length),.dead,.dead,o4,.dead,.dead,.box (bD cx),o8,o9,.dead,Fm,aI,aH,aG,aF,Fl,.dead,.dead,.box (bD cx)]):=by
 exact (ai.ae (aB:= [0,1,2,3,4,5,6,7,8,9,10,11,12,13,14,15,16,19]) (d:= .dn 19 1 (Int.toNat (↑(List.length (bD cx)):Int))) (s':= [o0,.box [.int .u64 1048576,.dn 4 1 nc,.bool false,.int .u64 2097152,.dn 7 1 (List.length (bD cx)),.bool true,.int .u64 3145728,.dn 8 1 64,.bool true,.int .u64 4194304,.dn 9 1 264,.bool true],.dead,.dead,o4,.dead,.dead,.box (bD cx),o8,o9,.dead,Fm,aI,aH,aG,aF,Fl,.dead,.dead,.box (bD cx)]) mixed [.inl,tF,tT,.dX ([.int .u64 1048576,.dn 4 1 nc,.bool false,.int .u64 2097152,.dn 7 1 (List.length (bD cx)),.bool true,.int .u64 3145728,.dn 8 1 64,.bool true,.int .u64 4194304,.dn 9 1 264,.bool true]) 3 3 ([.int .u64 2097152,.dn 7 1 (List.length (bD cx)),.bool true]) ⟨rfl,by first|decide|simp⟩,.inl,.cU (decide ((0:Int)≤(↑(List.length (bD cx)):Int)∧(↑(List.length (bD cx)):Int)=(↑(List.length (bD cx)):Int)∧(↑(List.length (bD cx)):Int)≤(2147483648:Int))) true (by ((try simp only [eZ] at*);(try unfold dZ at*);omega)),.raw,.dX _ _ _ _ (@C8 (bD cx) (List.length (bD cx)*(1:Nat)) (by ((try simp only [eZ] at*);(try unfold dZ at*);omega))),tC (v:=true) (@gN (List.length (bD cx))),tC (v:=true) bE,.cm _ _ _ _ (@jH _ (Int.toNat (↑(List.length (bD cx)):Int)) (fN (Value.int IntKind.u8 (0:Int))) (bD cx) (by first|rfl|decide) (by first|rfl|decide))] (by kernel_rfl)).cast (by rfl) (by rfl)
theorem tu (o0 o4 o8 o9 Fm aI aH aG aF Fl:Ob) (cx:List Int) (nc:Nat) (lE:(bD cx).length≤256) (cE:bA (bD cx)=some (bD cx)) (bE:(bD cx).all isByte=true):
  ai Tryz.prog 25 [.ptr false 1 0] [o0,.box (fX nc (bD cx).length),.dead,.dead,o4,.dead,.dead,.box (bD cx),o8,o9,.dead,Fm,aI,aH,aG,aF,Fl] (.aj .no 1 (bD cx)) [o0,.box (fX nc (bD cx).length),.dead,.dead,o4,.dead,.dead,.box (bD cx),o8,o9,.dead,Fm,aI,aH,aG,aF,Fl,.dead,.dead,.dead]:=
 (EG o0 o4 o8 o9 Fm aI aH aG aF Fl cx nc lE cE bE).wT rfl (by rw [Int.toNat_natCast]) bE
theorem DW (cb cx an:List Int) (f:Nat) (E:lF) (lf:Nat) (f0:0≤(f:Int)) (f1:(f:Int)≤640064) (hb:gQ cb) (lc:(bD cb).length≤16384) (lx:(bD cx).length≤256) (hf:f≤100000) (hR:eW cb f (vy cx an)=(E,lf)) (hc:bA (bD cb)=some (bD cb)) (hx:bA (bD cx)=some (bD cx)) (bb:(bD cb).all isByte=true) (bx:(bD cx).all isByte=true) (lE:(bD E.cx).length≤256) (cE:bA (bD E.cx)=some (bD E.cx)) (bE:(bD E.cx).all isByte=true) (mE:(Nat.beq (List.length (bD E.cx)) (Int.toNat ((bD E.cx).length:Int))&&List.all (bD E.cx) isByte)=true) (he:E.en=0):aE Tryz.prog 10 ([.aj .no 1 (bD cb),.aj .no 1 (bD cx),.aj .no 1 (wD an),.int .i64 (f:Int)]) (.aA [.agg [.int .i8 E.en,.int .u64 (0),.aj .no 1 (bD E.cx),.aj .no 3 (dE E.tr),.int .i64 (lf:Int)],.int .i64 0]):=by
 have c0:= @FC (cb) (cx) (an) (f) _ _ hb lc lx hf hR he
 exact (aE.ae (d:= .aA [.agg [.int .i8 E.en,.int .u64 0,.aj .no 1 (bD E.cx),.aj .no 3 (dE E.tr),.int .i64 (↑lf:Int)],.int .i64 0]) mixed Tryz.func10 (by kernel_rfl) [.aC _ _ _ _ _ (@m6 (cb) (cx) (wD an) ((↑f:Int)) hc hx bb bx lc lx f0 f1),tF,.inl,.Fi [],.head ⟨[0,1,3],[0,1,11,12,14,15,1000004,1000007,1000008,1000009],[(1011024,3)]⟩ _ _ _ _ _ _ _ c0,.cl (bD cb) (by first|exact eD rfl|exact bq _),.cl (bD cx) (by first|exact eD rfl|exact bq _),.cl (List.replicate 64 (fN (Value.int IntKind.u8 0))) (by first|exact eD rfl|exact bq _),.cl (List.replicate 264 (fN (Value.int IntKind.u8 0))) (by first|exact eD rfl|exact bq _),.aC _ _ _ _ _ (@tu (.box [.int .i8 0,.int .u64 0,.aj .tight 0 [],.aj .tight 0 [],.int .i64 (↑lf:Int)]) (.box (bD cb)) (.box (bD E.fr)) (.box (bD E.st)) (.box [.int .u64 E.m.q0,.int .u64 E.m.q1,.int .u64 E.m.q2,.int .u64 E.m.q3,.int .u64 E.m.q4,.int .u64 E.m.q5,.int .u64 E.m.q6,.int .u64 E.m.q7,.int .u64 E.m.q8,.int .u64 E.m.q9,.int .u64 E.m.bJ,.int .u64 E.m.bM,.int .u64 E.m.bQ,.int .u64 E.m.bP,.int .u64 E.m.bO,.int .u64 E.m.bN,.bool E.m.fk,.bool E.m.fc,.bool E.m.fz,.bool E.m.fs,.bool E.m.fo,.int .u64 E.m.pc,.ptr false 1 0,.aj .no 1 (wD E.an),.aj (jW.tok 16 0) 3 (dE E.tr),.int .i8 E.en]) (.box [.ptr false 11 0]) (.dead) (.box [.ptr false 0 4]) (.dead) (Ob.bX 0 3) E.cx (List.length (bD cb)) lE cE bE),.aB [(0,.box [.int .i8 0,.int .u64 0,.aj .tight 0 [],.aj .tight 0 [],.int .i64 (↑lf:Int)]),(1,.box [.int .u64 1048576,D.dn 4 1 (List.length (bD cb)),.bool false,.int .u64 2097152,D.dn 7 1 (List.length (bD E.cx)),.bool true,.int .u64 3145728,D.dn 8 1 64,.bool true,.int .u64 4194304,D.dn 9 1 264,.bool true]),(4,.box (bD cb)),(7,.box (bD E.cx)),(8,.box (bD E.fr)),(9,.box (bD E.st)),(11,.box [.int .u64 E.m.q0,.int .u64 E.m.q1,.int .u64 E.m.q2,.int .u64 E.m.q3,.int .u64 E.m.q4,.int .u64 E.m.q5,.int .u64 E.m.q6,.int .u64 E.m.q7,.int .u64 E.m.q8,.int .u64 E.m.q9,.int .u64 E.m.bJ,.int .u64 E.m.bM,.int .u64 E.m.bQ,.int .u64 E.m.bP,.int .u64 E.m.bO,.int .u64 E.m.bN,.bool E.m.fk,.bool E.m.fc,.bool E.m.fz,.bool E.m.fs,.bool E.m.fo,.int .u64 E.m.pc,.ptr false 1 0,.aj .no 1 (wD E.an),.aj (jW.tok 16 0) 3 (dE E.tr),.int .i8 E.en]),(12,.box [.ptr false 11 0]),(14,.box [.ptr false 0 4]),(16,Ob.bX 0 3)],tC (by simp<;>omega:(lF.en E==1)=false)] (by kernel_rfl)).to (by simp [wk,aw,aM])
theorem DV (cb cx an:List Int) (f:Nat) (E:lF) (lf:Nat) (f0:0≤(f:Int)) (f1:(f:Int)≤640064) (hb:gQ cb) (lc:(bD cb).length≤16384) (lx:(bD cx).length≤256) (hf:f≤100000) (hR:eW cb f (vy cx an)=(E,lf)) (hc:bA (bD cb)=some (bD cb)) (hx:bA (bD cx)=some (bD cx)) (bb:(bD cb).all isByte=true) (bx:(bD cx).all isByte=true) (lE:(bD E.cx).length≤256) (cE:bA (bD E.cx)=some (bD E.cx)) (bE:(bD E.cx).all isByte=true) (mE:(Nat.beq (List.length (bD E.cx)) (Int.toNat ((bD E.cx).length:Int))&&List.all (bD E.cx) isByte)=true) (he:E.en≠0) (h1:E.en=1):aE Tryz.prog 10 ([.aj .no 1 (bD cb),.aj .no 1 (bD cx),.aj .no 1 (wD an),.int .i64 (f:Int)]) (.aA [.agg [.int .i8 E.en,.int .u64 (E.m.q0),.aj .no 1 (bD E.cx),.aj .no 3 (dE E.tr),.int .i64 (lf:Int)],.int .i64 0]):=by
 have c0:= @B0 (cb) (cx) (an) (f) _ _ hb lc lx hf hR he
 exact (aE.ae (d:= .aA [.agg [.int .i8 E.en,.int .u64 E.m.q0,.aj .no 1 (bD E.cx),.aj .no 3 (dE E.tr),.int .i64 (↑lf:Int)],.int .i64 0]) mixed Tryz.func10 (by kernel_rfl) [.aC _ _ _ _ _ (@m6 (cb) (cx) (wD an) ((↑f:Int)) hc hx bb bx lc lx f0 f1),tF,.inl,.Fi [],.head ⟨[0,1,3],[0,1,11,12,14,15,1000004,1000007,1000008,1000009],[(1011024,3)]⟩ _ _ _ _ _ _ _ c0,.cl (bD cb) (by first|exact eD rfl|exact bq _),.cl (bD cx) (by first|exact eD rfl|exact bq _),.cl (List.replicate 64 (fN (Value.int IntKind.u8 0))) (by first|exact eD rfl|exact bq _),.cl (List.replicate 264 (fN (Value.int IntKind.u8 0))) (by first|exact eD rfl|exact bq _),.aC _ _ _ _ _ (@tu (.box [.int .i8 0,.int .u64 0,.aj .tight 0 [],.aj .tight 0 [],.int .i64 (↑lf:Int)]) (.box (bD cb)) (.box (bD E.fr)) (.box (bD E.st)) (.box [.int .u64 E.m.q0,.int .u64 E.m.q1,.int .u64 E.m.q2,.int .u64 E.m.q3,.int .u64 E.m.q4,.int .u64 E.m.q5,.int .u64 E.m.q6,.int .u64 E.m.q7,.int .u64 E.m.q8,.int .u64 E.m.q9,.int .u64 E.m.bJ,.int .u64 E.m.bM,.int .u64 E.m.bQ,.int .u64 E.m.bP,.int .u64 E.m.bO,.int .u64 E.m.bN,.bool E.m.fk,.bool E.m.fc,.bool E.m.fz,.bool E.m.fs,.bool E.m.fo,.int .u64 E.m.pc,.ptr false 1 0,.aj .no 1 (wD E.an),.aj (jW.tok 16 0) 3 (dE E.tr),.int .i8 E.en]) (.box [.ptr false 11 0]) (.dead) (.box [.ptr false 0 4]) (.dead) (Ob.bX 0 3) E.cx (List.length (bD cb)) lE cE bE),.aB [(0,.box [.int .i8 0,.int .u64 0,.aj .tight 0 [],.aj .tight 0 [],.int .i64 (↑lf:Int)]),(1,.box [.int .u64 1048576,D.dn 4 1 (List.length (bD cb)),.bool false,.int .u64 2097152,D.dn 7 1 (List.length (bD E.cx)),.bool true,.int .u64 3145728,D.dn 8 1 64,.bool true,.int .u64 4194304,D.dn 9 1 264,.bool true]),(4,.box (bD cb)),(7,.box (bD E.cx)),(8,.box (bD E.fr)),(9,.box (bD E.st)),(11,.box [.int .u64 E.m.q0,.int .u64 E.m.q1,.int .u64 E.m.q2,.int .u64 E.m.q3,.int .u64 E.m.q4,.int .u64 E.m.q5,.int .u64 E.m.q6,.int .u64 E.m.q7,.int .u64 E.m.q8,.int .u64 E.m.q9,.int .u64 E.m.bJ,.int .u64 E.m.bM,.int .u64 E.m.bQ,.int .u64 E.m.bP,.int .u64 E.m.bO,.int .u64 E.m.bN,.bool E.m.fk,.bool E.m.fc,.bool E.m.fz,.bool E.m.fs,.bool E.m.fo,.int .u64 E.m.pc,.ptr false 1 0,.aj .no 1 (wD E.an),.aj (jW.tok 16 0) 3 (dE E.tr),.int .i8 E.en]),(12,.box [.ptr false 11 0]),(14,.box [.ptr false 0 4]),(16,Ob.bX 0 3)],tC (de 1 true (by omega:lF.en E=1))] (by kernel_rfl)).to (by simp [wk,aw,aM])
theorem DU (cb cx an:List Int) (f:Nat) (E:lF) (lf:Nat) (f0:0≤(f:Int)) (f1:(f:Int)≤640064) (hb:gQ cb) (lc:(bD cb).length≤16384) (lx:(bD cx).length≤256) (hf:f≤100000) (hR:eW cb f (vy cx an)=(E,lf)) (hc:bA (bD cb)=some (bD cb)) (hx:bA (bD cx)=some (bD cx)) (bb:(bD cb).all isByte=true) (bx:(bD cx).all isByte=true) (lE:(bD E.cx).length≤256) (cE:bA (bD E.cx)=some (bD E.cx)) (bE:(bD E.cx).all isByte=true) (mE:(Nat.beq (List.length (bD E.cx)) (Int.toNat ((bD E.cx).length:Int))&&List.all (bD E.cx) isByte)=true) (he:E.en≠0) (h1:E.en≠1):aE Tryz.prog 10 ([.aj .no 1 (bD cb),.aj .no 1 (bD cx),.aj .no 1 (wD an),.int .i64 (f:Int)]) (.aA [.agg [.int .i8 E.en,.int .u64 (0),.aj .no 1 (bD E.cx),.aj .no 3 (dE E.tr),.int .i64 (lf:Int)],.int .i64 0]):=by
 have c0:= @B0 (cb) (cx) (an) (f) _ _ hb lc lx hf hR he
 exact (aE.ae (d:= .aA [.agg [.int .i8 E.en,.int .u64 0,.aj .no 1 (bD E.cx),.aj .no 3 (dE E.tr),.int .i64 (↑lf:Int)],.int .i64 0]) mixed Tryz.func10 (by kernel_rfl) [.aC _ _ _ _ _ (@m6 (cb) (cx) (wD an) ((↑f:Int)) hc hx bb bx lc lx f0 f1),tF,.inl,.Fi [],.head ⟨[0,1,3],[0,1,11,12,14,15,1000004,1000007,1000008,1000009],[(1011024,3)]⟩ _ _ _ _ _ _ _ c0,.cl (bD cb) (by first|exact eD rfl|exact bq _),.cl (bD cx) (by first|exact eD rfl|exact bq _),.cl (List.replicate 64 (fN (Value.int IntKind.u8 0))) (by first|exact eD rfl|exact bq _),.cl (List.replicate 264 (fN (Value.int IntKind.u8 0))) (by first|exact eD rfl|exact bq _),.aC _ _ _ _ _ (@tu (.box [.int .i8 0,.int .u64 0,.aj .tight 0 [],.aj .tight 0 [],.int .i64 (↑lf:Int)]) (.box (bD cb)) (.box (bD E.fr)) (.box (bD E.st)) (.box [.int .u64 E.m.q0,.int .u64 E.m.q1,.int .u64 E.m.q2,.int .u64 E.m.q3,.int .u64 E.m.q4,.int .u64 E.m.q5,.int .u64 E.m.q6,.int .u64 E.m.q7,.int .u64 E.m.q8,.int .u64 E.m.q9,.int .u64 E.m.bJ,.int .u64 E.m.bM,.int .u64 E.m.bQ,.int .u64 E.m.bP,.int .u64 E.m.bO,.int .u64 E.m.bN,.bool E.m.fk,.bool E.m.fc,.bool E.m.fz,.bool E.m.fs,.bool E.m.fo,.int .u64 E.m.pc,.ptr false 1 0,.aj .no 1 (wD E.an),.aj (jW.tok 16 0) 3 (dE E.tr),.int .i8 E.en]) (.box [.ptr false 11 0]) (.dead) (.box [.ptr false 0 4]) (.dead) (Ob.bX 0 3) E.cx (List.length (bD cb)) lE cE bE),.aB [(0,.box [.int .i8 0,.int .u64 0,.aj .tight 0 [],.aj .tight 0 [],.int .i64 (↑lf:Int)]),(1,.box [.int .u64 1048576,D.dn 4 1 (List.length (bD cb)),.bool false,.int .u64 2097152,D.dn 7 1 (List.length (bD E.cx)),.bool true,.int .u64 3145728,D.dn 8 1 64,.bool true,.int .u64 4194304,D.dn 9 1 264,.bool true]),(4,.box (bD cb)),(7,.box (bD E.cx)),(8,.box (bD E.fr)),(9,.box (bD E.st)),(11,.box [.int .u64 E.m.q0,.int .u64 E.m.q1,.int .u64 E.m.q2,.int .u64 E.m.q3,.int .u64 E.m.q4,.int .u64 E.m.q5,.int .u64 E.m.q6,.int .u64 E.m.q7,.int .u64 E.m.q8,.int .u64 E.m.q9,.int .u64 E.m.bJ,.int .u64 E.m.bM,.int .u64 E.m.bQ,.int .u64 E.m.bP,.int .u64 E.m.bO,.int .u64 E.m.bN,.bool E.m.fk,.bool E.m.fc,.bool E.m.fz,.bool E.m.fs,.bool E.m.fo,.int .u64 E.m.pc,.ptr false 1 0,.aj .no 1 (wD E.an),.aj (jW.tok 16 0) 3 (dE E.tr),.int .i8 E.en]),(12,.box [.ptr false 11 0]),(14,.box [.ptr false 0 4]),(16,Ob.bX 0 3)],tC (by simp<;>omega:(lF.en E==1)=false)] (by kernel_rfl)).to (by simp [wk,aw,aM])
theorem yb (cb cx:List Int) (an:List D) (f:Int) (hc:bA (bD cb)=some (bD cb)) (hx:bA (bD cx)=some (bD cx)) (bb:(bD cb).all isByte=true) (bx:(bD cx).all isByte=true) (lc:(bD cb).length≤16384) (h:256<(bD cx).length):aE Tryz.prog 10 ([.aj .no 1 (bD cb),.aj .no 1 (bD cx),.aj .no 1 an,.int .i64 f]) (.aA [.agg [.int .i8 0,.int .u64 0,.aj .tight 0 [],.aj .tight 0 [],.int .i64 0],.int .i64 2]):=by
 have hK1:(decide ((↑(List.length (bD cx)):Int)<257))=false:=by simp<;>omega
 exact (aE.ae (d:= .aA [.agg [.int .i8 0,.int .u64 0,.aj .tight 0 [],.aj .tight 0 [],.int .i64 0],.int .i64 2]) mixed Tryz.func10 (by kernel_rfl) ([.inl,.inl]++List.replicate 3 (tC (eF (a7 256 hK1)))++ [tC (a7 256 hK1),tT,tF,tF,tT,tF,tF,tT,tT,tT]) (by kernel_rfl)).to (by simp [wk,aw,aM])
theorem DS (cb cx:List Int) (an:List D) (f:Int) (hc:bA (bD cb)=some (bD cb)) (hx:bA (bD cx)=some (bD cx)) (bb:(bD cb).all isByte=true) (bx:(bD cx).all isByte=true) (lc:(bD cb).length≤16384) (lx:(bD cx).length≤256) (h:f<0):aE Tryz.prog 10 ([.aj .no 1 (bD cb),.aj .no 1 (bD cx),.aj .no 1 an,.int .i64 f]) (.aA [.agg [.int .i8 0,.int .u64 0,.aj .tight 0 [],.aj .tight 0 [],.int .i64 0],.int .i64 2]):=by
 have hK1:(decide ((↑(List.length (bD cx)):Int)<257))=true:=by simp<;>omega
 exact (aE.ae (d:= .aA [.agg [.int .i8 0,.int .u64 0,.aj .tight 0 [],.aj .tight 0 [],.int .i64 0],.int .i64 2]) mixed Tryz.func10 (by kernel_rfl) ([.inl,.inl]++List.replicate 3 (tC (eF (a7 256 hK1)))++ [tC (a7 256 hK1),tC (a7 16384 (by simp<;>omega:(decide ((↑(List.length (bD cb)):Int)<16385))=true)),.inl,.cU (decide (0≤(↑(List.length (bD cb)):Int)∧(↑(List.length (bD cb)):Int)=(↑(List.length (bD cb)):Int)∧(↑(List.length (bD cb)):Int)≤2147483648)) true (by simp<;>omega),.raw,.EH _ _ hc,tC (v:=true) (@gN (List.length (bD cb))),tC (v:=true) bb,.cm _ _ _ _ (@jH _ (Int.toNat (↑(List.length (bD cb)):Int)) (fN (Value.int IntKind.u8 0)) (bD cb) (by first|rfl|decide) (by first|rfl|decide)),.inl,.cU (decide (0≤(↑(List.length (bD cx)):Int)∧(↑(List.length (bD cx)):Int)=(↑(List.length (bD cx)):Int)∧(↑(List.length (bD cx)):Int)≤2147483648)) true (by simp<;>omega)]++ [.raw,.EH _ _ hx,tC (v:=true) (@gN (List.length (bD cx))),tC (v:=true) bx,.cm _ _ _ _ (@jH _ (Int.toNat (↑(List.length (bD cx)):Int)) (fN (Value.int IntKind.u8 0)) (bD cx) (by first|rfl|decide) (by first|rfl|decide)),tT,.raw,tT,tT,.raw,tT,tT,tF,tC (eF (decide_eq_true h)),tC (eF (decide_eq_true h)),tC (decide_eq_true h)]++ [tT,tT]) (by kernel_rfl)).to (by simp [wk,aw,aM])
theorem DT (cb cx:List Int) (an:List D) (f:Int) (hc:bA (bD cb)=some (bD cb)) (hx:bA (bD cx)=some (bD cx)) (bb:(bD cb).all isByte=true) (bx:(bD cx).all isByte=true) (lc:(bD cb).length≤16384) (lx:(bD cx).length≤256) (h:640064<f):aE Tryz.prog 10 ([.aj .no 1 (bD cb),.aj .no 1 (bD cx),.aj .no 1 an,.int .i64 f]) (.aA [.agg [.int .i8 0,.int .u64 0,.aj .tight 0 [],.aj .tight 0 [],.int .i64 0],.int .i64 2]):=by
 have hK1:(decide ((↑(List.length (bD cx)):Int)<257))=true:=by simp<;>omega
 exact (aE.ae (d:= .aA [.agg [.int .i8 0,.int .u64 0,.aj .tight 0 [],.aj .tight 0 [],.int .i64 0],.int .i64 2]) mixed Tryz.func10 (by kernel_rfl) ([.inl,.inl]++List.replicate 3 (tC (eF (a7 256 hK1)))++ [tC (a7 256 hK1),tC (a7 16384 (by simp<;>omega:(decide ((↑(List.length (bD cb)):Int)<16385))=true)),.inl,.cU (decide (0≤(↑(List.length (bD cb)):Int)∧(↑(List.length (bD cb)):Int)=(↑(List.length (bD cb)):Int)∧(↑(List.length (bD cb)):Int)≤2147483648)) true (by simp<;>omega),.raw,.EH _ _ hc,tC (v:=true) (@gN (List.length (bD cb))),tC (v:=true) bb,.cm _ _ _ _ (@jH _ (Int.toNat (↑(List.length (bD cb)):Int)) (fN (Value.int IntKind.u8 0)) (bD cb) (by first|rfl|decide) (by first|rfl|decide)),.inl,.cU (decide (0≤(↑(List.length (bD cx)):Int)∧(↑(List.length (bD cx)):Int)=(↑(List.length (bD cx)):Int)∧(↑(List.length (bD cx)):Int)≤2147483648)) true (by simp<;>omega)]++ [.raw,.EH _ _ hx,tC (v:=true) (@gN (List.length (bD cx))),tC (v:=true) bx,.cm _ _ _ _ (@jH _ (Int.toNat (↑(List.length (bD cx)):Int)) (fN (Value.int IntKind.u8 0)) (bD cx) (by first|rfl|decide) (by first|rfl|decide)),tT,.raw,tT,tT,.raw,tT,tT,tF]++List.replicate 2 (tC (eF (l8 0 (decide_eq_false (by omega:¬f<640065)))))++ [tC (l8 0 (decide_eq_false (by omega:¬f<640065)))]++ [tC (a7 640064 (decide_eq_false (by omega:¬f<640065))),tT]) (by kernel_rfl)).to (by simp [wk,aw,aM])
end Go.Proofs.YtbfpahigdpigpaaGreat
