import Derived.Test.YtbfpahigdpigpaaGreatC05
import Derived.Test.YtbfpahigdpigpaaGreatC07
import Derived.Test.YtbfpahigdpigpaaGreatC09
import Derived.Test.YtbfpahigdpigpaaGreatC11
import Derived.Test.YtbfpahigdpigpaaGreatC14
open List renaming replicate→Sx,length→SA,getD_eq_getElem?_getD→SK,length_append→SS,append_nil→T0
open Int renaming toNat→Sz,lt_add_one_of_le→SC,not_lt→SD,fdiv→SJ
open Bool renaming and_eq_true→SG,or_eq_true→Tz,not_eq_true'→TE
open Go.Value renaming int→S6
open Go renaming IntKind→T8
/- Contracts and plain laws that a statement's proof leans on (texts merged:EM5,EM6,MdEn,EM7,EM8,EM9,EM9B,EM0,EM9C,EM9D,EM10,EM11,EM12,EM13,EM14,EM15). -/
set_option linter.unusedVariables false
set_option linter.unusedSimpArgs false
set_option maxRecDepth 100000
set_option maxHeartbeats 8000000
namespace Go.Proofs.YtbfpahigdpigpaaGreat
open Go Go.Ev
theorem Iz (cc cx fr st an tr:List D) (m:ao) (left en:Int) (nc nx:Nat) (L7:∀c∈cc,c.clean=true) (M8:∀c∈cx,c.clean=true) (MA:∀c∈fr,c.clean=true) (LL:∀c∈st,c.clean=true) (h:left≤0):aP Tryz.prog (cu Tryz.f45 0) ⟨[],[0,1,11,12,14,15,1000004,1000007,1000008,1000009],[(1011024,3)]⟩ 16 [D.hE 15,.ptr false 12 0,D.undef,.ptr false 14 0,D.undef,D.undef,D.undef,D.undef,D.undef,D.undef,D.undef,D.undef,D.undef,D.undef,D.undef,D.undef,D.undef,D.undef,D.undef,D.undef,D.undef,D.undef,D.undef,D.undef,D.undef,D.undef,D.undef,D.undef,D.undef,D.undef,D.undef,D.undef,D.undef,D.undef,D.undef] [.box [.int .i8 0,.int .u64 0,.aj .tight 0 [],.aj .tight 0 [],.int .i64 left],.box (gj nc nx),.dead,.dead,.box cc,.dead,.dead,.box cx,.box fr,.box st,.dead,.box (uC m an tr 0 en),.box [.ptr false 11 0],.dead,.box [.ptr false 0 4],Ob.lp Lk.ready (Sx 56 D.undef) #[27,28] (a8 Tryz.f10 0) (a7 Tryz.f10 0),Ob.bO 0 3] (Ex.exit 0) [D.undef,D.undef,D.undef,D.undef,D.undef,D.undef,D.undef,D.undef,D.undef,D.undef,D.undef,D.undef,D.undef,D.undef,D.undef,D.undef,D.undef,D.undef,D.undef,D.undef,D.undef,D.undef,D.undef,D.undef,D.undef,D.undef,D.undef,D.undef,D.undef,D.undef,D.undef,D.undef,D.undef,D.undef,D.undef] ([.box [.int .i8 0,.int .u64 0,.aj .tight 0 [],.aj .tight 0 [],.int .i64 left],.box (mE nc nx),.dead,.dead,.box (List.map D.aR cc),.dead,.dead,.box (List.map D.aR cx),.box (List.map D.aR fr),.box (List.map D.aR st),.dead,.box (uC m an tr 0 en),.box [.ptr false 11 0],.dead,.box [.ptr false 0 4],Ob.lp Lk.ready [D.undef,D.undef,D.undef,D.undef,D.undef,D.undef,D.undef,D.undef,D.undef,D.undef,D.undef,D.undef,D.undef,D.undef,D.undef,D.undef,D.undef,D.undef,D.undef,D.undef,D.undef,D.undef,D.undef,D.undef,D.undef,D.undef,D.undef,D.undef,D.undef,D.undef,D.undef,D.undef,D.undef,D.undef,D.undef,D.undef,D.undef,D.undef,D.undef,D.undef,D.undef,D.undef,D.undef,D.undef,D.undef,D.undef,D.undef,D.undef,D.undef,D.undef,D.undef,D.undef,D.undef,D.undef,D.undef,D.undef] #[27,28] (a8 Tryz.f10 0) (a7 Tryz.f10 0),Ob.bO 0 3]):=by
 exact aP.ab mixed [tC (aY 0 (decide_eq_true (SC h))),.cl (cc) (by first|exact cG rfl|exact L7|exact M8|exact MA|exact LL|exact L0|exact L3|exact L2),.cl (cx) (by first|exact cG rfl|exact L7|exact M8|exact MA|exact LL|exact L0|exact L3|exact L2),.cl (fr) (by first|exact cG rfl|exact L7|exact M8|exact MA|exact LL|exact L0|exact L3|exact L2),.cl (st) (by first|exact cG rfl|exact L7|exact M8|exact MA|exact LL|exact L0|exact L3|exact L2)] (by kernel_rfl)
theorem Iy (cc cx fr st an tr:List D) (m:ao) (left en:Int) (nc nx:Nat) (L7:∀c∈cc,c.clean=true) (M8:∀c∈cx,c.clean=true) (MA:∀c∈fr,c.clean=true) (LL:∀c∈st,c.clean=true) (Mk Mi Mj MV MT:List D) (m2:ao) (MU:Int) (dd:List Ob) (L0:∀c∈Mk,c.clean=true) (L3:∀c∈Mi,c.clean=true) (L2:∀c∈Mj,c.clean=true) (h:0<left) (hs:af Tryz.prog 47 [.ptr false 11 0] (.box [.int .i8 0,.int .u64 0,.aj .tight 0 [],.aj .tight 0 [],.int .i64 (T8.i64.wrap (left - 1))]:: .box (gj nc nx):: .dead:: .dead:: .box cc:: .dead:: .dead:: .box cx:: .box fr:: .box st:: .dead:: .box (uC m an tr 0 en):: .box [.ptr false 11 0]:: .dead:: .box [.ptr false 0 4]:: .lp .ready (Sx 56 .undef) #[27,28] (a8 Tryz.f10 0) (a7 Tryz.f10 0):: .bO 0 3:: []) (.bool true) (.box [.int .i8 0,.int .u64 0,.aj .tight 0 [],.aj .tight 0 [],.int .i64 (T8.i64.wrap (left - 1))]:: .box (gj nc nx):: .dead:: .dead:: .box cc:: .dead:: .dead:: .box Mk:: .box Mi:: .box Mj:: .dead:: .box (uC m2 MV MT 0 MU):: .box [.ptr false 11 0]:: .dead:: .box [.ptr false 0 4]:: .lp .ready (Sx 56 .undef) #[27,28] (a8 Tryz.f10 0) (a7 Tryz.f10 0):: .bO 0 3::dd)):aP Tryz.prog (cu Tryz.f45 0) ⟨[0,1,3],[0,1,11,12,14,15,1000004,1000007,1000008,1000009],[(1011024,3)]⟩ 16 [D.hE 15,.ptr false 12 0,D.undef,.ptr false 14 0,D.undef,D.undef,D.undef,D.undef,D.undef,D.undef,D.undef,D.undef,D.undef,D.undef,D.undef,D.undef,D.undef,D.undef,D.undef,D.undef,D.undef,D.undef,D.undef,D.undef,D.undef,D.undef,D.undef,D.undef,D.undef,D.undef,D.undef,D.undef,D.undef,D.undef,D.undef] [.box [.int .i8 0,.int .u64 0,.aj .tight 0 [],.aj .tight 0 [],.int .i64 left],.box (gj nc nx),.dead,.dead,.box cc,.dead,.dead,.box cx,.box fr,.box st,.dead,.box (uC m an tr 0 en),.box [.ptr false 11 0],.dead,.box [.ptr false 0 4],Ob.lp Lk.ready (Sx 56 D.undef) #[27,28] (a8 Tryz.f10 0) (a7 Tryz.f10 0),Ob.bO 0 3] .norm [D.hE 15,.ptr false 12 0,D.undef,.ptr false 14 0,D.undef,D.undef,D.undef,D.undef,D.undef,D.undef,D.undef,D.undef,D.undef,D.undef,D.undef,D.undef,D.undef,D.undef,D.undef,D.undef,D.undef,D.undef,D.undef,D.undef,D.undef,D.undef,D.undef,D.undef,D.undef,D.undef,D.undef,D.undef,D.undef,D.undef,D.undef] ([.box [.int .i8 0,.int .u64 0,.aj .tight 0 [],.aj .tight 0 [],.int .i64 (T8.i64.wrap (left - 1))],.box (mE nc nx),.dead,.dead,.box (List.map D.aR cc),.dead,.dead,.box (List.map D.aR Mk),.box (List.map D.aR Mi),.box (List.map D.aR Mj),.dead,.box (uC m2 MV MT 0 MU),.box [.ptr false 11 0],.dead,.box [.ptr false 0 4],Ob.lp Lk.ready [D.undef,D.undef,D.undef,D.undef,D.undef,D.undef,D.undef,D.undef,D.undef,D.undef,D.undef,D.undef,D.undef,D.undef,D.undef,D.undef,D.undef,D.undef,D.undef,D.undef,D.undef,D.undef,D.undef,D.undef,D.undef,D.undef,D.undef,D.undef,D.undef,D.undef,D.undef,D.undef,D.undef,D.undef,D.undef,D.undef,D.undef,D.undef,D.undef,D.undef,D.undef,D.undef,D.undef,D.undef,D.undef,D.undef,D.undef,D.undef,D.undef,D.undef,D.undef,D.undef,D.undef,D.undef,D.undef,D.undef] #[27,28] (a8 Tryz.f10 0) (a7 Tryz.f10 0),Ob.bO 0 3]):=by
 exact aP.ab mixed [tC (aY 0 (decide_eq_false (by omega:¬left<1))),.ay _ _ _ _ _ (@qE (.box [.int .i8 0,.int .u64 0,.aj .tight 0 [],.aj .tight 0 [],.int .i64 left]) (.box [.ptr false 11 0]) (.dead) (.box [.ptr false 0 4]) (Ob.lp Lk.ready [D.undef,D.undef,D.undef,D.undef,D.undef,D.undef,D.undef,D.undef,D.undef,D.undef,D.undef,D.undef,D.undef,D.undef,D.undef,D.undef,D.undef,D.undef,D.undef,D.undef,D.undef,D.undef,D.undef,D.undef,D.undef,D.undef,D.undef,D.undef,D.undef,D.undef,D.undef,D.undef,D.undef,D.undef,D.undef,D.undef,D.undef,D.undef,D.undef,D.undef,D.undef,D.undef,D.undef,D.undef,D.undef,D.undef,D.undef,D.undef,D.undef,D.undef,D.undef,D.undef,D.undef,D.undef,D.undef,D.undef] #[27,28] (a8 Tryz.f10 0) (a7 Tryz.f10 0)) (cc) (cx) (fr) (st) (an) (tr) (m) (en) (nc) (nx)),.aD [(0,.box [.int .i8 0,.int .u64 0,.aj .tight 0 [],.aj .tight 0 [],.int .i64 left]),(1,.box (mE nc nx)),(4,.box cc),(7,.box cx),(8,.box fr),(9,.box st),(11,.box (uC m an tr 0 en)),(12,.box [.ptr false 11 0]),(14,.box [.ptr false 0 4]),(15,Ob.lp Lk.ready [D.undef,D.undef,D.undef,D.undef,D.undef,D.undef,D.undef,D.undef,D.undef,D.undef,D.undef,D.undef,D.undef,D.undef,D.undef,D.undef,D.undef,D.undef,D.undef,D.undef,D.undef,D.undef,D.undef,D.undef,D.undef,D.undef,D.undef,D.undef,D.undef,D.undef,D.undef,D.undef,D.undef,D.undef,D.undef,D.undef,D.undef,D.undef,D.undef,D.undef,D.undef,D.undef,D.undef,D.undef,D.undef,D.undef,D.undef,D.undef,D.undef,D.undef,D.undef,D.undef,D.undef,D.undef,D.undef,D.undef] #[27,28] (a8 Tryz.f10 0) (a7 Tryz.f10 0)),(16,Ob.bO 0 3)],.inl,tF,.ay _ _ _ _ _ (@rJ ([.ptr false 11 0]) ([.box [.int .i8 0,.int .u64 0,.aj .tight 0 [],.aj .tight 0 [],.int .i64 (T8.i64.wrap (left - 1))],.box (mE nc nx),.dead,.dead,.box cc,.dead,.dead,.box cx,.box fr,.box st,.dead,.box (uC m an tr 0 en),.box [.ptr false 11 0],.dead,.box [.ptr false 0 4],Ob.lp Lk.ready [D.undef,D.undef,D.undef,D.undef,D.undef,D.undef,D.undef,D.undef,D.undef,D.undef,D.undef,D.undef,D.undef,D.undef,D.undef,D.undef,D.undef,D.undef,D.undef,D.undef,D.undef,D.undef,D.undef,D.undef,D.undef,D.undef,D.undef,D.undef,D.undef,D.undef,D.undef,D.undef,D.undef,D.undef,D.undef,D.undef,D.undef,D.undef,D.undef,D.undef,D.undef,D.undef,D.undef,D.undef,D.undef,D.undef,D.undef,D.undef,D.undef,D.undef,D.undef,D.undef,D.undef,D.undef,D.undef,D.undef] #[27,28] (a8 Tryz.f10 0) (a7 Tryz.f10 0),Ob.bO 0 3]) _ _ hs),tF,.cl (cc) (by first|exact cG rfl|exact L7|exact M8|exact MA|exact LL|exact L0|exact L3|exact L2),.cl (Mk) (by first|exact cG rfl|exact L7|exact M8|exact MA|exact LL|exact L0|exact L3|exact L2),.cl (Mi) (by first|exact cG rfl|exact L7|exact M8|exact MA|exact LL|exact L0|exact L3|exact L2),.cl (Mj) (by first|exact cG rfl|exact L7|exact M8|exact MA|exact LL|exact L0|exact L3|exact L2)] (by kernel_rfl)
theorem Ix (cc cx fr st an tr:List D) (m:ao) (left en:Int) (nc nx:Nat) (L7:∀c∈cc,c.clean=true) (M8:∀c∈cx,c.clean=true) (MA:∀c∈fr,c.clean=true) (LL:∀c∈st,c.clean=true) (Mk Mi Mj MV MT:List D) (m2:ao) (MU:Int) (dd:List Ob) (L0:∀c∈Mk,c.clean=true) (L3:∀c∈Mi,c.clean=true) (L2:∀c∈Mj,c.clean=true) (h:0<left) (hs:af Tryz.prog 47 [.ptr false 11 0] (.box [.int .i8 0,.int .u64 0,.aj .tight 0 [],.aj .tight 0 [],.int .i64 (T8.i64.wrap (left - 1))]:: .box (gj nc nx):: .dead:: .dead:: .box cc:: .dead:: .dead:: .box cx:: .box fr:: .box st:: .dead:: .box (uC m an tr 0 en):: .box [.ptr false 11 0]:: .dead:: .box [.ptr false 0 4]:: .lp .ready (Sx 56 .undef) #[27,28] (a8 Tryz.f10 0) (a7 Tryz.f10 0):: .bO 0 3:: []) (.bool true) (.box [.int .i8 0,.int .u64 0,.aj .tight 0 [],.aj .tight 0 [],.int .i64 (T8.i64.wrap (left - 1))]:: .box (gj nc nx):: .dead:: .dead:: .box cc:: .dead:: .dead:: .box Mk:: .box Mi:: .box Mj:: .dead:: .box (uC m2 MV MT 1 MU):: .box [.ptr false 11 0]:: .dead:: .box [.ptr false 0 4]:: .lp .ready (Sx 56 .undef) #[27,28] (a8 Tryz.f10 0) (a7 Tryz.f10 0):: .bO 1 3::dd)):aP Tryz.prog (cu Tryz.f45 0) ⟨[0,1,3],[0,1,11,12,14,15,1000004,1000007,1000008,1000009],[(1011024,3)]⟩ 16 [D.hE 15,.ptr false 12 0,D.undef,.ptr false 14 0,D.undef,D.undef,D.undef,D.undef,D.undef,D.undef,D.undef,D.undef,D.undef,D.undef,D.undef,D.undef,D.undef,D.undef,D.undef,D.undef,D.undef,D.undef,D.undef,D.undef,D.undef,D.undef,D.undef,D.undef,D.undef,D.undef,D.undef,D.undef,D.undef,D.undef,D.undef] [.box [.int .i8 0,.int .u64 0,.aj .tight 0 [],.aj .tight 0 [],.int .i64 left],.box (gj nc nx),.dead,.dead,.box cc,.dead,.dead,.box cx,.box fr,.box st,.dead,.box (uC m an tr 0 en),.box [.ptr false 11 0],.dead,.box [.ptr false 0 4],Ob.lp Lk.ready (Sx 56 D.undef) #[27,28] (a8 Tryz.f10 0) (a7 Tryz.f10 0),Ob.bO 0 3] .norm [D.hE 15,.ptr false 12 0,D.undef,.ptr false 14 0,D.undef,D.undef,D.undef,D.undef,D.undef,D.undef,D.undef,D.undef,D.undef,D.undef,D.undef,D.undef,D.undef,D.undef,D.undef,D.undef,D.undef,D.undef,D.undef,D.undef,D.undef,D.undef,D.undef,D.undef,D.undef,D.undef,D.undef,D.undef,D.undef,D.undef,D.undef] ([.box [.int .i8 0,.int .u64 0,.aj .tight 0 [],.aj .tight 0 [],.int .i64 (T8.i64.wrap (left - 1))],.box (mE nc nx),.dead,.dead,.box (List.map D.aR cc),.dead,.dead,.box (List.map D.aR Mk),.box (List.map D.aR Mi),.box (List.map D.aR Mj),.dead,.box (uC m2 MV MT 0 MU),.box [.ptr false 11 0],.dead,.box [.ptr false 0 4],Ob.lp Lk.ready [D.undef,D.undef,D.undef,D.undef,D.undef,D.undef,D.undef,D.undef,D.undef,D.undef,D.undef,D.undef,D.undef,D.undef,D.undef,D.undef,D.undef,D.undef,D.undef,D.undef,D.undef,D.undef,D.undef,D.undef,D.undef,D.undef,D.undef,D.undef,D.undef,D.undef,D.undef,D.undef,D.undef,D.undef,D.undef,D.undef,D.undef,D.undef,D.undef,D.undef,D.undef,D.undef,D.undef,D.undef,D.undef,D.undef,D.undef,D.undef,D.undef,D.undef,D.undef,D.undef,D.undef,D.undef,D.undef,D.undef] #[27,28] (a8 Tryz.f10 0) (a7 Tryz.f10 0),Ob.bO 0 3]):=by
 exact aP.ab mixed [tC (aY 0 (decide_eq_false (by omega:¬left<1))),.ay _ _ _ _ _ (@qE (.box [.int .i8 0,.int .u64 0,.aj .tight 0 [],.aj .tight 0 [],.int .i64 left]) (.box [.ptr false 11 0]) (.dead) (.box [.ptr false 0 4]) (Ob.lp Lk.ready [D.undef,D.undef,D.undef,D.undef,D.undef,D.undef,D.undef,D.undef,D.undef,D.undef,D.undef,D.undef,D.undef,D.undef,D.undef,D.undef,D.undef,D.undef,D.undef,D.undef,D.undef,D.undef,D.undef,D.undef,D.undef,D.undef,D.undef,D.undef,D.undef,D.undef,D.undef,D.undef,D.undef,D.undef,D.undef,D.undef,D.undef,D.undef,D.undef,D.undef,D.undef,D.undef,D.undef,D.undef,D.undef,D.undef,D.undef,D.undef,D.undef,D.undef,D.undef,D.undef,D.undef,D.undef,D.undef,D.undef] #[27,28] (a8 Tryz.f10 0) (a7 Tryz.f10 0)) (cc) (cx) (fr) (st) (an) (tr) (m) (en) (nc) (nx)),.aD [(0,.box [.int .i8 0,.int .u64 0,.aj .tight 0 [],.aj .tight 0 [],.int .i64 left]),(1,.box (mE nc nx)),(4,.box cc),(7,.box cx),(8,.box fr),(9,.box st),(11,.box (uC m an tr 0 en)),(12,.box [.ptr false 11 0]),(14,.box [.ptr false 0 4]),(15,Ob.lp Lk.ready [D.undef,D.undef,D.undef,D.undef,D.undef,D.undef,D.undef,D.undef,D.undef,D.undef,D.undef,D.undef,D.undef,D.undef,D.undef,D.undef,D.undef,D.undef,D.undef,D.undef,D.undef,D.undef,D.undef,D.undef,D.undef,D.undef,D.undef,D.undef,D.undef,D.undef,D.undef,D.undef,D.undef,D.undef,D.undef,D.undef,D.undef,D.undef,D.undef,D.undef,D.undef,D.undef,D.undef,D.undef,D.undef,D.undef,D.undef,D.undef,D.undef,D.undef,D.undef,D.undef,D.undef,D.undef,D.undef,D.undef] #[27,28] (a8 Tryz.f10 0) (a7 Tryz.f10 0)),(16,Ob.bO 0 3)],.inl,tF,.ay _ _ _ _ _ (@rJ ([.ptr false 11 0]) ([.box [.int .i8 0,.int .u64 0,.aj .tight 0 [],.aj .tight 0 [],.int .i64 (T8.i64.wrap (left - 1))],.box (mE nc nx),.dead,.dead,.box cc,.dead,.dead,.box cx,.box fr,.box st,.dead,.box (uC m an tr 0 en),.box [.ptr false 11 0],.dead,.box [.ptr false 0 4],Ob.lp Lk.ready [D.undef,D.undef,D.undef,D.undef,D.undef,D.undef,D.undef,D.undef,D.undef,D.undef,D.undef,D.undef,D.undef,D.undef,D.undef,D.undef,D.undef,D.undef,D.undef,D.undef,D.undef,D.undef,D.undef,D.undef,D.undef,D.undef,D.undef,D.undef,D.undef,D.undef,D.undef,D.undef,D.undef,D.undef,D.undef,D.undef,D.undef,D.undef,D.undef,D.undef,D.undef,D.undef,D.undef,D.undef,D.undef,D.undef,D.undef,D.undef,D.undef,D.undef,D.undef,D.undef,D.undef,D.undef,D.undef,D.undef] #[27,28] (a8 Tryz.f10 0) (a7 Tryz.f10 0),Ob.bO 0 3]) _ _ hs),tF,.cl (cc) (by first|exact cG rfl|exact L7|exact M8|exact MA|exact LL|exact L0|exact L3|exact L2),.cl (Mk) (by first|exact cG rfl|exact L7|exact M8|exact MA|exact LL|exact L0|exact L3|exact L2),.cl (Mi) (by first|exact cG rfl|exact L7|exact M8|exact MA|exact LL|exact L0|exact L3|exact L2),.cl (Mj) (by first|exact cG rfl|exact L7|exact M8|exact MA|exact LL|exact L0|exact L3|exact L2)] (by kernel_rfl)
theorem JI (cc cx fr st an tr:List D) (m:ao) (left en:Int) (nc nx:Nat) (L7:∀c∈cc,c.clean=true) (M8:∀c∈cx,c.clean=true) (MA:∀c∈fr,c.clean=true) (LL:∀c∈st,c.clean=true) (Mk Mi Mj MV MT:List D) (m2:ao) (MU:Int) (dd:List Ob) (L0:∀c∈Mk,c.clean=true) (L3:∀c∈Mi,c.clean=true) (L2:∀c∈Mj,c.clean=true) (h:0<left) (hs:af Tryz.prog 47 [.ptr false 11 0] (.box [.int .i8 0,.int .u64 0,.aj .tight 0 [],.aj .tight 0 [],.int .i64 (T8.i64.wrap (left - 1))]:: .box (gj nc nx):: .dead:: .dead:: .box cc:: .dead:: .dead:: .box cx:: .box fr:: .box st:: .dead:: .box (uC m an tr 0 en):: .box [.ptr false 11 0]:: .dead:: .box [.ptr false 0 4]:: .lp .ready (Sx 56 .undef) #[27,28] (a8 Tryz.f10 0) (a7 Tryz.f10 0):: .bO 0 3:: []) (.bool false) (.box [.int .i8 0,.int .u64 0,.aj .tight 0 [],.aj .tight 0 [],.int .i64 (T8.i64.wrap (left - 1))]:: .box (gj nc nx):: .dead:: .dead:: .box cc:: .dead:: .dead:: .box Mk:: .box Mi:: .box Mj:: .dead:: .box (uC m2 MV MT 0 MU):: .box [.ptr false 11 0]:: .dead:: .box [.ptr false 0 4]:: .lp .ready (Sx 56 .undef) #[27,28] (a8 Tryz.f10 0) (a7 Tryz.f10 0):: .bO 0 3::dd)):aP Tryz.prog (cu Tryz.f45 0) ⟨[],[0,1,11,12,14,15,1000004,1000007,1000008,1000009],[(1011024,3)]⟩ 16 [D.hE 15,.ptr false 12 0,D.undef,.ptr false 14 0,D.undef,D.undef,D.undef,D.undef,D.undef,D.undef,D.undef,D.undef,D.undef,D.undef,D.undef,D.undef,D.undef,D.undef,D.undef,D.undef,D.undef,D.undef,D.undef,D.undef,D.undef,D.undef,D.undef,D.undef,D.undef,D.undef,D.undef,D.undef,D.undef,D.undef,D.undef] [.box [.int .i8 0,.int .u64 0,.aj .tight 0 [],.aj .tight 0 [],.int .i64 left],.box (gj nc nx),.dead,.dead,.box cc,.dead,.dead,.box cx,.box fr,.box st,.dead,.box (uC m an tr 0 en),.box [.ptr false 11 0],.dead,.box [.ptr false 0 4],Ob.lp Lk.ready (Sx 56 D.undef) #[27,28] (a8 Tryz.f10 0) (a7 Tryz.f10 0),Ob.bO 0 3] (Ex.ret) [D.undef,D.undef,D.undef,D.undef,D.undef,D.undef,D.undef,D.undef,D.undef,D.undef,D.undef,D.undef,D.undef,D.undef,D.undef,D.undef,D.undef,D.undef,D.undef,D.undef,D.undef,D.undef,D.undef,D.undef,D.undef,D.undef,D.undef,D.undef,D.undef,D.undef,D.undef,D.undef,D.undef,D.undef,D.undef] ([.box [.int .i8 0,.int .u64 0,.aj .tight 0 [],.aj .tight 0 [],.int .i64 (T8.i64.wrap (left - 1))],.box (mE nc nx),.dead,.dead,.box (List.map D.aR cc),.dead,.dead,.box (List.map D.aR Mk),.box (List.map D.aR Mi),.box (List.map D.aR Mj),.dead,.box (uC m2 MV MT 0 MU),.box [.ptr false 11 0],.dead,.box [.ptr false 0 4],Ob.lp Lk.ready [D.undef,D.undef,D.undef,D.undef,D.undef,D.undef,D.undef,D.undef,D.undef,D.undef,D.undef,D.undef,D.undef,D.undef,D.undef,D.undef,D.undef,D.undef,D.undef,D.undef,D.undef,D.undef,D.undef,D.undef,D.undef,D.undef,D.undef,D.undef,D.undef,D.undef,D.undef,D.undef,D.undef,D.undef,D.undef,D.undef,D.undef,D.undef,D.undef,D.undef,D.undef,D.undef,D.undef,D.undef,D.undef,D.undef,D.undef,D.undef,D.undef,D.undef,D.undef,D.undef,D.undef,D.undef,D.undef,D.undef] #[27,28] (a8 Tryz.f10 0) (a7 Tryz.f10 0),Ob.bO 0 3]):=by
 exact aP.ab mixed [tC (aY 0 (decide_eq_false (by omega:¬left<1))),.ay _ _ _ _ _ (@qE (.box [.int .i8 0,.int .u64 0,.aj .tight 0 [],.aj .tight 0 [],.int .i64 left]) (.box [.ptr false 11 0]) (.dead) (.box [.ptr false 0 4]) (Ob.lp Lk.ready [D.undef,D.undef,D.undef,D.undef,D.undef,D.undef,D.undef,D.undef,D.undef,D.undef,D.undef,D.undef,D.undef,D.undef,D.undef,D.undef,D.undef,D.undef,D.undef,D.undef,D.undef,D.undef,D.undef,D.undef,D.undef,D.undef,D.undef,D.undef,D.undef,D.undef,D.undef,D.undef,D.undef,D.undef,D.undef,D.undef,D.undef,D.undef,D.undef,D.undef,D.undef,D.undef,D.undef,D.undef,D.undef,D.undef,D.undef,D.undef,D.undef,D.undef,D.undef,D.undef,D.undef,D.undef,D.undef,D.undef] #[27,28] (a8 Tryz.f10 0) (a7 Tryz.f10 0)) (cc) (cx) (fr) (st) (an) (tr) (m) (en) (nc) (nx)),.aD [(0,.box [.int .i8 0,.int .u64 0,.aj .tight 0 [],.aj .tight 0 [],.int .i64 left]),(1,.box (mE nc nx)),(4,.box cc),(7,.box cx),(8,.box fr),(9,.box st),(11,.box (uC m an tr 0 en)),(12,.box [.ptr false 11 0]),(14,.box [.ptr false 0 4]),(15,Ob.lp Lk.ready [D.undef,D.undef,D.undef,D.undef,D.undef,D.undef,D.undef,D.undef,D.undef,D.undef,D.undef,D.undef,D.undef,D.undef,D.undef,D.undef,D.undef,D.undef,D.undef,D.undef,D.undef,D.undef,D.undef,D.undef,D.undef,D.undef,D.undef,D.undef,D.undef,D.undef,D.undef,D.undef,D.undef,D.undef,D.undef,D.undef,D.undef,D.undef,D.undef,D.undef,D.undef,D.undef,D.undef,D.undef,D.undef,D.undef,D.undef,D.undef,D.undef,D.undef,D.undef,D.undef,D.undef,D.undef,D.undef,D.undef] #[27,28] (a8 Tryz.f10 0) (a7 Tryz.f10 0)),(16,Ob.bO 0 3)],.inl,tF,.ay _ _ _ _ _ (@rJ ([.ptr false 11 0]) ([.box [.int .i8 0,.int .u64 0,.aj .tight 0 [],.aj .tight 0 [],.int .i64 (T8.i64.wrap (left - 1))],.box (mE nc nx),.dead,.dead,.box cc,.dead,.dead,.box cx,.box fr,.box st,.dead,.box (uC m an tr 0 en),.box [.ptr false 11 0],.dead,.box [.ptr false 0 4],Ob.lp Lk.ready [D.undef,D.undef,D.undef,D.undef,D.undef,D.undef,D.undef,D.undef,D.undef,D.undef,D.undef,D.undef,D.undef,D.undef,D.undef,D.undef,D.undef,D.undef,D.undef,D.undef,D.undef,D.undef,D.undef,D.undef,D.undef,D.undef,D.undef,D.undef,D.undef,D.undef,D.undef,D.undef,D.undef,D.undef,D.undef,D.undef,D.undef,D.undef,D.undef,D.undef,D.undef,D.undef,D.undef,D.undef,D.undef,D.undef,D.undef,D.undef,D.undef,D.undef,D.undef,D.undef,D.undef,D.undef,D.undef,D.undef] #[27,28] (a8 Tryz.f10 0) (a7 Tryz.f10 0),Ob.bO 0 3]) _ _ hs),tT,.cl (cc) (by first|exact cG rfl|exact L7|exact M8|exact MA|exact LL|exact L0|exact L3|exact L2),.cl (Mk) (by first|exact cG rfl|exact L7|exact M8|exact MA|exact LL|exact L0|exact L3|exact L2),.cl (Mi) (by first|exact cG rfl|exact L7|exact M8|exact MA|exact LL|exact L0|exact L3|exact L2),.cl (Mj) (by first|exact cG rfl|exact L7|exact M8|exact MA|exact LL|exact L0|exact L3|exact L2)] (by kernel_rfl)
theorem Dd (m:ao) (w dst src base aa ai LS:Int) (d0:0≤dst) (d1:dst≤15) (s0:0≤src) (s1:src≤15) (b0:0≤base) (b1:base≤15) (w0:0≤w) (w1:w≤64) (hm:ct 26 w dst src base aa ai LS=true):aF Tryz.prog 111 ([.agg (gd m),xD 26 w dst src base aa ai LS]) (.aC [.int .u64 (u64 (rg m.rl base+u64 aa)),.int .i64 (w / 8),.bool true]):=by
 have c0:= @aK (26) (w) (dst) (src) (base) (aa) (ai) (LS) (by first|rfl|decide)
 exact (aF.ab (d:= .aC [.int .u64 (T8.u64.wrap (rg m.rl base+T8.u64.wrap aa)),.int .i64 (T8.i64.wrap (SJ w 8)),.bool true]) mixed Tryz.func111 (by kernel_rfl) [.ret _ _ _ c0,tC (nt hm),tF,tT,tT,.cQ (decide (0≤base∧base<(↑(16:Nat):Int))) true (by ((try simp only [kK,dD,cD,dR,decide_eq_true_eq,decide_eq_false_iff_not,beq_iff_eq,bne_iff_ne,beq_eq_false_iff_ne,bne_eq_false_iff_eq,TE,Bool.not_eq_false',SG,Tz] at*);omega)),.get _ _ _ (@bL (m) (base) ([.bool m.fk,.bool m.fc,.bool m.fz,.bool m.fs,.bool m.fo,.int .u64 m.pc]) b0 b1)] (by kernel_rfl)).to (by simp only [wk,ax,and_true,D.int.injEq,true_and];refine ⟨rfl,?_⟩;first|rfl|(rw [cD,KY];omega)|(rw [show T8.i64.wrap w=w by rw [cD];omega,Int.tdiv_eq_ediv_of_nonneg w0,cD];omega))
theorem Dc (m:ao) (w dst src base aa ai LS:Int) (d0:0≤dst) (d1:dst≤15) (s0:0≤src) (s1:src≤15) (b0:0≤base) (b1:base≤15) (w0:0≤w) (w1:w≤64) (hm:ct 27 w dst src base aa ai LS=true):aF Tryz.prog 111 ([.agg (gd m),xD 27 w dst src base aa ai LS]) (.aC [.int .u64 (u64 (rg m.rl base+u64 aa)),.int .i64 (w / 8),.bool true]):=by
 have c0:= @aK (27) (w) (dst) (src) (base) (aa) (ai) (LS) (by first|rfl|decide)
 exact (aF.ab (d:= .aC [.int .u64 (T8.u64.wrap (rg m.rl base+T8.u64.wrap aa)),.int .i64 (T8.i64.wrap (SJ w 8)),.bool true]) mixed Tryz.func111 (by kernel_rfl) [.ret _ _ _ c0,tC (nt hm),tF,tF,tT,.cQ (decide (0≤base∧base<(↑(16:Nat):Int))) true (by ((try simp only [kK,dD,cD,dR,decide_eq_true_eq,decide_eq_false_iff_not,beq_iff_eq,bne_iff_ne,beq_eq_false_iff_ne,bne_eq_false_iff_eq,TE,Bool.not_eq_false',SG,Tz] at*);omega)),.get _ _ _ (@bL (m) (base) ([.bool m.fk,.bool m.fc,.bool m.fz,.bool m.fs,.bool m.fo,.int .u64 m.pc]) b0 b1)] (by kernel_rfl)).to (by simp only [wk,ax,and_true,D.int.injEq,true_and];refine ⟨rfl,?_⟩;first|rfl|(rw [cD,KY];omega)|(rw [show T8.i64.wrap w=w by rw [cD];omega,Int.tdiv_eq_ediv_of_nonneg w0,cD];omega))
theorem Db (m:ao) (w dst src base aa ai LS:Int) (d0:0≤dst) (d1:dst≤15) (s0:0≤src) (s1:src≤15) (b0:0≤base) (b1:base≤15) (hm:ct 30 w dst src base aa ai LS=true):aF Tryz.prog 111 ([.agg (gd m),xD 30 w dst src base aa ai LS]) (.aC [.int .u64 m.q4,.int .i64 8,.bool true]):=by
 have c0:= @aK (30) (w) (dst) (src) (base) (aa) (ai) (LS) (by first|rfl|decide)
 exact (aF.ab (d:= .aC [.int .u64 m.q4,.int .i64 8,.bool true]) mixed Tryz.func111 (by kernel_rfl) [.ret _ _ _ c0,tC (nt hm),tT] (by kernel_rfl)).to (by first|((simp only [wk,ax,and_true];repeat' (first|rfl|exact True.intro|apply And.intro));done)|(simp [wk,ax,u64,];done))
theorem xo (m:ao) (op w dst src base aa ai LS:Int) (ho:op≤127) (n1:(op==26)=false) (n2:(op==27)=false) (n3:(op==30)=false) (hm:ct op w dst src base aa ai LS=true):aF Tryz.prog 111 ([.agg (gd m),xD op w dst src base aa ai LS]) (.aC [.int .u64 0,.int .i64 0,.bool false]):=by
 have c0:= @aK (op) (w) (dst) (src) (base) (aa) (ai) (LS) ho
 exact (aF.ab (d:= .aC [.int .u64 0,.int .i64 0,.bool false]) mixed Tryz.func111 (by kernel_rfl) [.ret _ _ _ c0,tC (nt hm),tC n3,tC n1,tC n2] (by kernel_rfl)).to (by first|((simp only [wk,ax,and_true];repeat' (first|rfl|exact True.intro|apply And.intro));done)|(simp [wk,ax,u64,];done))
theorem Da (m:ao) (w dst src base aa ai LS:Int) (d0:0≤dst) (d1:dst≤15) (s0:0≤src) (s1:src≤15) (b0:0≤base) (b1:base≤15) (w0:bu w=true) (hm:ct 27 w dst src base aa ai LS=true):aF Tryz.prog 114 ([.agg (gd m),xD 27 w dst src base aa ai LS]) (.int .u64 (aV (rg m.rl src) w)):=by
 have c0:= @aK (27) (w) (dst) (src) (base) (aa) (ai) (LS) (by first|rfl|decide)
 have c1:= @bP (rg m.rl src) (w)
 exact (aF.ab (d:= .int .u64 (aV (rg m.rl src) w)) mixed Tryz.func114 (by kernel_rfl) [tT,tT,.ret _ _ _ c0,tT,tF,tC (nt hm),.cQ (decide (0≤src∧src<(↑(16:Nat):Int))) true (by ((try simp only [kK,dD,cD,dR,decide_eq_true_eq,decide_eq_false_iff_not,beq_iff_eq,bne_iff_ne,beq_eq_false_iff_ne,bne_eq_false_iff_eq,TE,Bool.not_eq_false',SG,Tz] at*);omega)),.get _ _ _ (@bL (m) (src) ([.bool m.fk,.bool m.fc,.bool m.fz,.bool m.fs,.bool m.fo,.int .u64 m.pc]) s0 s1),.ret _ _ _ c1] (by kernel_rfl)).to (by first|((simp only [wk,ax,and_true];repeat' (first|rfl|exact True.intro|apply And.intro));done)|(simp [wk,ax,u64,];done))
theorem Hb (m:ao):aF Tryz.prog 144 ([.agg (gd m)]) (.aC [.int .i64 (mF m.q0),.bool (sj m.q0)]):=by
 rcases Bool.eq_false_or_eq_true (decide (ao.q0 m<16)) with h0|h0
 ·skip
  exact (aF.ab (d:= .aC [.int .i64 (T8.i64.wrap m.q0),.bool true]) mixed Tryz.func144 (by kernel_rfl) [tC (bB 16 h0)] (by kernel_rfl)).to (by first|exact ET h0|exact EU h0)
 ·skip
  exact (aF.ab (d:= .aC [.int .i64 0,.bool false]) mixed Tryz.func144 (by kernel_rfl) [tC (bB 16 h0)] (by kernel_rfl)).to (by first|exact ET h0|exact EU h0)
theorem Fk (num:Int) (h0:0≤num) (h1:num≤15):aF Tryz.prog 162 ([.int .i64 num]) (.int .i64 (Int.tmod num 6)):=by
 exact (aF.ab (d:= .int .i64 (Int.tmod num 6)) mixed Tryz.func162 (by kernel_rfl) ([.inl]++Sx 3 (tC (eT (bB 0 (decide_eq_false (SD.2 h0)))))++ [tC (bB 0 (decide_eq_false (SD.2 h0))),tC (nt (dP 15 (decide_eq_true (SC h1))))]) (by kernel_rfl)).to (by simp [wk,ax,aO])
theorem wZ (num:Int) (h0:num<0):aF Tryz.prog 162 ([.int .i64 num]) (.int .i64 0):=by
 exact (aF.ab (d:= .int .i64 0) mixed Tryz.func162 (by kernel_rfl) ([.inl]++Sx 3 (tC (eT (bB 0 (decide_eq_true h0))))++ [tC (bB 0 (decide_eq_true h0)),tT]) (by kernel_rfl)).to (by simp [wk,ax,aO])
theorem w5 (num:Int) (h0:15<num):aF Tryz.prog 162 ([.int .i64 num]) (.int .i64 0):=by
 exact (aF.ab (d:= .int .i64 0) mixed Tryz.func162 (by kernel_rfl) ([.inl]++Sx 3 (tC (eT (bB 0 (lb 0 (decide_eq_false (by omega:¬num<16))))))++ [tC (bB 0 (lb 0 (decide_eq_false (by omega:¬num<16)))),tC (nt (dP 15 (decide_eq_false (by omega:¬num<16))))]) (by kernel_rfl)).to (by simp [wk,ax,aO])
theorem zw (m:ao) (v:Int) (hn:aF Tryz.prog 144 [.agg (gd m)] (.aC [.int .i64 v,.bool true])) (ha:aF Tryz.prog 162 [.int .i64 v] (.int .i64 0)):aF Tryz.prog 145 ([.agg (gd m)]) (.aj .tight 0 []):=by
 exact (aF.ab (d:= .aj .tight 0 []) mixed Tryz.func145 (by kernel_rfl) [.ret _ _ _ hn,tF,.ret _ _ _ ha,tT,.go 64,tF] (by kernel_rfl)).to (by simp [wk,ax,aO])
theorem zu (m:ao) (v:Int) (hn:aF Tryz.prog 144 [.agg (gd m)] (.aC [.int .i64 v,.bool true])) (ha:aF Tryz.prog 162 [.int .i64 v] (.int .i64 1)):aF Tryz.prog 145 ([.agg (gd m)]) (.aj (.fresh 1) 1 [.int .u64 m.q7]):=by
 exact (aF.ab (d:= .aj (.fresh 1) 1 [.int .u64 m.q7]) mixed Tryz.func145 (by kernel_rfl) [.ret _ _ _ hn,tF,.ret _ _ _ ha,tT,.go 64,tT,tT,.get ([.int .i8 7]) 0 (.int .i8 7) rfl,tT,.get ([.int .u64 m.q0,.int .u64 m.q1,.int .u64 m.q2,.int .u64 m.q3,.int .u64 m.q4,.int .u64 m.q5,.int .u64 m.q6,.int .u64 m.q7,.int .u64 m.q8,.int .u64 m.q9,.int .u64 m.bQ,.int .u64 m.bU,.int .u64 m.bZ,.int .u64 m.bX,.int .u64 m.bW,.int .u64 m.bV,.bool m.fk,.bool m.fc,.bool m.fz,.bool m.fs,.bool m.fo,.int .u64 m.pc]) 7 (.int .u64 m.q7) rfl,.len (1) (2147483648) (by first|decide|omega|(simp;omega)),tF] (by kernel_rfl)).to (by simp [wk,ax,aO])
theorem zt (m:ao) (v:Int) (hn:aF Tryz.prog 144 [.agg (gd m)] (.aC [.int .i64 v,.bool true])) (ha:aF Tryz.prog 162 [.int .i64 v] (.int .i64 2)):aF Tryz.prog 145 ([.agg (gd m)]) (.aj (.fresh 1) 1 [.int .u64 m.q7,.int .u64 m.q6]):=by
 exact (aF.ab (d:= .aj (.fresh 1) 1 [.int .u64 m.q7,.int .u64 m.q6]) mixed Tryz.func145 (by kernel_rfl) ([.ret _ _ _ hn,tF,.ret _ _ _ ha,tT,.go 64,tT,tT,.get ([.int .i8 7,.int .i8 6]) 0 (.int .i8 7) rfl,tT,.get ([.int .u64 m.q0,.int .u64 m.q1,.int .u64 m.q2,.int .u64 m.q3,.int .u64 m.q4,.int .u64 m.q5,.int .u64 m.q6,.int .u64 m.q7,.int .u64 m.q8,.int .u64 m.q9,.int .u64 m.bQ,.int .u64 m.bU,.int .u64 m.bZ,.int .u64 m.bX,.int .u64 m.bW,.int .u64 m.bV,.bool m.fk,.bool m.fc,.bool m.fz,.bool m.fs,.bool m.fo,.int .u64 m.pc]) 7 (.int .u64 m.q7) rfl,.len (1) (2147483648) (by first|decide|omega|(simp;omega)),tT,tT,.get ([.int .i8 7,.int .i8 6]) 1 (.int .i8 6) rfl,tT,.get ([.int .u64 m.q0,.int .u64 m.q1,.int .u64 m.q2,.int .u64 m.q3,.int .u64 m.q4,.int .u64 m.q5,.int .u64 m.q6,.int .u64 m.q7,.int .u64 m.q8,.int .u64 m.q9,.int .u64 m.bQ,.int .u64 m.bU,.int .u64 m.bZ,.int .u64 m.bX,.int .u64 m.bW,.int .u64 m.bV,.bool m.fk,.bool m.fc,.bool m.fz,.bool m.fs,.bool m.fo,.int .u64 m.pc]) 6 (.int .u64 m.q6) rfl]++ [.len (2) (2147483648) (by first|decide|omega|(simp;omega)),tF]) (by kernel_rfl)).to (by simp [wk,ax,aO])
theorem zs (m:ao) (v:Int) (hn:aF Tryz.prog 144 [.agg (gd m)] (.aC [.int .i64 v,.bool true])) (ha:aF Tryz.prog 162 [.int .i64 v] (.int .i64 3)):aF Tryz.prog 145 ([.agg (gd m)]) (.aj (.fresh 1) 1 [.int .u64 m.q7,.int .u64 m.q6,.int .u64 m.q2]):=by
 exact (aF.ab (d:= .aj (.fresh 1) 1 [.int .u64 m.q7,.int .u64 m.q6,.int .u64 m.q2]) mixed Tryz.func145 (by kernel_rfl) ([.ret _ _ _ hn,tF,.ret _ _ _ ha,tT,.go 64,tT,tT,.get ([.int .i8 7,.int .i8 6,.int .i8 2]) 0 (.int .i8 7) rfl,tT,.get ([.int .u64 m.q0,.int .u64 m.q1,.int .u64 m.q2,.int .u64 m.q3,.int .u64 m.q4,.int .u64 m.q5,.int .u64 m.q6,.int .u64 m.q7,.int .u64 m.q8,.int .u64 m.q9,.int .u64 m.bQ,.int .u64 m.bU,.int .u64 m.bZ,.int .u64 m.bX,.int .u64 m.bW,.int .u64 m.bV,.bool m.fk,.bool m.fc,.bool m.fz,.bool m.fs,.bool m.fo,.int .u64 m.pc]) 7 (.int .u64 m.q7) rfl,.len (1) (2147483648) (by first|decide|omega|(simp;omega)),tT,tT,.get ([.int .i8 7,.int .i8 6,.int .i8 2]) 1 (.int .i8 6) rfl,tT,.get ([.int .u64 m.q0,.int .u64 m.q1,.int .u64 m.q2,.int .u64 m.q3,.int .u64 m.q4,.int .u64 m.q5,.int .u64 m.q6,.int .u64 m.q7,.int .u64 m.q8,.int .u64 m.q9,.int .u64 m.bQ,.int .u64 m.bU,.int .u64 m.bZ,.int .u64 m.bX,.int .u64 m.bW,.int .u64 m.bV,.bool m.fk,.bool m.fc,.bool m.fz,.bool m.fs,.bool m.fo,.int .u64 m.pc]) 6 (.int .u64 m.q6) rfl]++ [.len (2) (2147483648) (by first|decide|omega|(simp;omega)),tT,tT,.get ([.int .i8 7,.int .i8 6,.int .i8 2]) 2 (.int .i8 2) rfl,tT,.get ([.int .u64 m.q0,.int .u64 m.q1,.int .u64 m.q2,.int .u64 m.q3,.int .u64 m.q4,.int .u64 m.q5,.int .u64 m.q6,.int .u64 m.q7,.int .u64 m.q8,.int .u64 m.q9,.int .u64 m.bQ,.int .u64 m.bU,.int .u64 m.bZ,.int .u64 m.bX,.int .u64 m.bW,.int .u64 m.bV,.bool m.fk,.bool m.fc,.bool m.fz,.bool m.fs,.bool m.fo,.int .u64 m.pc]) 2 (.int .u64 m.q2) rfl,.len (3) (2147483648) (by first|decide|omega|(simp;omega)),tF]) (by kernel_rfl)).to (by simp [wk,ax,aO])
theorem zr (m:ao) (v:Int) (hn:aF Tryz.prog 144 [.agg (gd m)] (.aC [.int .i64 v,.bool true])) (ha:aF Tryz.prog 162 [.int .i64 v] (.int .i64 4)):aF Tryz.prog 145 ([.agg (gd m)]) (.aj (.fresh 1) 1 [.int .u64 m.q7,.int .u64 m.q6,.int .u64 m.q2,.int .u64 m.bQ]):=by
 exact (aF.ab (d:= .aj (.fresh 1) 1 [.int .u64 m.q7,.int .u64 m.q6,.int .u64 m.q2,.int .u64 m.bQ]) mixed Tryz.func145 (by kernel_rfl) ([.ret _ _ _ hn,tF,.ret _ _ _ ha,tT,.go 64,tT,tT,.get ([.int .i8 7,.int .i8 6,.int .i8 2,.int .i8 10]) 0 (.int .i8 7) rfl,tT,.get ([.int .u64 m.q0,.int .u64 m.q1,.int .u64 m.q2,.int .u64 m.q3,.int .u64 m.q4,.int .u64 m.q5,.int .u64 m.q6,.int .u64 m.q7,.int .u64 m.q8,.int .u64 m.q9,.int .u64 m.bQ,.int .u64 m.bU,.int .u64 m.bZ,.int .u64 m.bX,.int .u64 m.bW,.int .u64 m.bV,.bool m.fk,.bool m.fc,.bool m.fz,.bool m.fs,.bool m.fo,.int .u64 m.pc]) 7 (.int .u64 m.q7) rfl,.len (1) (2147483648) (by first|decide|omega|(simp;omega)),tT,tT,.get ([.int .i8 7,.int .i8 6,.int .i8 2,.int .i8 10]) 1 (.int .i8 6) rfl,tT,.get ([.int .u64 m.q0,.int .u64 m.q1,.int .u64 m.q2,.int .u64 m.q3,.int .u64 m.q4,.int .u64 m.q5,.int .u64 m.q6,.int .u64 m.q7,.int .u64 m.q8,.int .u64 m.q9,.int .u64 m.bQ,.int .u64 m.bU,.int .u64 m.bZ,.int .u64 m.bX,.int .u64 m.bW,.int .u64 m.bV,.bool m.fk,.bool m.fc,.bool m.fz,.bool m.fs,.bool m.fo,.int .u64 m.pc]) 6 (.int .u64 m.q6) rfl]++ [.len (2) (2147483648) (by first|decide|omega|(simp;omega)),tT,tT,.get ([.int .i8 7,.int .i8 6,.int .i8 2,.int .i8 10]) 2 (.int .i8 2) rfl,tT,.get ([.int .u64 m.q0,.int .u64 m.q1,.int .u64 m.q2,.int .u64 m.q3,.int .u64 m.q4,.int .u64 m.q5,.int .u64 m.q6,.int .u64 m.q7,.int .u64 m.q8,.int .u64 m.q9,.int .u64 m.bQ,.int .u64 m.bU,.int .u64 m.bZ,.int .u64 m.bX,.int .u64 m.bW,.int .u64 m.bV,.bool m.fk,.bool m.fc,.bool m.fz,.bool m.fs,.bool m.fo,.int .u64 m.pc]) 2 (.int .u64 m.q2) rfl,.len (3) (2147483648) (by first|decide|omega|(simp;omega)),tT,tT,.get ([.int .i8 7,.int .i8 6,.int .i8 2,.int .i8 10]) 3 (.int .i8 10) rfl,tT,.get ([.int .u64 m.q0,.int .u64 m.q1,.int .u64 m.q2,.int .u64 m.q3,.int .u64 m.q4,.int .u64 m.q5,.int .u64 m.q6,.int .u64 m.q7,.int .u64 m.q8,.int .u64 m.q9,.int .u64 m.bQ,.int .u64 m.bU,.int .u64 m.bZ,.int .u64 m.bX,.int .u64 m.bW,.int .u64 m.bV,.bool m.fk,.bool m.fc,.bool m.fz,.bool m.fs,.bool m.fo,.int .u64 m.pc]) 10 (.int .u64 m.bQ) rfl,.len (4) (2147483648) (by first|decide|omega|(simp;omega)),tF]) (by kernel_rfl)).to (by simp [wk,ax,aO])
theorem zq (m:ao) (v:Int) (hn:aF Tryz.prog 144 [.agg (gd m)] (.aC [.int .i64 v,.bool true])) (ha:aF Tryz.prog 162 [.int .i64 v] (.int .i64 5)):aF Tryz.prog 145 ([.agg (gd m)]) (.aj (.fresh 1) 1 [.int .u64 m.q7,.int .u64 m.q6,.int .u64 m.q2,.int .u64 m.bQ,.int .u64 m.q8]):=by
 exact (aF.ab (d:= .aj (.fresh 1) 1 [.int .u64 m.q7,.int .u64 m.q6,.int .u64 m.q2,.int .u64 m.bQ,.int .u64 m.q8]) mixed Tryz.func145 (by kernel_rfl) ([.ret _ _ _ hn,tF,.ret _ _ _ ha,tT,.go 64,tT,tT,.get ([.int .i8 7,.int .i8 6,.int .i8 2,.int .i8 10,.int .i8 8]) 0 (.int .i8 7) rfl,tT,.get ([.int .u64 m.q0,.int .u64 m.q1,.int .u64 m.q2,.int .u64 m.q3,.int .u64 m.q4,.int .u64 m.q5,.int .u64 m.q6,.int .u64 m.q7,.int .u64 m.q8,.int .u64 m.q9,.int .u64 m.bQ,.int .u64 m.bU,.int .u64 m.bZ,.int .u64 m.bX,.int .u64 m.bW,.int .u64 m.bV,.bool m.fk,.bool m.fc,.bool m.fz,.bool m.fs,.bool m.fo,.int .u64 m.pc]) 7 (.int .u64 m.q7) rfl,.len (1) (2147483648) (by first|decide|omega|(simp;omega)),tT,tT,.get ([.int .i8 7,.int .i8 6,.int .i8 2,.int .i8 10,.int .i8 8]) 1 (.int .i8 6) rfl,tT,.get ([.int .u64 m.q0,.int .u64 m.q1,.int .u64 m.q2,.int .u64 m.q3,.int .u64 m.q4,.int .u64 m.q5,.int .u64 m.q6,.int .u64 m.q7,.int .u64 m.q8,.int .u64 m.q9,.int .u64 m.bQ,.int .u64 m.bU,.int .u64 m.bZ,.int .u64 m.bX,.int .u64 m.bW,.int .u64 m.bV,.bool m.fk,.bool m.fc,.bool m.fz,.bool m.fs,.bool m.fo,.int .u64 m.pc]) 6 (.int .u64 m.q6) rfl]++ [.len (2) (2147483648) (by first|decide|omega|(simp;omega)),tT,tT,.get ([.int .i8 7,.int .i8 6,.int .i8 2,.int .i8 10,.int .i8 8]) 2 (.int .i8 2) rfl,tT,.get ([.int .u64 m.q0,.int .u64 m.q1,.int .u64 m.q2,.int .u64 m.q3,.int .u64 m.q4,.int .u64 m.q5,.int .u64 m.q6,.int .u64 m.q7,.int .u64 m.q8,.int .u64 m.q9,.int .u64 m.bQ,.int .u64 m.bU,.int .u64 m.bZ,.int .u64 m.bX,.int .u64 m.bW,.int .u64 m.bV,.bool m.fk,.bool m.fc,.bool m.fz,.bool m.fs,.bool m.fo,.int .u64 m.pc]) 2 (.int .u64 m.q2) rfl,.len (3) (2147483648) (by first|decide|omega|(simp;omega)),tT,tT,.get ([.int .i8 7,.int .i8 6,.int .i8 2,.int .i8 10,.int .i8 8]) 3 (.int .i8 10) rfl,tT,.get ([.int .u64 m.q0,.int .u64 m.q1,.int .u64 m.q2,.int .u64 m.q3,.int .u64 m.q4,.int .u64 m.q5,.int .u64 m.q6,.int .u64 m.q7,.int .u64 m.q8,.int .u64 m.q9,.int .u64 m.bQ,.int .u64 m.bU,.int .u64 m.bZ,.int .u64 m.bX,.int .u64 m.bW,.int .u64 m.bV,.bool m.fk,.bool m.fc,.bool m.fz,.bool m.fs,.bool m.fo,.int .u64 m.pc]) 10 (.int .u64 m.bQ) rfl,.len (4) (2147483648) (by first|decide|omega|(simp;omega)),tT,tT,.get ([.int .i8 7,.int .i8 6,.int .i8 2,.int .i8 10,.int .i8 8]) 4 (.int .i8 8) rfl]++ [tT,.get ([.int .u64 m.q0,.int .u64 m.q1,.int .u64 m.q2,.int .u64 m.q3,.int .u64 m.q4,.int .u64 m.q5,.int .u64 m.q6,.int .u64 m.q7,.int .u64 m.q8,.int .u64 m.q9,.int .u64 m.bQ,.int .u64 m.bU,.int .u64 m.bZ,.int .u64 m.bX,.int .u64 m.bW,.int .u64 m.bV,.bool m.fk,.bool m.fc,.bool m.fz,.bool m.fs,.bool m.fo,.int .u64 m.pc]) 8 (.int .u64 m.q8) rfl,.len (5) (2147483648) (by first|decide|omega|(simp;omega)),tF]) (by kernel_rfl)).to (by simp [wk,ax,aO])
end Go.Proofs.YtbfpahigdpigpaaGreat
namespace Go.Ev
open Go
structure Hx where
  num:Int
  args:List Int
  Lt:Int
def Hx.d (e:Hx):D:= .agg [.int .i64 e.num,.aj .no 1 (wD e.args),.int .u64 e.Lt]
def ev (l:List Hx):List D:=l.map Hx.d
structure iH where
  m:ao
  cx:List Int
  fr:List Int
  st:List Int
  an:List Int
  tr:List Hx
  en:Int
def rX (base:Int) (len:Nat) (a n:Int):Bool:=decide (base≤a∧T8.u64.wrap (a - base)≤(len:Int)∧n≤(len:Int) - T8.u64.wrap (a - base))
def kJ (base a:Int):Nat:=(T8.u64.wrap (a - base)).toNat
theorem CM {base a n:Int} {len:Nat} (h:rX base len a n=true):base≤a∧T8.u64.wrap (a - base)≤(len:Int)∧n≤(len:Int) - T8.u64.wrap (a - base):=of_decide_eq_true h
theorem eh {base a n:Int} {len:Nat} (h:rX base len a n=false):a<base∨(len:Int)<T8.u64.wrap (a - base)∨(len:Int) - T8.u64.wrap (a - base)<n:=by
 have:=of_decide_eq_false h
 omega
theorem of_le {base a n:Int} {len:Nat} (h:rX base len a n=true) (hn:0≤n):kJ base a+n.toNat≤len:=by
 have:=CM h
 have h0:0≤T8.u64.wrap (a - base):=by rw [dR];omega
 unfold kJ
 omega
def sE (l:List Int) (k n:Nat):Int:=sf ((l.drop k).take n)
def Hz (l:List Int) (k:Nat) (w:Int):Nat→List Int
  |0=>l
  |n+1=>(Hz l k w n).set (k+n*1) (T8.u8.wrap (w.fdiv (256^n)))
theorem pr (l:List Int) (k:Nat) (w:Int):∀n,(Hz l k w n).length=l.length
 |0=>rfl
 |n+1=>by rw [Hz,List.length_set,pr l k w n]
theorem hJ (l:List Int) (k:Nat) (w:Int):∀n,Ja (bD l) k w n=bD (Hz l k w n)
 |0=>rfl
 |n+1=>by
  rw [Ja,hJ l k w n,Hz]
  simp [bD,List.map_set]
theorem cf {l:List Int} {k:Nat} (j:Nat) (h:k+j<l.length):(bD l)[k+j*1]? =some (.int .u8 (l.getD (k+j) 0)):=by
 rw [Nat.mul_one]
 simp [bD,h,SK]
theorem dL:∀(n k:Nat) (l:List Int),k+n≤l.length→(l.drop k).take n=(List.range n).map fun j=>l.getD (k+j) 0
 |0,k,l,_=>by simp
 |n+1,k,l,h=>by
  rw [List.range_succ,List.map_append,← dL n k l (by omega),List.take_add_one]
  have:(l.drop k)[n]? =some (l.getD (k+n) 0):=by
   rw [List.getElem?_drop,SK,List.getElem?_eq_getElem (by omega)]
   rfl
  rw [this]
  rfl
def oT (cb cx fr st:List Int) (a n:Int):Option Int:=
  if rX 1048576 cb.length a n=true then some (sE cb (kJ 1048576 a) n.toNat)
  else if rX 2097152 cx.length a n=true then some (sE cx (kJ 2097152 a) n.toNat)
  else if rX 3145728 64 a n=true then some (sE fr (kJ 3145728 a) n.toNat)
  else if rX 4194304 264 a n=true then some (sE st (kJ 4194304 a) n.toNat)
  else none
def nV (cx fr st:List Int) (a n w:Int):Option (List Int×List Int×List Int):=
  if rX 2097152 cx.length a n=true then some (Hz cx (kJ 2097152 a) w n.toNat,fr,st)
  else if rX 3145728 64 a n=true then some (cx,Hz fr (kJ 3145728 a) w n.toNat,st)
  else if rX 4194304 264 a n=true then some (cx,fr,Hz st (kJ 4194304 a) w n.toNat)
  else none
theorem xO {cx fr st:List Int} {a n w:Int} {r:List Int×List Int×List Int} (h:nV cx fr st a n w=some r):r.1.length=cx.length∧r.2.1.length=fr.length∧r.2.2.length=st.length:=by
 unfold nV at h
 split at h
 ·cases h;exact ⟨pr _ _ _ _,rfl,rfl⟩
 split at h
 ·cases h;exact ⟨rfl,pr _ _ _ _,rfl⟩
 split at h
 ·cases h;exact ⟨rfl,rfl,pr _ _ _ _⟩
 ·cases h
def sA (v:Int):Nat:=if 0≤v∧v≤15 then v.toNat%6 else 0
theorem Ht (v:Int):sA v≤5:=by unfold sA;split<;>omega
def xF (m:ao) (n:Nat):List Int:= [m.q7,m.q6,m.q2,m.bQ,m.q8].take n
def bf (cb:List Int) (e:iH):iH×Bool:=
  if rX 1048576 cb.length e.m.pc 1=true then
    match m8 (cb.drop (kJ 1048576 e.m.pc)) with
    |none=>({ e with en:=3 },false)
    |some x=>
      if x.op=31 then
        if sj e.m.q0=true then
          match e.an with
          | []=>({ e with en:=2 },false)
          |a::r=>({ e with m:=(fm e.m x a).1,an:=r,tr:=e.tr++ [⟨mF e.m.q0,xF e.m (sA (mF e.m.q0)),a⟩],en:=0 },true)
        else ({ e with en:=3 },false)
      else if x.op=27 then
        match nV e.cx e.fr e.st (u64 (rg e.m.rl x.base+u64 x.aa)) (x.w / 8) (aV (rg e.m.rl x.src) x.w) with
        |none=>({ e with en:=3 },false)
        |some r=>({ e with m:=(fm e.m x 0).1,cx:=r.1,fr:=r.2.1,st:=r.2.2,en:=0 },true)
      else if x.op=26 then
        match oT cb e.cx e.fr e.st (u64 (rg e.m.rl x.base+u64 x.aa)) (x.w / 8) with
        |none=>({ e with en:=3 },false)
        |some v=>({ e with m:=(fm e.m x v).1,en:=0 },true)
      else if x.op=30 then
        match oT cb e.cx e.fr e.st e.m.q4 8 with
        |none=>({ e with en:=3 },false)
        |some v=>if v=0 then ({ e with m:=(fm e.m x v).1,en:=1 },false) else ({ e with m:=(fm e.m x v).1,en:=0 },true)
      else if (fm e.m x 0).2=0 then ({ e with m:=(fm e.m x 0).1,en:=0 },true)
      else ({ e with en:=3 },false)
  else ({ e with en:=3 },false)
structure J7 (e e2:iH):Prop where
  cx:e2.cx.length=e.cx.length
  fr:e2.fr.length=e.fr.length
  st:e2.st.length=e.st.length
  tr:∃t,e2.tr=e.tr++t∧t.length≤1
theorem mW (cb:List Int) (e:iH):J7 e (bf cb e).1:=by
 have z:∀e2:iH,e2.cx=e.cx→e2.fr=e.fr→e2.st=e.st→e2.tr=e.tr→J7 e e2:=fun e2 h1 h2 h3 h4=>⟨by rw [h1],by rw [h2],by rw [h3],[],by rw [h4,T0],by simp⟩
 unfold bf
 split
 ·split
  ·exact z _ rfl rfl rfl rfl
  ·split
   ·split
    ·split
     ·exact z _ rfl rfl rfl rfl
     ·exact ⟨rfl,rfl,rfl,_,rfl,Nat.le_refl _⟩
    ·exact z _ rfl rfl rfl rfl
   ·split
    ·split
     ·exact z _ rfl rfl rfl rfl
     ·rename_i r hr
      obtain ⟨h1,h2,h3⟩:=xO hr
      exact ⟨h1,h2,h3,[],by rw [T0],by simp⟩
    ·split
     ·split<;>exact z _ rfl rfl rfl rfl
     ·split
      ·split
       ·exact z _ rfl rfl rfl rfl
       ·split<;>exact z _ rfl rfl rfl rfl
      ·split<;>exact z _ rfl rfl rfl rfl
 ·exact z _ rfl rfl rfl rfl
theorem pt (cb:List Int) (e:iH):((bf cb e).2=true→(bf cb e).1.en=0)∧((bf cb e).2=false→(bf cb e).1.en≠0):=by
 unfold bf
 repeat' split
 all_goals (constructor<;>intro h<;>first|rfl|(cases h;done)|decide|(show (3:Int)≠0;decide)|(show (2:Int)≠0;decide)|(show (1:Int)≠0;decide))
def ej (cb:List Int):Nat→iH→iH×Nat
  |0,e=>(e,0)
  |f+1,e=>match bf cb e with
    |(e2,true)=>ej cb f e2
    |(e2,false)=>(e2,f)
theorem uz (cb:List Int):∀(f:Nat) (e:iH),(ej cb f e).1.cx.length=e.cx.length∧(ej cb f e).1.tr.length≤e.tr.length+f
 |0,e=>⟨rfl,Nat.le_refl _⟩
 |f+1,e=>by
  have ho:=mW cb e
  obtain ⟨t,ht,hl⟩:=ho.tr
  rw [ej]
  cases hs:bf cb e with
  |mk e2 b=>
   rw [hs] at ho ht
   cases b with
   |true=>
    obtain ⟨h1,h2⟩:=uz cb f e2
    refine ⟨h1.trans ho.cx,?_⟩
    have:e2.tr.length≤e.tr.length+1:=by rw [ht,SS];omega
    simp only [];omega
   |false=>
    refine ⟨ho.cx,?_⟩
    have:e2.tr.length≤e.tr.length+1:=by rw [ht,SS];omega
    simp only [];omega
end Go.Ev
namespace Go.Proofs.YtbfpahigdpigpaaGreat
open Go Go.Ev
section
variable (o0 aG aJ aI aH x0 x1 x2 x3 x4 x5:Ob) (cb cx fr st:List Int) (u:List D) (v:Nat)
abbrev rS:List Ob:= [o0,.box (gj cb.length cx.length),.dead,.dead,.box (bD cb),.dead,.dead,.box (bD cx),.box (bD fr),.box (bD st),.dead,.box u,aG,aJ,aI,aH,.bO v 3,x0,x1,x2,x3,x4]
abbrev wS (nc nx:Nat):List Ob:= [o0,.box (gj nc nx),.dead,.dead,.box (bD cb),.dead,.dead,.box (bD cx),.box (bD fr),.box (bD st),.dead,.box u,aG,aJ,aI,aH,.bO v 3,x0,x1,x2,x3,x4,x5]
theorem wX (hc:cb.length≤16384) (hx:cx.length≤256) (hf:fr.length=64) (hs:st.length=264) (a n:Int) (hn:n=1∨n=2∨n=4∨n=8):
  af Tryz.prog 115 [.ptr false 1 0,.int .u64 a,.int .i64 n] (rS o0 aG aJ aI aH x0 x1 x2 x3 x4 cb cx fr st u v) (match oT cb cx fr st a n with|some z=> .aC [.int .u64 z,.int .i64 0]|none=> .aC [.int .u64 0,.int .i64 20]) (rS o0 aG aJ aI aH x0 x1 x2 x3 x4 cb cx fr st u v):=by
 unfold oT
 cases h0:rX 1048576 cb.length a n with
 |true=>
  have y:=CM h0
  have le:=of_le h0 (by omega)
  unfold kJ at le
  rw [if_pos rfl]
  rcases hn with rfl|rfl|rfl|rfl
  ·rw [sE,show (1:Int).toNat=1 from rfl,kJ,dL 1 _ cb le]
   exact BT o0 aG aJ aI aH x0 x1 x2 x3 x4 (bD cb) (bD cx) (bD fr) (bD st) u cb.length cx.length v hc hx a y.1 y.2.1 y.2.2 _ (cf 0 (by omega))
  ·rw [sE,show (2:Int).toNat=2 from rfl,kJ,dL 2 _ cb le]
   exact BS o0 aG aJ aI aH x0 x1 x2 x3 x4 (bD cb) (bD cx) (bD fr) (bD st) u cb.length cx.length v hc hx a y.1 y.2.1 y.2.2 _ _ (cf 0 (by omega)) (cf 1 (by omega))
  ·rw [sE,show (4:Int).toNat=4 from rfl,kJ,dL 4 _ cb le]
   exact BR o0 aG aJ aI aH x0 x1 x2 x3 x4 (bD cb) (bD cx) (bD fr) (bD st) u cb.length cx.length v hc hx a y.1 y.2.1 y.2.2 _ _ _ _ (cf 0 (by omega)) (cf 1 (by omega)) (cf 2 (by omega)) (cf 3 (by omega))
  ·rw [sE,show (8:Int).toNat=8 from rfl,kJ,dL 8 _ cb le]
   exact BQ o0 aG aJ aI aH x0 x1 x2 x3 x4 (bD cb) (bD cx) (bD fr) (bD st) u cb.length cx.length v hc hx a y.1 y.2.1 y.2.2 _ _ _ _ _ _ _ _ (cf 0 (by omega)) (cf 1 (by omega)) (cf 2 (by omega)) (cf 3 (by omega)) (cf 4 (by omega)) (cf 5 (by omega)) (cf 6 (by omega)) (cf 7 (by omega))
 |false=>
 rw [if_neg (by simp)]
 cases h1:rX 2097152 cx.length a n with
 |true=>
  have y:=CM h1
  have le:=of_le h1 (by omega)
  unfold kJ at le
  rw [if_pos rfl]
  rcases hn with rfl|rfl|rfl|rfl
  ·rw [sE,show (1:Int).toNat=1 from rfl,kJ,dL 1 _ cx le]
   exact BP o0 aG aJ aI aH x0 x1 x2 x3 x4 (bD cb) (bD cx) (bD fr) (bD st) u cb.length cx.length v hc hx a (eh h0) y.1 y.2.1 y.2.2 _ (cf 0 (by omega))
  ·rw [sE,show (2:Int).toNat=2 from rfl,kJ,dL 2 _ cx le]
   exact BO o0 aG aJ aI aH x0 x1 x2 x3 x4 (bD cb) (bD cx) (bD fr) (bD st) u cb.length cx.length v hc hx a (eh h0) y.1 y.2.1 y.2.2 _ _ (cf 0 (by omega)) (cf 1 (by omega))
  ·rw [sE,show (4:Int).toNat=4 from rfl,kJ,dL 4 _ cx le]
   exact BN o0 aG aJ aI aH x0 x1 x2 x3 x4 (bD cb) (bD cx) (bD fr) (bD st) u cb.length cx.length v hc hx a (eh h0) y.1 y.2.1 y.2.2 _ _ _ _ (cf 0 (by omega)) (cf 1 (by omega)) (cf 2 (by omega)) (cf 3 (by omega))
  ·rw [sE,show (8:Int).toNat=8 from rfl,kJ,dL 8 _ cx le]
   exact BM o0 aG aJ aI aH x0 x1 x2 x3 x4 (bD cb) (bD cx) (bD fr) (bD st) u cb.length cx.length v hc hx a (eh h0) y.1 y.2.1 y.2.2 _ _ _ _ _ _ _ _ (cf 0 (by omega)) (cf 1 (by omega)) (cf 2 (by omega)) (cf 3 (by omega)) (cf 4 (by omega)) (cf 5 (by omega)) (cf 6 (by omega)) (cf 7 (by omega))
 |false=>
 rw [if_neg (by simp)]
 cases h2:rX 3145728 64 a n with
 |true=>
  have y:=CM h2
  have le:=of_le h2 (by omega)
  unfold kJ at le
  rw [← hf] at le
  rw [if_pos rfl]
  rcases hn with rfl|rfl|rfl|rfl
  ·rw [sE,show (1:Int).toNat=1 from rfl,kJ,dL 1 _ fr le]
   exact BL o0 aG aJ aI aH x0 x1 x2 x3 x4 (bD cb) (bD cx) (bD fr) (bD st) u cb.length cx.length v hc hx a (eh h0) (eh h1) y.1 y.2.1 y.2.2 _ (cf 0 (by omega))
  ·rw [sE,show (2:Int).toNat=2 from rfl,kJ,dL 2 _ fr le]
   exact BK o0 aG aJ aI aH x0 x1 x2 x3 x4 (bD cb) (bD cx) (bD fr) (bD st) u cb.length cx.length v hc hx a (eh h0) (eh h1) y.1 y.2.1 y.2.2 _ _ (cf 0 (by omega)) (cf 1 (by omega))
  ·rw [sE,show (4:Int).toNat=4 from rfl,kJ,dL 4 _ fr le]
   exact BJ o0 aG aJ aI aH x0 x1 x2 x3 x4 (bD cb) (bD cx) (bD fr) (bD st) u cb.length cx.length v hc hx a (eh h0) (eh h1) y.1 y.2.1 y.2.2 _ _ _ _ (cf 0 (by omega)) (cf 1 (by omega)) (cf 2 (by omega)) (cf 3 (by omega))
  ·rw [sE,show (8:Int).toNat=8 from rfl,kJ,dL 8 _ fr le]
   exact BI o0 aG aJ aI aH x0 x1 x2 x3 x4 (bD cb) (bD cx) (bD fr) (bD st) u cb.length cx.length v hc hx a (eh h0) (eh h1) y.1 y.2.1 y.2.2 _ _ _ _ _ _ _ _ (cf 0 (by omega)) (cf 1 (by omega)) (cf 2 (by omega)) (cf 3 (by omega)) (cf 4 (by omega)) (cf 5 (by omega)) (cf 6 (by omega)) (cf 7 (by omega))
 |false=>
 rw [if_neg (by simp)]
 cases h3:rX 4194304 264 a n with
 |true=>
  have y:=CM h3
  have le:=of_le h3 (by omega)
  unfold kJ at le
  rw [← hs] at le
  rw [if_pos rfl]
  rcases hn with rfl|rfl|rfl|rfl
  ·rw [sE,show (1:Int).toNat=1 from rfl,kJ,dL 1 _ st le]
   exact BH o0 aG aJ aI aH x0 x1 x2 x3 x4 (bD cb) (bD cx) (bD fr) (bD st) u cb.length cx.length v hc hx a (eh h0) (eh h1) (eh h2) y.1 y.2.1 y.2.2 _ (cf 0 (by omega))
  ·rw [sE,show (2:Int).toNat=2 from rfl,kJ,dL 2 _ st le]
   exact BG o0 aG aJ aI aH x0 x1 x2 x3 x4 (bD cb) (bD cx) (bD fr) (bD st) u cb.length cx.length v hc hx a (eh h0) (eh h1) (eh h2) y.1 y.2.1 y.2.2 _ _ (cf 0 (by omega)) (cf 1 (by omega))
  ·rw [sE,show (4:Int).toNat=4 from rfl,kJ,dL 4 _ st le]
   exact BF o0 aG aJ aI aH x0 x1 x2 x3 x4 (bD cb) (bD cx) (bD fr) (bD st) u cb.length cx.length v hc hx a (eh h0) (eh h1) (eh h2) y.1 y.2.1 y.2.2 _ _ _ _ (cf 0 (by omega)) (cf 1 (by omega)) (cf 2 (by omega)) (cf 3 (by omega))
  ·rw [sE,show (8:Int).toNat=8 from rfl,kJ,dL 8 _ st le]
   exact BE o0 aG aJ aI aH x0 x1 x2 x3 x4 (bD cb) (bD cx) (bD fr) (bD st) u cb.length cx.length v hc hx a (eh h0) (eh h1) (eh h2) y.1 y.2.1 y.2.2 _ _ _ _ _ _ _ _ (cf 0 (by omega)) (cf 1 (by omega)) (cf 2 (by omega)) (cf 3 (by omega)) (cf 4 (by omega)) (cf 5 (by omega)) (cf 6 (by omega)) (cf 7 (by omega))
 |false=>
 rw [if_neg (by simp)]
 exact Gv o0 aG aJ aI aH x0 x1 x2 x3 x4 (bD cb) (bD cx) (bD fr) (bD st) u cb.length cx.length v hc hx a n hn (by omega) (by omega) (eh h0) (eh h1) (eh h2) (eh h3)
theorem Bl (hc:cb.length≤16384) (hx:cx.length≤256) (hf:fr.length=64) (hs:st.length=264) (a n w:Int) (hn:n=1∨n=2∨n=4∨n=8):
  match nV cx fr st a n w with
  |some r=>af Tryz.prog 113 [.ptr false 1 0,.int .u64 a,.int .i64 n,.int .u64 w] (wS o0 aG aJ aI aH x0 x1 x2 x3 x4 x5 cb cx fr st u v cb.length cx.length) (.int .i64 0) (wS o0 aG aJ aI aH x0 x1 x2 x3 x4 x5 cb r.1 r.2.1 r.2.2 u v cb.length cx.length)
  |none=>af Tryz.prog 113 [.ptr false 1 0,.int .u64 a,.int .i64 n,.int .u64 w] (wS o0 aG aJ aI aH x0 x1 x2 x3 x4 x5 cb cx fr st u v cb.length cx.length) (.int .i64 20) (wS o0 aG aJ aI aH x0 x1 x2 x3 x4 x5 cb cx fr st u v cb.length cx.length):=by
 unfold nV
 cases h1:rX 2097152 cx.length a n with
 |true=>
  have y:=CM h1
  have g0:a<1048576∨(cb.length:Int)<T8.u64.wrap (a - 1048576)∨(cb.length:Int) - T8.u64.wrap (a - 1048576)<n:=by
   right;left
   rw [dR] at y ⊢
   omega
  rw [if_pos rfl]
  rcases hn with rfl|rfl|rfl|rfl
  ·have:=Bf o0 aG aJ aI aH x0 x1 x2 x3 x4 x5 (bD cb) (bD cx) (bD fr) (bD st) u cb.length cx.length v hc hx a w g0 y.1 y.2.1 y.2.2 (by rw [aN])
   rw [hJ] at this
   exact this
  ·have:=Be o0 aG aJ aI aH x0 x1 x2 x3 x4 x5 (bD cb) (bD cx) (bD fr) (bD st) u cb.length cx.length v hc hx a w g0 y.1 y.2.1 y.2.2 (by rw [aN])
   rw [hJ] at this
   exact this
  ·have:=Bd o0 aG aJ aI aH x0 x1 x2 x3 x4 x5 (bD cb) (bD cx) (bD fr) (bD st) u cb.length cx.length v hc hx a w g0 y.1 y.2.1 y.2.2 (by rw [aN])
   rw [hJ] at this
   exact this
  ·have:=Bc o0 aG aJ aI aH x0 x1 x2 x3 x4 x5 (bD cb) (bD cx) (bD fr) (bD st) u cb.length cx.length v hc hx a w g0 y.1 y.2.1 y.2.2 (by rw [aN])
   rw [hJ] at this
   exact this
 |false=>
 rw [if_neg (by simp)]
 cases h2:rX 3145728 64 a n with
 |true=>
  have y:=CM h2
  have g0:a<1048576∨(cb.length:Int)<T8.u64.wrap (a - 1048576)∨(cb.length:Int) - T8.u64.wrap (a - 1048576)<n:=by
   right;left
   rw [dR] at y ⊢
   omega
  rw [if_pos rfl]
  rcases hn with rfl|rfl|rfl|rfl
  ·have:=Bb o0 aG aJ aI aH x0 x1 x2 x3 x4 x5 (bD cb) (bD cx) (bD fr) (bD st) u cb.length cx.length v hc hx a w g0 (eh h1) y.1 y.2.1 y.2.2 (by rw [aN,hf])
   rw [hJ] at this
   exact this
  ·have:=Ba o0 aG aJ aI aH x0 x1 x2 x3 x4 x5 (bD cb) (bD cx) (bD fr) (bD st) u cb.length cx.length v hc hx a w g0 (eh h1) y.1 y.2.1 y.2.2 (by rw [aN,hf])
   rw [hJ] at this
   exact this
  ·have:=A9 o0 aG aJ aI aH x0 x1 x2 x3 x4 x5 (bD cb) (bD cx) (bD fr) (bD st) u cb.length cx.length v hc hx a w g0 (eh h1) y.1 y.2.1 y.2.2 (by rw [aN,hf])
   rw [hJ] at this
   exact this
  ·have:=A8 o0 aG aJ aI aH x0 x1 x2 x3 x4 x5 (bD cb) (bD cx) (bD fr) (bD st) u cb.length cx.length v hc hx a w g0 (eh h1) y.1 y.2.1 y.2.2 (by rw [aN,hf])
   rw [hJ] at this
   exact this
 |false=>
 rw [if_neg (by simp)]
 cases h3:rX 4194304 264 a n with
 |true=>
  have y:=CM h3
  have g0:a<1048576∨(cb.length:Int)<T8.u64.wrap (a - 1048576)∨(cb.length:Int) - T8.u64.wrap (a - 1048576)<n:=by
   right;left
   rw [dR] at y ⊢
   omega
  rw [if_pos rfl]
  rcases hn with rfl|rfl|rfl|rfl
  ·have:=A7 o0 aG aJ aI aH x0 x1 x2 x3 x4 x5 (bD cb) (bD cx) (bD fr) (bD st) u cb.length cx.length v hc hx a w g0 (eh h1) (eh h2) y.1 y.2.1 y.2.2 (by rw [aN,hs])
   rw [hJ] at this
   exact this
  ·have:=A6 o0 aG aJ aI aH x0 x1 x2 x3 x4 x5 (bD cb) (bD cx) (bD fr) (bD st) u cb.length cx.length v hc hx a w g0 (eh h1) (eh h2) y.1 y.2.1 y.2.2 (by rw [aN,hs])
   rw [hJ] at this
   exact this
  ·have:=A5 o0 aG aJ aI aH x0 x1 x2 x3 x4 x5 (bD cb) (bD cx) (bD fr) (bD st) u cb.length cx.length v hc hx a w g0 (eh h1) (eh h2) y.1 y.2.1 y.2.2 (by rw [aN,hs])
   rw [hJ] at this
   exact this
  ·have:=A4 o0 aG aJ aI aH x0 x1 x2 x3 x4 x5 (bD cb) (bD cx) (bD fr) (bD st) u cb.length cx.length v hc hx a w g0 (eh h1) (eh h2) y.1 y.2.1 y.2.2 (by rw [aN,hs])
   rw [hJ] at this
   exact this
 |false=>
 rw [if_neg (by simp)]
 cases h0:rX 1048576 cb.length a n with
 |true=>exact Dy o0 aG aJ aI aH x0 x1 x2 x3 x4 x5 (bD cb) (bD cx) (bD fr) (bD st) u cb.length cx.length v hc hx w a n hn (by omega) (by omega) (CM h0).1 (CM h0).2.1 (CM h0).2.2 (eh h1) (eh h2) (eh h3)
 |false=>exact Ga o0 aG aJ aI aH x0 x1 x2 x3 x4 x5 (bD cb) (bD cx) (bD fr) (bD st) u cb.length cx.length v hc hx w a n hn (by omega) (by omega) (eh h0) (eh h1) (eh h2) (eh h3)
end
theorem G2 (v:Int):aF Tryz.prog 162 [.int .i64 v] (.int .i64 (sA v:Int)):=by
 unfold sA
 by_cases h0:0≤v
 ·by_cases h1:v≤15
  ·rw [if_pos ⟨h0,h1⟩]
   have e:Int.tmod v 6=((v.toNat%6:Nat):Int):=by rw [Int.tmod_eq_emod_of_nonneg h0];omega
   rw [← e]
   exact Fk v h0 h1
  ·rw [if_neg (fun h=>h1 h.2)];exact w5 v (by omega)
 ·rw [if_neg (fun h=>h0 h.1)];exact wZ v (by omega)
theorem Hd (m:ao) (v:Int) (hn:aF Tryz.prog 144 [.agg (gd m)] (.aC [.int .i64 v,.bool true])):aF Tryz.prog 145 [.agg (gd m)] (.aj .no 1 (wD (xF m (sA v)))):=by
 have ha:=G2 v
 have h5:=Ht v
 generalize sA v=n at ha h5
 have:n=0∨n=1∨n=2∨n=3∨n=4∨n=5:=by omega
 rcases this with rfl|rfl|rfl|rfl|rfl|rfl
 ·exact (zw m v hn ha).to (by exact ⟨rfl,.inr rfl,trivial,.inl rfl⟩)
 ·exact (zu m v hn ha).to (by exact ⟨rfl,.inl rfl,trivial,.inr rfl⟩)
 ·exact (zt m v hn ha).to (by exact ⟨rfl,.inl rfl,trivial,.inr rfl⟩)
 ·exact (zs m v hn ha).to (by exact ⟨rfl,.inl rfl,trivial,.inr rfl⟩)
 ·exact (zr m v hn ha).to (by exact ⟨rfl,.inl rfl,trivial,.inr rfl⟩)
 ·exact (zq m v hn ha).to (by exact ⟨rfl,.inl rfl,trivial,.inr rfl⟩)
abbrev eS (o0 aG aJ aI aH:Ob) (cb:List Int) (nc nx:Nat) (e:iH) (v:Nat) (dd:List Ob):List Ob:=o0:: .box (gj nc nx):: .dead:: .dead:: .box (bD cb):: .dead:: .dead:: .box (bD e.cx):: .box (bD e.fr):: .box (bD e.st):: .dead:: .box (uC e.m (wD e.an) (ev e.tr) v e.en)::aG::aJ::aI::aH:: .bO v 3::dd
theorem JT {m:ao} {x:XS} {ld:Int} (hm:x.may=true) (ho:x.op=26∨x.op=27∨x.op=30∨x.op=31):(fm m x ld).2=0:=by
 rw [tj hm]
 obtain ⟨op,w,dst,src,base,aa,ai,cc⟩:=x
 rcases ho with h|h|h|h<;>(simp only at h;subst h;rfl)
theorem wU {op w dst src base aa ai cc:Int} (h:ct op w dst src base aa ai cc=true) (ho:op=26∨op=27):bu w=true:=by
 have hs:=(dF h).2
 rcases ho with rfl|rfl
 ·rw [show aA 26=7 from rfl] at hs
  simp [iw] at hs;exact hs.1
 ·rw [show aA 27=8 from rfl] at hs
  simp [iw] at hs;exact hs.1
theorem AI {op w dst src base aa ai cc:Int} (h:ct op w dst src base aa ai cc=true):op≤127:=by
 have hs:=(dF h).2
 have Oq:aA op≠0:=by
  intro e
  rw [e] at hs
  simp [iw] at hs
 rcases hP Oq with rfl|rfl|rfl|rfl|rfl|rfl|rfl|rfl|rfl|rfl|rfl|rfl|rfl|rfl|rfl|rfl|rfl|rfl|rfl|rfl|rfl|rfl|rfl|rfl|rfl|rfl|rfl|rfl|rfl|rfl|rfl|rfl<;>decide
theorem D7 {b:List Int} {x:XS} (h:m8 b=some x):x.may=true:=by
 unfold m8 at h
 split at h
 ·rename_i hf
  cases h
  unfold jV at hf
  rw [SG] at hf
  exact hf.1
 ·cases h
theorem bne {a b:Int} (h:a≠b):(a==b)=false:=by rw [beq_eq_false_iff_ne];exact h
theorem Fi {b:List Int} (h:fO b) (k:Nat):fO (b.drop k):=fun x hx=>h x (List.mem_of_mem_drop hx)
theorem mX (o0 aG aJ aI aH:Ob) (cb:List Int) (hb:fO cb) (hc:cb.length≤16384) (nx:Nat) (LC:nx≤256) (e:iH) (hx:e.cx.length=nx) (hf:e.fr.length=64) (hs:e.st.length=264) (ht:e.tr.length≤100000):
  ∃(v:Nat) (dd:List Ob),(v=0∨v=1∧(bf cb e).2=true)∧af Tryz.prog 47 [.ptr false 11 0] (eS o0 aG aJ aI aH cb cb.length nx e 0 []) (.bool (bf cb e).2) (eS o0 aG aJ aI aH cb cb.length nx (bf cb e).1 v dd):=by
 obtain ⟨m,cx,fr,st,an,tr,en⟩:=e
 simp only at hx hf hs ht
 subst hx
 cases h0:rX 1048576 cb.length m.pc 1 with
 |false=>
  have es:bf cb ⟨m,cx,fr,st,an,tr,en⟩=(⟨m,cx,fr,st,an,tr,3⟩,false):=by unfold bf;rw [if_neg (by rw [h0];decide)]
  rw [es]
  exact ⟨0,[],.inl rfl,xW o0 aG aJ aI aH (bD cb) (bD cx) (bD fr) (bD st) (wD an) (ev tr) m en cb.length cx.length hc LC (eh h0)⟩
 |true=>
  obtain ⟨p0,p1,p2⟩:=CM h0
  have hk0:0≤T8.u64.wrap (m.pc - 1048576):=by rw [dR];omega
  have hF:hB (bD cb) (0+Sz (T8.u64.wrap (m.pc - 1048576))*1) ((cb.length - Sz (T8.u64.wrap (m.pc - 1048576)))*1) (bD (cb.drop (kJ 1048576 m.pc))):=by
   refine ⟨?_,by rw [aN];omega⟩
   have:0+Sz (T8.u64.wrap (m.pc - 1048576))*1=kJ 1048576 m.pc:=by unfold kJ;omega
   rw [this,Nat.mul_one]
   unfold bD
   rw [← List.map_drop,List.take_of_length_le]
   rw [List.length_map,List.length_drop]
   unfold kJ
   omega
  have hr:=D8 (cb.drop (kJ 1048576 m.pc)) (Fi hb _)
  cases hM:m8 (cb.drop (kJ 1048576 m.pc)) with
  |none=>
   rw [hM] at hr
   have es:bf cb ⟨m,cx,fr,st,an,tr,en⟩=(⟨m,cx,fr,st,an,tr,3⟩,false):=by unfold bf;rw [if_pos h0,hM]
   rw [es]
   exact ⟨0,[.dead,.dead,.dead],.inl rfl,Bu o0 aG aJ aI aH (bD cb) (bD cx) (bD fr) (bD st) (wD an) (ev tr) m en cb.length cx.length hc LC p0 p1 p2 _ hF (a9 _) 0 0 0 0 0 0 0 0 0 30 hr (by decide)⟩
  |some x=>
   rw [hM] at hr
   have hm:=D7 hM
   have hd:=fun ld=>CZ m x ld (AI hm)
   have Rh:=fun ld=>JT (m:=m) (ld:=ld) hm
   obtain ⟨op,w,dst,src,base,aa,ai,cc⟩:=x
   have O0:ct op w dst src base aa ai cc=true:=hm
   have NH:=AI O0
   obtain ⟨⟨d0,d1,s0,s1,b0,b1,_⟩,_⟩:=dF O0
   by_cases O3:op=31
   ·subst O3
    have ha:=xo m 31 w dst src base aa ai cc NH (by decide) (by decide) (by decide) O0
    have hn:=Hb m
    cases hq:sj m.q0 with
    |false=>
     rw [hq] at hn
     have es:bf cb ⟨m,cx,fr,st,an,tr,en⟩=(⟨m,cx,fr,st,an,tr,3⟩,false):=by
      simp [bf,h0,hM,hq]
     rw [es]
     exact ⟨0,Sx 6 .dead,.inl rfl,wm o0 aG aJ aI aH (bD cb) (bD cx) (bD fr) (bD st) (wD an) (ev tr) m en cb.length cx.length hc LC p0 p1 p2 _ hF (a9 _) _ _ _ _ _ _ _ _ _ hr rfl rfl rfl rfl _ _ _ ha _ hn⟩
    |true=>
     rw [hq] at hn
     cases an with
     |nil=>
      have es:bf cb ⟨m,cx,fr,st,[],tr,en⟩=(⟨m,cx,fr,st,[],tr,2⟩,false):=by
       simp [bf,h0,hM,hq]
      rw [es]
      exact ⟨0,Sx 6 .dead,.inl rfl,wj o0 aG aJ aI aH (bD cb) (bD cx) (bD fr) (bD st) (ev tr) m en cb.length cx.length hc LC p0 p1 p2 _ hF (a9 _) _ _ _ _ _ _ _ _ _ hr rfl rfl rfl rfl _ _ _ ha _ hn⟩
     |cons a0 ar=>
      have es:bf cb ⟨m,cx,fr,st,a0::ar,tr,en⟩=(⟨(fm m ⟨31,w,dst,src,base,aa,ai,cc⟩ a0).1,cx,fr,st,ar,tr++ [⟨mF m.q0,xF m (sA (mF m.q0)),a0⟩],0⟩,true):=by
       simp [bf,h0,hM,hq]
      rw [es]
      have hD:=hd a0
      rw [Rh a0 (.inr (.inr (.inr rfl)))] at hD
      have hg:=Hd m _ hn
      have et:ev (tr++ [⟨mF m.q0,xF m (sA (mF m.q0)),a0⟩])=ev tr++ [.agg [.int .i64 (mF m.q0),.aj .no 1 (wD (xF m (sA (mF m.q0)))),.int .u64 a0]]:=by simp [ev,Hx.d]
      refine ⟨1,Sx 9 .dead,.inr ⟨rfl,rfl⟩,?_⟩
      have:=Bw o0 aG aJ aI aH (bD cb) (bD cx) (bD fr) (bD st) (wD ar) (ev tr) _ m en cb.length cx.length hc LC p0 p1 p2 _ hF (a9 _) _ _ _ _ _ _ _ _ _ hr rfl rfl rfl rfl _ _ _ ha _ a0 (by simpa [ev] using ht) hn hg _ _ hD rfl
      rw [← et] at this
      exact this
   by_cases NG:op=27
   ·subst NG
    have hw:=wU O0 (.inr rfl)
    have hwc:=gB hw
    have ha:=Dc m w dst src base aa ai cc d0 d1 s0 s1 b0 b1 (by omega) (by omega) O0
    have LL:=Da m w dst src base aa ai cc d0 d1 s0 s1 b0 b1 hw O0
    have hW:=Bl o0 aG aJ aI aH (.bO 0 1) .dead (.box [.int .i8 27,.int .i8 w,.int .i8 dst,.int .i8 src,.int .i8 base,.int .i64 aa,.int .i64 ai,.int .i8 cc]) (.box [.int .i8 27,.int .i8 w,.int .i8 dst,.int .i8 src,.int .i8 base,.int .i64 aa,.int .i64 ai,.int .i8 cc]) .dead .dead cb cx fr st (uC m (wD an) (ev tr) 0 3) 0 hc LC hf hs (u64 (rg m.rl base+u64 aa)) (w / 8) (aV (rg m.rl src) w) (by omega)
    cases hS:nV cx fr st (u64 (rg m.rl base+u64 aa)) (w / 8) (aV (rg m.rl src) w) with
    |none=>
     rw [hS] at hW
     have es:bf cb ⟨m,cx,fr,st,an,tr,en⟩=(⟨m,cx,fr,st,an,tr,3⟩,false):=by
      simp [bf,h0,hM,hS]
     rw [es]
     exact ⟨0,Sx 6 .dead,.inl rfl,uv o0 aG aJ aI aH (bD cb) (bD cx) (bD fr) (bD st) (wD an) (ev tr) m en cb.length cx.length hc LC p0 p1 p2 _ hF (a9 _) _ _ _ _ _ _ _ _ _ hr rfl rfl rfl rfl _ _ _ ha _ LL hW⟩
    |some r=>
     rw [hS] at hW
     have es:bf cb ⟨m,cx,fr,st,an,tr,en⟩=(⟨(fm m ⟨27,w,dst,src,base,aa,ai,cc⟩ 0).1,r.1,r.2.1,r.2.2,an,tr,0⟩,true):=by
      simp [bf,h0,hM,hS]
     rw [es]
     have hD:=hd 0
     rw [Rh 0 (.inr (.inl rfl))] at hD
     exact ⟨0,Sx 8 .dead,.inl rfl,xU o0 aG aJ aI aH (bD cb) (bD cx) (bD fr) (bD st) (wD an) (ev tr) m en cb.length cx.length hc LC p0 p1 p2 _ hF (a9 _) _ _ _ _ _ _ _ _ _ hr rfl rfl rfl rfl _ _ _ ha _ _ _ _ LL hW _ _ hD rfl⟩
   by_cases Oy:op=26
   ·subst Oy
    have hw:=wU O0 (.inl rfl)
    have hwc:=gB hw
    have ha:=Dd m w dst src base aa ai cc d0 d1 s0 s1 b0 b1 (by omega) (by omega) O0
    have hL:=wX o0 aG aJ aI aH (.bO 0 1) .dead (.box [.int .i8 26,.int .i8 w,.int .i8 dst,.int .i8 src,.int .i8 base,.int .i64 aa,.int .i64 ai,.int .i8 cc]) (.box [.int .i8 26,.int .i8 w,.int .i8 dst,.int .i8 src,.int .i8 base,.int .i64 aa,.int .i64 ai,.int .i8 cc]) .dead cb cx fr st (uC m (wD an) (ev tr) 0 3) 0 hc LC hf hs (u64 (rg m.rl base+u64 aa)) (w / 8) (by omega)
    cases hS:oT cb cx fr st (u64 (rg m.rl base+u64 aa)) (w / 8) with
    |none=>
     rw [hS] at hL
     have es:bf cb ⟨m,cx,fr,st,an,tr,en⟩=(⟨m,cx,fr,st,an,tr,3⟩,false):=by
      simp [bf,h0,hM,hS]
     rw [es]
     exact ⟨0,Sx 5 .dead,.inl rfl,wi o0 aG aJ aI aH (bD cb) (bD cx) (bD fr) (bD st) (wD an) (ev tr) m en cb.length cx.length hc LC p0 p1 p2 _ hF (a9 _) _ _ _ _ _ _ _ _ _ hr rfl rfl rfl rfl _ _ _ ha hL⟩
    |some z=>
     rw [hS] at hL
     have es:bf cb ⟨m,cx,fr,st,an,tr,en⟩=(⟨(fm m ⟨26,w,dst,src,base,aa,ai,cc⟩ z).1,cx,fr,st,an,tr,0⟩,true):=by
      simp [bf,h0,hM,hS]
     rw [es]
     have hD:=hd z
     rw [Rh z (.inl rfl)] at hD
     exact ⟨0,Sx 7 .dead,.inl rfl,Bv o0 aG aJ aI aH (bD cb) (bD cx) (bD fr) (bD st) (wD an) (ev tr) m en cb.length cx.length hc LC p0 p1 p2 _ hF (a9 _) _ _ _ _ _ _ _ _ _ hr rfl rfl rfl rfl _ _ _ ha _ hL _ _ hD rfl⟩
   by_cases OU:op=30
   ·subst OU
    have ha:=Db m w dst src base aa ai cc d0 d1 s0 s1 b0 b1 O0
    have hL:=wX o0 aG aJ aI aH (.bO 0 1) .dead (.box [.int .i8 30,.int .i8 w,.int .i8 dst,.int .i8 src,.int .i8 base,.int .i64 aa,.int .i64 ai,.int .i8 cc]) (.box [.int .i8 30,.int .i8 w,.int .i8 dst,.int .i8 src,.int .i8 base,.int .i64 aa,.int .i64 ai,.int .i8 cc]) .dead cb cx fr st (uC m (wD an) (ev tr) 0 3) 0 hc LC hf hs m.q4 8 (by omega)
    cases hS:oT cb cx fr st m.q4 8 with
    |none=>
     rw [hS] at hL
     have es:bf cb ⟨m,cx,fr,st,an,tr,en⟩=(⟨m,cx,fr,st,an,tr,3⟩,false):=by
      simp [bf,h0,hM,hS]
     rw [es]
     exact ⟨0,Sx 5 .dead,.inl rfl,xV o0 aG aJ aI aH (bD cb) (bD cx) (bD fr) (bD st) (wD an) (ev tr) m en cb.length cx.length hc LC p0 p1 p2 _ hF (a9 _) _ _ _ _ _ _ _ _ _ hr rfl rfl rfl rfl _ _ _ ha hL⟩
    |some z=>
     rw [hS] at hL
     have hD:=hd z
     rw [Rh z (.inr (.inr (.inl rfl)))] at hD
     by_cases hz:z=0
     ·have es:bf cb ⟨m,cx,fr,st,an,tr,en⟩=(⟨(fm m ⟨30,w,dst,src,base,aa,ai,cc⟩ z).1,cx,fr,st,an,tr,1⟩,false):=by
       simp [bf,h0,hM,hS,hz]
      rw [es]
      exact ⟨0,Sx 7 .dead,.inl rfl,Bt o0 aG aJ aI aH (bD cb) (bD cx) (bD fr) (bD st) (wD an) (ev tr) m en cb.length cx.length hc LC p0 p1 p2 _ hF (a9 _) _ _ _ _ _ _ _ _ _ hr rfl rfl rfl rfl _ _ _ ha _ hL _ _ hD rfl (by rw [hz];rfl)⟩
     ·have es:bf cb ⟨m,cx,fr,st,an,tr,en⟩=(⟨(fm m ⟨30,w,dst,src,base,aa,ai,cc⟩ z).1,cx,fr,st,an,tr,0⟩,true):=by
       simp [bf,h0,hM,hS,hz]
      rw [es]
      exact ⟨0,Sx 7 .dead,.inl rfl,DU o0 aG aJ aI aH (bD cb) (bD cx) (bD fr) (bD st) (wD an) (ev tr) m en cb.length cx.length hc LC p0 p1 p2 _ hF (a9 _) _ _ _ _ _ _ _ _ _ hr rfl rfl rfl rfl _ _ _ ha _ hL _ _ hD rfl (bne hz)⟩
   ·have ha:=xo m op w dst src base aa ai cc NH (bne Oy) (bne NG) (bne OU) O0
    by_cases he:(fm m ⟨op,w,dst,src,base,aa,ai,cc⟩ 0).2=0
    ·have es:bf cb ⟨m,cx,fr,st,an,tr,en⟩=(⟨(fm m ⟨op,w,dst,src,base,aa,ai,cc⟩ 0).1,cx,fr,st,an,tr,0⟩,true):=by
      simp [bf,h0,hM,O3,NG,Oy,OU,he]
     rw [es]
     exact ⟨0,Sx 7 .dead,.inl rfl,Bx o0 aG aJ aI aH (bD cb) (bD cx) (bD fr) (bD st) (wD an) (ev tr) m en cb.length cx.length hc LC p0 p1 p2 _ hF (a9 _) _ _ _ _ _ _ _ _ _ hr (bne Oy) (bne NG) (bne OU) (bne O3) _ _ _ ha _ _ (hd 0) he⟩
    ·have es:bf cb ⟨m,cx,fr,st,an,tr,en⟩=(⟨m,cx,fr,st,an,tr,3⟩,false):=by
      simp [bf,h0,hM,O3,NG,Oy,OU,he]
     rw [es]
     exact ⟨0,Sx 7 .dead,.inl rfl,wo o0 aG aJ aI aH (bD cb) (bD cx) (bD fr) (bD st) (wD an) (ev tr) m en cb.length cx.length hc LC p0 p1 p2 _ hF (a9 _) _ _ _ _ _ _ _ _ _ hr (bne Oy) (bne NG) (bne OU) (bne O3) _ _ _ ha _ _ (hd 0) he⟩
abbrev Kf:List D:= [.hE 15,.ptr false 12 0,.undef,.ptr false 14 0,.undef,.undef,.undef,.undef,.undef,.undef,.undef,.undef,.undef,.undef,.undef,.undef,.undef,.undef,.undef,.undef,.undef,.undef,.undef,.undef,.undef,.undef,.undef,.undef,.undef,.undef,.undef,.undef,.undef,.undef,.undef]
abbrev Ke:List D:= [.undef,.undef,.undef,.undef,.undef,.undef,.undef,.undef,.undef,.undef,.undef,.undef,.undef,.undef,.undef,.undef,.undef,.undef,.undef,.undef,.undef,.undef,.undef,.undef,.undef,.undef,.undef,.undef,.undef,.undef,.undef,.undef,.undef,.undef,.undef]
abbrev K2 (lp:Ob) (cb:List Int) (nx:Nat) (e:iH) (left:Int):List Ob:=eS (.box [.int .i8 0,.int .u64 0,.aj .tight 0 [],.aj .tight 0 [],.int .i64 left]) (.box [.ptr false 11 0]) .dead (.box [.ptr false 0 4]) lp cb cb.length nx e 0 []
def su (e:iH):Ex:=if e.en=0 then .exit 0 else .ret
theorem qp (cb:List Int) (hb:fO cb) (hc:cb.length≤16384) (nx:Nat) (LC:nx≤256):∀(f:Nat) (e:iH),e.en=0→e.cx.length=nx→e.fr.length=64→e.st.length=264→e.tr.length+f≤100000→
  bJ Tryz.prog (cu Tryz.f45 0) 16 Kf (K2 (.lp .ready (Sx 56 .undef) #[27,28] (a8 Tryz.f10 0) (a7 Tryz.f10 0)) cb nx e (f:Int)) (su (ej cb f e).1) Ke (K2 (.lp .ready (Sx 56 .undef) #[27,28] (a8 Tryz.f10 0) (a7 Tryz.f10 0)) cb nx (ej cb f e).1 ((ej cb f e).2:Int))
 |0,e,h0,hx,hf,hs,ht=>by
  have:=Iz (bD cb) (bD e.cx) (bD e.fr) (bD e.st) (wD e.an) (ev e.tr) e.m ((0:Nat):Int) e.en cb.length nx (au _) (au _) (au _) (au _) (Int.le_refl _)
  rw [cr,cr,cr,cr] at this
  rw [ej,su,if_pos h0]
  exact bJ.last this (fun h=>by cases h)
 |f+1,e,h0,hx,hf,hs,ht=>by
  have hw:T8.i64.wrap (((f+1:Nat):Int) - 1)=(f:Int):=by rw [cD];omega
  obtain ⟨v,dd,hv,hS⟩:=mX (.box [.int .i8 0,.int .u64 0,.aj .tight 0 [],.aj .tight 0 [],.int .i64 (f:Int)]) (.box [.ptr false 11 0]) .dead (.box [.ptr false 0 4]) (.lp .ready (Sx 56 .undef) #[27,28] (a8 Tryz.f10 0) (a7 Tryz.f10 0)) cb hb hc nx LC e hx hf hs (by omega)
  have N9:=pt cb e
  have L8:=mW cb e
  rw [ej]
  cases LL:bf cb e with
  |mk e2 b=>
   rw [LL] at hS hv N9 L8
   simp only at hS hv N9 L8
   cases b with
   |true=>
    obtain ⟨t,PA,hl⟩:=L8.tr
    have ih:=qp cb hb hc nx LC f e2 (N9.1 rfl) (L8.cx.trans hx) (L8.fr.trans hf) (L8.st.trans hs) (by rw [PA,SS];omega)
    rw [← hw] at hS
    rcases hv with rfl|⟨rfl,_⟩
    ·have:=Iy (bD cb) (bD e.cx) (bD e.fr) (bD e.st) (wD e.an) (ev e.tr) e.m ((f+1:Nat):Int) e.en cb.length nx (au _) (au _) (au _) (au _) (bD e2.cx) (bD e2.fr) (bD e2.st) (wD e2.an) (ev e2.tr) e2.m e2.en dd (au _) (au _) (au _) (by omega) hS
     rw [cr,cr,cr,cr,hw] at this
     exact bJ.gz this ih
    ·have:=Ix (bD cb) (bD e.cx) (bD e.fr) (bD e.st) (wD e.an) (ev e.tr) e.m ((f+1:Nat):Int) e.en cb.length nx (au _) (au _) (au _) (au _) (bD e2.cx) (bD e2.fr) (bD e2.st) (wD e2.an) (ev e2.tr) e2.m e2.en dd (au _) (au _) (au _) (by omega) hS
     rw [cr,cr,cr,cr,hw] at this
     exact bJ.gz this ih
   |false=>
    rw [← hw] at hS
    rcases hv with rfl|⟨_,h⟩
    ·have:=JI (bD cb) (bD e.cx) (bD e.fr) (bD e.st) (wD e.an) (ev e.tr) e.m ((f+1:Nat):Int) e.en cb.length nx (au _) (au _) (au _) (au _) (bD e2.cx) (bD e2.fr) (bD e2.st) (wD e2.an) (ev e2.tr) e2.m e2.en dd (au _) (au _) (au _) (by omega) hS
     rw [cr,cr,cr,cr,hw] at this
     simp only [su]
     rw [if_neg (N9.2 rfl)]
     exact bJ.last this (fun h=>by cases h)
    ·cases h
def rD:ao:=⟨0,0,0,0,4194560,0,0,0,0,0,0,0,0,0,0,0,false,false,false,false,false,1048576⟩
def fL (cx an:List Int):iH:=⟨rD,cx,Sx 64 0,Sx 264 0,an,[],0⟩
abbrev Hc (lp:Ob) (cc cx:List D) (an:List D) (f:Int):List Ob:= [.box [.int .i8 0,.int .u64 0,.aj .tight 0 [],.aj .tight 0 [],.int .i64 f],.box (gj cc.length cx.length),.dead,.dead,.box (cc.map D.aR),.dead,.dead,.box (cx.map D.aR),.box ((Sx 64 (cK (S6 T8.u8 0))).map D.aR),.box ((Sx 264 (cK (S6 T8.u8 0))).map D.aR),.dead,.box [.int .u64 0,.int .u64 0,.int .u64 0,.int .u64 0,.int .u64 4194560,.int .u64 0,.int .u64 0,.int .u64 0,.int .u64 0,.int .u64 0,.int .u64 0,.int .u64 0,.int .u64 0,.int .u64 0,.int .u64 0,.int .u64 0,.bool false,.bool false,.bool false,.bool false,.bool false,.int .u64 1048576,.ptr false 1 0,.aj .no 1 an,.aj (.tok 16 0) 3 [],.int .i8 0],.box [.ptr false 11 0],.dead,.box [.ptr false 0 4],lp,.bO 0 3]
abbrev Kd (lp:Ob) (cb:List Int) (e:iH) (f:Int):List Ob:= [.box [.int .i8 0,.int .u64 0,.aj .tight 0 [],.aj .tight 0 [],.int .i64 f],.box (gj (bD cb).length (bD e.cx).length),.dead,.dead,.box (bD cb),.dead,.dead,.box (bD e.cx),.box (bD e.fr),.box (bD e.st),.dead,.box (uC e.m (wD e.an) (ev e.tr) 0 e.en),.box [.ptr false 11 0],.dead,.box [.ptr false 0 4],lp,.bO 0 3]
theorem BC (n:Nat):(Sx n (cK (S6 T8.u8 0))).map D.aR=bD (Sx n 0):=by
 rw [bD,List.map_replicate,List.map_replicate];rfl
theorem HB (cb cx an:List Int) (f:Nat) (E:iH) (lf:Nat) (hb:fO cb) (lc:(bD cb).length≤16384) (lx:(bD cx).length≤256) (hf:f≤100000) (hR:ej cb f (fL cx an)=(E,lf)):
  cO Tryz.prog 16 (.loop (cu Tryz.f45 0)) Kf (Hc (.lp .ready (Sx 56 .undef) #[27,28] (a8 Tryz.f10 0) (a7 Tryz.f10 0)) (bD cb) (bD cx) (wD an) (f:Int)) (su E) Ke (Kd (.lp .ready (Sx 56 .undef) #[27,28] (a8 Tryz.f10 0) (a7 Tryz.f10 0)) cb E (lf:Int)):=by
 have hl:=(uz cb f (fL cx an)).1
 have:=qp cb hb (by rw [aN] at lc;exact lc) cx.length (by rw [aN] at lx;exact lx) f (fL cx an) rfl rfl rfl rfl (by show 0+f≤100000;omega)
 rw [hR] at this hl
 have MG:E.cx.length=cx.length:=hl
 unfold Hc Kd
 rw [BC,BC,cr,cr,aN,aN,aN,MG]
 exact cO.ft (by simp) this
theorem HQ (cb cx an:List Int) (f:Nat) (E:iH) (lf:Nat) (hb:fO cb) (lc:(bD cb).length≤16384) (lx:(bD cx).length≤256) (hf:f≤100000) (hR:ej cb f (fL cx an)=(E,lf)) (he:E.en=0):
  cO Tryz.prog 16 (.loop (cu Tryz.f45 0)) Kf (Hc (.lp .ready (Sx 56 .undef) #[27,28] (a8 Tryz.f10 0) (a7 Tryz.f10 0)) (bD cb) (bD cx) (wD an) (f:Int)) (.exit 0) Ke (Kd (.lp .ready (Sx 56 .undef) #[27,28] (a8 Tryz.f10 0) (a7 Tryz.f10 0)) cb E (lf:Int)):=by
 have:=HB cb cx an f E lf hb lc lx hf hR
 rw [su,if_pos he] at this
 exact this
theorem DX (cb cx an:List Int) (f:Nat) (E:iH) (lf:Nat) (hb:fO cb) (lc:(bD cb).length≤16384) (lx:(bD cx).length≤256) (hf:f≤100000) (hR:ej cb f (fL cx an)=(E,lf)) (he:E.en≠0):
  cO Tryz.prog 16 (.loop (cu Tryz.f45 0)) Kf (Hc (.lp .ready (Sx 56 .undef) #[27,28] (a8 Tryz.f10 0) (a7 Tryz.f10 0)) (bD cb) (bD cx) (wD an) (f:Int)) .ret Ke (Kd (.lp .ready (Sx 56 .undef) #[27,28] (a8 Tryz.f10 0) (a7 Tryz.f10 0)) cb E (lf:Int)):=by
 have:=HB cb cx an f E lf hb lc lx hf hR
 rw [su,if_neg he] at this
 exact this
theorem oe (cb cx:List Int) (an:List D) (fuel:Int) (hc:aL (bD cb)=some (bD cb)) (hx:aL (bD cx)=some (bD cx)) (bb:(bD cb).all isByte=true) (bx:(bD cx).all isByte=true) (lc:(bD cb).length≤16384) (lx:(bD cx).length≤256) (f0:0≤fuel) (f1:fuel≤640064):af Tryz.prog 23 ([.aj .no 1 (bD cb),.aj .no 1 (bD cx),.aj .no 1 an,.int .i64 fuel]) ([.box [.int .i8 0,.int .u64 0,.aj .tight 0 [],.aj .tight 0 [],.int .i64 0]]) (.aC [.ptr false 11 0,.int .i64 0]) ([.box [.int .i8 0,.int .u64 0,.aj .tight 0 [],.aj .tight 0 [],.int .i64 0],.box [.int .u64 1048576,.cS 4 1 (Sz ((bD cb).length:Int)),.bool false,.int .u64 2097152,.cS 7 1 (Sz ((bD cx).length:Int)),.bool true,.int .u64 3145728,.cS 8 1 64,.bool true,.int .u64 4194304,.cS 9 1 264,.bool true],.dead,.dead,.box (bD cb),.dead,.dead,.box (bD cx),.box (Sx 64 (cK (S6 T8.u8 0))),.box (Sx 264 (cK (S6 T8.u8 0))),.dead,.box [.int .u64 0,.int .u64 0,.int .u64 0,.int .u64 0,.int .u64 4194560,.int .u64 0,.int .u64 0,.int .u64 0,.int .u64 0,.int .u64 0,.int .u64 0,.int .u64 0,.int .u64 0,.int .u64 0,.int .u64 0,.int .u64 0,.bool false,.bool false,.bool false,.bool false,.bool false,.int .u64 1048576,.ptr false 1 0,.aj .no 1 an,.aj .tight 0 [],.int .i8 0]]):=by
 exact af.ab (aD:= [0,1,4,7,8,9,11]) mixed ([.inl,tC (eF (aY 256 (by ((try simp only [eZ] at*);(try unfold cA at*);omega):(decide ((↑(SA (bD cx)):Int)<(257:Int)))=true))),tC (eF (aY 256 (by ((try simp only [eZ] at*);(try unfold cA at*);omega):(decide ((↑(SA (bD cx)):Int)<(257:Int)))=true))),tC (eF (aY 256 (by ((try simp only [eZ] at*);(try unfold cA at*);omega):(decide ((↑(SA (bD cx)):Int)<(257:Int)))=true))),tC (aY 256 (by ((try simp only [eZ] at*);(try unfold cA at*);omega):(decide ((↑(SA (bD cx)):Int)<(257:Int)))=true)),tC (aY 16384 (by ((try simp only [eZ] at*);(try unfold cA at*);omega):(decide ((↑(SA (bD cb)):Int)<(16385:Int)))=true)),.inl,.cQ (decide ((0:Int)≤(↑(SA (bD cb)):Int)∧(↑(SA (bD cb)):Int)=(↑(SA (bD cb)):Int)∧(↑(SA (bD cb)):Int)≤(2147483648:Int))) true (by ((try simp only [eZ] at*);(try unfold cA at*);omega)),.raw,.zB _ _ hc,tC (v:=true) (@ei (SA (bD cb))),tC (v:=true) bb,.cg _ _ _ _ (@fS _ (Sz (↑(SA (bD cb)):Int)) (cK (S6 T8.u8 (0:Int))) (bD cb) (by first|rfl|decide) (by first|rfl|decide)),.inl,.cQ (decide ((0:Int)≤(↑(SA (bD cx)):Int)∧(↑(SA (bD cx)):Int)=(↑(SA (bD cx)):Int)∧(↑(SA (bD cx)):Int)≤(2147483648:Int))) true (by ((try simp only [eZ] at*);(try unfold cA at*);omega)),.raw]++ [.zB _ _ hx,tC (v:=true) (@ei (SA (bD cx))),tC (v:=true) bx,.cg _ _ _ _ (@fS _ (Sz (↑(SA (bD cx)):Int)) (cK (S6 T8.u8 (0:Int))) (bD cx) (by first|rfl|decide) (by first|rfl|decide)),tT,.raw,tT,tT,.raw,tT,tT,tF,tC (eF (decide_eq_false (SD.2 f0))),tC (eF (decide_eq_false (SD.2 f0))),tC (decide_eq_false (SD.2 f0)),tC (aY 640064 (decide_eq_true (SC f1)))]++ [.inl]) (by kernel_rfl)
theorem He (o0 o4 o8 o9 ka aG aJ aI aH HF:Ob) (cx:List Int) (nc:Nat) (lE:(bD cx).length≤256) (cE:aL (bD cx)=some (bD cx)) (bE:(bD cx).all isByte=true):af Tryz.prog 25 ([.ptr false 1 0]) ([o0,.box (gj nc (bD cx).length),.dead,.dead,o4,.dead,.dead,.box (bD cx),o8,o9,.dead,ka,aG,aJ,aI,aH,HF]) (.cS 19 1 (Sz ((bD cx).length:Int))) ([o0,.box (gj nc (bD cx).length),.dead,.dead,o4,.dead,.dead,.box (bD cx),o8,o9,.dead,ka,aG,aJ,aI,aH,HF,.dead,.dead,.box (bD cx)]):=by
 exact (af.ab (aD:= [0,1,2,3,4,5,6,7,8,9,10,11,12,13,14,15,16,19]) (d:= .cS 19 1 (Sz (↑(SA (bD cx)):Int))) (s':= [o0,.box [.int .u64 1048576,.cS 4 1 nc,.bool false,.int .u64 2097152,.cS 7 1 (SA (bD cx)),.bool true,.int .u64 3145728,.cS 8 1 64,.bool true,.int .u64 4194304,.cS 9 1 264,.bool true],.dead,.dead,o4,.dead,.dead,.box (bD cx),o8,o9,.dead,ka,aG,aJ,aI,aH,HF,.dead,.dead,.box (bD cx)]) mixed [.inl,tF,tT,.ep ([.int .u64 1048576,.cS 4 1 nc,.bool false,.int .u64 2097152,.cS 7 1 (SA (bD cx)),.bool true,.int .u64 3145728,.cS 8 1 64,.bool true,.int .u64 4194304,.cS 9 1 264,.bool true]) 3 3 ([.int .u64 2097152,.cS 7 1 (SA (bD cx)),.bool true]) ⟨rfl,by first|decide|simp⟩,.inl,.cQ (decide ((0:Int)≤(↑(SA (bD cx)):Int)∧(↑(SA (bD cx)):Int)=(↑(SA (bD cx)):Int)∧(↑(SA (bD cx)):Int)≤(2147483648:Int))) true (by ((try simp only [eZ] at*);(try unfold cA at*);omega)),.raw,.ep _ _ _ _ (@Ft (bD cx) (SA (bD cx)*(1:Nat)) (by ((try simp only [eZ] at*);(try unfold cA at*);omega))),tC (v:=true) (@ei (SA (bD cx))),tC (v:=true) bE,.cg _ _ _ _ (@fS _ (Sz (↑(SA (bD cx)):Int)) (cK (S6 T8.u8 (0:Int))) (bD cx) (by first|rfl|decide) (by first|rfl|decide))] (by kernel_rfl)).cast (by rfl) (by rfl)
theorem vA (o0 o4 o8 o9 ka aG aJ aI aH HF:Ob) (cx:List Int) (nc:Nat) (lE:(bD cx).length≤256) (cE:aL (bD cx)=some (bD cx)) (bE:(bD cx).all isByte=true):
  af Tryz.prog 25 [.ptr false 1 0] [o0,.box (gj nc (bD cx).length),.dead,.dead,o4,.dead,.dead,.box (bD cx),o8,o9,.dead,ka,aG,aJ,aI,aH,HF] (.aj .no 1 (bD cx)) [o0,.box (gj nc (bD cx).length),.dead,.dead,o4,.dead,.dead,.box (bD cx),o8,o9,.dead,ka,aG,aJ,aI,aH,HF,.dead,.dead,.dead]:=
 (He o0 o4 o8 o9 ka aG aJ aI aH HF cx nc lE cE bE).yN rfl (by rw [Int.toNat_natCast]) bE
theorem Gs (cb cx an:List Int) (f:Nat) (E:iH) (lf:Nat) (f0:0≤(f:Int)) (f1:(f:Int)≤640064) (hb:fO cb) (lc:(bD cb).length≤16384) (lx:(bD cx).length≤256) (hf:f≤100000) (hR:ej cb f (fL cx an)=(E,lf)) (hc:aL (bD cb)=some (bD cb)) (hx:aL (bD cx)=some (bD cx)) (bb:(bD cb).all isByte=true) (bx:(bD cx).all isByte=true) (lE:(bD E.cx).length≤256) (cE:aL (bD E.cx)=some (bD E.cx)) (bE:(bD E.cx).all isByte=true) (mE:(Nat.beq (SA (bD E.cx)) (Sz ((bD E.cx).length:Int))&&List.all (bD E.cx) isByte)=true) (he:E.en=0):aF Tryz.prog 10 ([.aj .no 1 (bD cb),.aj .no 1 (bD cx),.aj .no 1 (wD an),.int .i64 (f:Int)]) (.aC [.agg [.int .i8 E.en,.int .u64 (0),.aj .no 1 (bD E.cx),.aj .no 3 (ev E.tr),.int .i64 (lf:Int)],.int .i64 0]):=by
 have c0:= @HQ (cb) (cx) (an) (f) _ _ hb lc lx hf hR he
 exact (aF.ab (d:= .aC [.agg [.int .i8 E.en,.int .u64 0,.aj .no 1 (bD E.cx),.aj .no 3 (ev E.tr),.int .i64 (↑lf:Int)],.int .i64 0]) mixed Tryz.func10 (by kernel_rfl) [.ay _ _ _ _ _ (@oe (cb) (cx) (wD an) ((↑f:Int)) hc hx bb bx lc lx f0 f1),tF,.inl,.xJ [],.head ⟨[0,1,3],[0,1,11,12,14,15,1000004,1000007,1000008,1000009],[(1011024,3)]⟩ _ _ _ _ _ _ _ c0,.cl (bD cb) (by first|exact cG rfl|exact au _),.cl (bD cx) (by first|exact cG rfl|exact au _),.cl (Sx 64 (cK (S6 T8.u8 0))) (by first|exact cG rfl|exact au _),.cl (Sx 264 (cK (S6 T8.u8 0))) (by first|exact cG rfl|exact au _),.ay _ _ _ _ _ (@vA (.box [.int .i8 0,.int .u64 0,.aj .tight 0 [],.aj .tight 0 [],.int .i64 (↑lf:Int)]) (.box (bD cb)) (.box (bD E.fr)) (.box (bD E.st)) (.box [.int .u64 E.m.q0,.int .u64 E.m.q1,.int .u64 E.m.q2,.int .u64 E.m.q3,.int .u64 E.m.q4,.int .u64 E.m.q5,.int .u64 E.m.q6,.int .u64 E.m.q7,.int .u64 E.m.q8,.int .u64 E.m.q9,.int .u64 E.m.bQ,.int .u64 E.m.bU,.int .u64 E.m.bZ,.int .u64 E.m.bX,.int .u64 E.m.bW,.int .u64 E.m.bV,.bool E.m.fk,.bool E.m.fc,.bool E.m.fz,.bool E.m.fs,.bool E.m.fo,.int .u64 E.m.pc,.ptr false 1 0,.aj .no 1 (wD E.an),.aj (jI.tok 16 0) 3 (ev E.tr),.int .i8 E.en]) (.box [.ptr false 11 0]) (.dead) (.box [.ptr false 0 4]) (.dead) (Ob.bO 0 3) E.cx (SA (bD cb)) lE cE bE),.aD [(0,.box [.int .i8 0,.int .u64 0,.aj .tight 0 [],.aj .tight 0 [],.int .i64 (↑lf:Int)]),(1,.box [.int .u64 1048576,D.cS 4 1 (SA (bD cb)),.bool false,.int .u64 2097152,D.cS 7 1 (SA (bD E.cx)),.bool true,.int .u64 3145728,D.cS 8 1 64,.bool true,.int .u64 4194304,D.cS 9 1 264,.bool true]),(4,.box (bD cb)),(7,.box (bD E.cx)),(8,.box (bD E.fr)),(9,.box (bD E.st)),(11,.box [.int .u64 E.m.q0,.int .u64 E.m.q1,.int .u64 E.m.q2,.int .u64 E.m.q3,.int .u64 E.m.q4,.int .u64 E.m.q5,.int .u64 E.m.q6,.int .u64 E.m.q7,.int .u64 E.m.q8,.int .u64 E.m.q9,.int .u64 E.m.bQ,.int .u64 E.m.bU,.int .u64 E.m.bZ,.int .u64 E.m.bX,.int .u64 E.m.bW,.int .u64 E.m.bV,.bool E.m.fk,.bool E.m.fc,.bool E.m.fz,.bool E.m.fs,.bool E.m.fo,.int .u64 E.m.pc,.ptr false 1 0,.aj .no 1 (wD E.an),.aj (jI.tok 16 0) 3 (ev E.tr),.int .i8 E.en]),(12,.box [.ptr false 11 0]),(14,.box [.ptr false 0 4]),(16,Ob.bO 0 3)],tC (by simp<;>omega:(iH.en E==1)=false)] (by kernel_rfl)).to (by simp [wk,ax,aO])
theorem Gr (cb cx an:List Int) (f:Nat) (E:iH) (lf:Nat) (f0:0≤(f:Int)) (f1:(f:Int)≤640064) (hb:fO cb) (lc:(bD cb).length≤16384) (lx:(bD cx).length≤256) (hf:f≤100000) (hR:ej cb f (fL cx an)=(E,lf)) (hc:aL (bD cb)=some (bD cb)) (hx:aL (bD cx)=some (bD cx)) (bb:(bD cb).all isByte=true) (bx:(bD cx).all isByte=true) (lE:(bD E.cx).length≤256) (cE:aL (bD E.cx)=some (bD E.cx)) (bE:(bD E.cx).all isByte=true) (mE:(Nat.beq (SA (bD E.cx)) (Sz ((bD E.cx).length:Int))&&List.all (bD E.cx) isByte)=true) (he:E.en≠0) (h1:E.en=1):aF Tryz.prog 10 ([.aj .no 1 (bD cb),.aj .no 1 (bD cx),.aj .no 1 (wD an),.int .i64 (f:Int)]) (.aC [.agg [.int .i8 E.en,.int .u64 (E.m.q0),.aj .no 1 (bD E.cx),.aj .no 3 (ev E.tr),.int .i64 (lf:Int)],.int .i64 0]):=by
 have c0:= @DX (cb) (cx) (an) (f) _ _ hb lc lx hf hR he
 exact (aF.ab (d:= .aC [.agg [.int .i8 E.en,.int .u64 E.m.q0,.aj .no 1 (bD E.cx),.aj .no 3 (ev E.tr),.int .i64 (↑lf:Int)],.int .i64 0]) mixed Tryz.func10 (by kernel_rfl) [.ay _ _ _ _ _ (@oe (cb) (cx) (wD an) ((↑f:Int)) hc hx bb bx lc lx f0 f1),tF,.inl,.xJ [],.head ⟨[0,1,3],[0,1,11,12,14,15,1000004,1000007,1000008,1000009],[(1011024,3)]⟩ _ _ _ _ _ _ _ c0,.cl (bD cb) (by first|exact cG rfl|exact au _),.cl (bD cx) (by first|exact cG rfl|exact au _),.cl (Sx 64 (cK (S6 T8.u8 0))) (by first|exact cG rfl|exact au _),.cl (Sx 264 (cK (S6 T8.u8 0))) (by first|exact cG rfl|exact au _),.ay _ _ _ _ _ (@vA (.box [.int .i8 0,.int .u64 0,.aj .tight 0 [],.aj .tight 0 [],.int .i64 (↑lf:Int)]) (.box (bD cb)) (.box (bD E.fr)) (.box (bD E.st)) (.box [.int .u64 E.m.q0,.int .u64 E.m.q1,.int .u64 E.m.q2,.int .u64 E.m.q3,.int .u64 E.m.q4,.int .u64 E.m.q5,.int .u64 E.m.q6,.int .u64 E.m.q7,.int .u64 E.m.q8,.int .u64 E.m.q9,.int .u64 E.m.bQ,.int .u64 E.m.bU,.int .u64 E.m.bZ,.int .u64 E.m.bX,.int .u64 E.m.bW,.int .u64 E.m.bV,.bool E.m.fk,.bool E.m.fc,.bool E.m.fz,.bool E.m.fs,.bool E.m.fo,.int .u64 E.m.pc,.ptr false 1 0,.aj .no 1 (wD E.an),.aj (jI.tok 16 0) 3 (ev E.tr),.int .i8 E.en]) (.box [.ptr false 11 0]) (.dead) (.box [.ptr false 0 4]) (.dead) (Ob.bO 0 3) E.cx (SA (bD cb)) lE cE bE),.aD [(0,.box [.int .i8 0,.int .u64 0,.aj .tight 0 [],.aj .tight 0 [],.int .i64 (↑lf:Int)]),(1,.box [.int .u64 1048576,D.cS 4 1 (SA (bD cb)),.bool false,.int .u64 2097152,D.cS 7 1 (SA (bD E.cx)),.bool true,.int .u64 3145728,D.cS 8 1 64,.bool true,.int .u64 4194304,D.cS 9 1 264,.bool true]),(4,.box (bD cb)),(7,.box (bD E.cx)),(8,.box (bD E.fr)),(9,.box (bD E.st)),(11,.box [.int .u64 E.m.q0,.int .u64 E.m.q1,.int .u64 E.m.q2,.int .u64 E.m.q3,.int .u64 E.m.q4,.int .u64 E.m.q5,.int .u64 E.m.q6,.int .u64 E.m.q7,.int .u64 E.m.q8,.int .u64 E.m.q9,.int .u64 E.m.bQ,.int .u64 E.m.bU,.int .u64 E.m.bZ,.int .u64 E.m.bX,.int .u64 E.m.bW,.int .u64 E.m.bV,.bool E.m.fk,.bool E.m.fc,.bool E.m.fz,.bool E.m.fs,.bool E.m.fo,.int .u64 E.m.pc,.ptr false 1 0,.aj .no 1 (wD E.an),.aj (jI.tok 16 0) 3 (ev E.tr),.int .i8 E.en]),(12,.box [.ptr false 11 0]),(14,.box [.ptr false 0 4]),(16,Ob.bO 0 3)],tC (dx 1 true (by omega:iH.en E=1))] (by kernel_rfl)).to (by simp [wk,ax,aO])
theorem Gq (cb cx an:List Int) (f:Nat) (E:iH) (lf:Nat) (f0:0≤(f:Int)) (f1:(f:Int)≤640064) (hb:fO cb) (lc:(bD cb).length≤16384) (lx:(bD cx).length≤256) (hf:f≤100000) (hR:ej cb f (fL cx an)=(E,lf)) (hc:aL (bD cb)=some (bD cb)) (hx:aL (bD cx)=some (bD cx)) (bb:(bD cb).all isByte=true) (bx:(bD cx).all isByte=true) (lE:(bD E.cx).length≤256) (cE:aL (bD E.cx)=some (bD E.cx)) (bE:(bD E.cx).all isByte=true) (mE:(Nat.beq (SA (bD E.cx)) (Sz ((bD E.cx).length:Int))&&List.all (bD E.cx) isByte)=true) (he:E.en≠0) (h1:E.en≠1):aF Tryz.prog 10 ([.aj .no 1 (bD cb),.aj .no 1 (bD cx),.aj .no 1 (wD an),.int .i64 (f:Int)]) (.aC [.agg [.int .i8 E.en,.int .u64 (0),.aj .no 1 (bD E.cx),.aj .no 3 (ev E.tr),.int .i64 (lf:Int)],.int .i64 0]):=by
 have c0:= @DX (cb) (cx) (an) (f) _ _ hb lc lx hf hR he
 exact (aF.ab (d:= .aC [.agg [.int .i8 E.en,.int .u64 0,.aj .no 1 (bD E.cx),.aj .no 3 (ev E.tr),.int .i64 (↑lf:Int)],.int .i64 0]) mixed Tryz.func10 (by kernel_rfl) [.ay _ _ _ _ _ (@oe (cb) (cx) (wD an) ((↑f:Int)) hc hx bb bx lc lx f0 f1),tF,.inl,.xJ [],.head ⟨[0,1,3],[0,1,11,12,14,15,1000004,1000007,1000008,1000009],[(1011024,3)]⟩ _ _ _ _ _ _ _ c0,.cl (bD cb) (by first|exact cG rfl|exact au _),.cl (bD cx) (by first|exact cG rfl|exact au _),.cl (Sx 64 (cK (S6 T8.u8 0))) (by first|exact cG rfl|exact au _),.cl (Sx 264 (cK (S6 T8.u8 0))) (by first|exact cG rfl|exact au _),.ay _ _ _ _ _ (@vA (.box [.int .i8 0,.int .u64 0,.aj .tight 0 [],.aj .tight 0 [],.int .i64 (↑lf:Int)]) (.box (bD cb)) (.box (bD E.fr)) (.box (bD E.st)) (.box [.int .u64 E.m.q0,.int .u64 E.m.q1,.int .u64 E.m.q2,.int .u64 E.m.q3,.int .u64 E.m.q4,.int .u64 E.m.q5,.int .u64 E.m.q6,.int .u64 E.m.q7,.int .u64 E.m.q8,.int .u64 E.m.q9,.int .u64 E.m.bQ,.int .u64 E.m.bU,.int .u64 E.m.bZ,.int .u64 E.m.bX,.int .u64 E.m.bW,.int .u64 E.m.bV,.bool E.m.fk,.bool E.m.fc,.bool E.m.fz,.bool E.m.fs,.bool E.m.fo,.int .u64 E.m.pc,.ptr false 1 0,.aj .no 1 (wD E.an),.aj (jI.tok 16 0) 3 (ev E.tr),.int .i8 E.en]) (.box [.ptr false 11 0]) (.dead) (.box [.ptr false 0 4]) (.dead) (Ob.bO 0 3) E.cx (SA (bD cb)) lE cE bE),.aD [(0,.box [.int .i8 0,.int .u64 0,.aj .tight 0 [],.aj .tight 0 [],.int .i64 (↑lf:Int)]),(1,.box [.int .u64 1048576,D.cS 4 1 (SA (bD cb)),.bool false,.int .u64 2097152,D.cS 7 1 (SA (bD E.cx)),.bool true,.int .u64 3145728,D.cS 8 1 64,.bool true,.int .u64 4194304,D.cS 9 1 264,.bool true]),(4,.box (bD cb)),(7,.box (bD E.cx)),(8,.box (bD E.fr)),(9,.box (bD E.st)),(11,.box [.int .u64 E.m.q0,.int .u64 E.m.q1,.int .u64 E.m.q2,.int .u64 E.m.q3,.int .u64 E.m.q4,.int .u64 E.m.q5,.int .u64 E.m.q6,.int .u64 E.m.q7,.int .u64 E.m.q8,.int .u64 E.m.q9,.int .u64 E.m.bQ,.int .u64 E.m.bU,.int .u64 E.m.bZ,.int .u64 E.m.bX,.int .u64 E.m.bW,.int .u64 E.m.bV,.bool E.m.fk,.bool E.m.fc,.bool E.m.fz,.bool E.m.fs,.bool E.m.fo,.int .u64 E.m.pc,.ptr false 1 0,.aj .no 1 (wD E.an),.aj (jI.tok 16 0) 3 (ev E.tr),.int .i8 E.en]),(12,.box [.ptr false 11 0]),(14,.box [.ptr false 0 4]),(16,Ob.bO 0 3)],tC (by simp<;>omega:(iH.en E==1)=false)] (by kernel_rfl)).to (by simp [wk,ax,aO])
theorem Gl (cb cx:List Int) (an:List D) (f:Int) (hc:aL (bD cb)=some (bD cb)) (hx:aL (bD cx)=some (bD cx)) (bb:(bD cb).all isByte=true) (bx:(bD cx).all isByte=true) (lc:(bD cb).length≤16384) (lx:(bD cx).length≤256) (h:f<0):aF Tryz.prog 10 ([.aj .no 1 (bD cb),.aj .no 1 (bD cx),.aj .no 1 an,.int .i64 f]) (.aC [.agg [.int .i8 0,.int .u64 0,.aj .tight 0 [],.aj .tight 0 [],.int .i64 0],.int .i64 2]):=by
 have LI:(decide ((↑(SA (bD cx)):Int)<257))=true:=by simp<;>omega
 exact (aF.ab (d:= .aC [.agg [.int .i8 0,.int .u64 0,.aj .tight 0 [],.aj .tight 0 [],.int .i64 0],.int .i64 2]) mixed Tryz.func10 (by kernel_rfl) ([.inl,.inl]++Sx 3 (tC (eF (aY 256 LI)))++ [tC (aY 256 LI),tC (aY 16384 (by simp<;>omega:(decide ((↑(SA (bD cb)):Int)<16385))=true)),.inl,.cQ (decide (0≤(↑(SA (bD cb)):Int)∧(↑(SA (bD cb)):Int)=(↑(SA (bD cb)):Int)∧(↑(SA (bD cb)):Int)≤2147483648)) true (by simp<;>omega),.raw,.zB _ _ hc,tC (v:=true) (@ei (SA (bD cb))),tC (v:=true) bb,.cg _ _ _ _ (@fS _ (Sz (↑(SA (bD cb)):Int)) (cK (S6 T8.u8 0)) (bD cb) (by first|rfl|decide) (by first|rfl|decide)),.inl,.cQ (decide (0≤(↑(SA (bD cx)):Int)∧(↑(SA (bD cx)):Int)=(↑(SA (bD cx)):Int)∧(↑(SA (bD cx)):Int)≤2147483648)) true (by simp<;>omega)]++ [.raw,.zB _ _ hx,tC (v:=true) (@ei (SA (bD cx))),tC (v:=true) bx,.cg _ _ _ _ (@fS _ (Sz (↑(SA (bD cx)):Int)) (cK (S6 T8.u8 0)) (bD cx) (by first|rfl|decide) (by first|rfl|decide)),tT,.raw,tT,tT,.raw,tT,tT,tF,tC (eF (decide_eq_true h)),tC (eF (decide_eq_true h)),tC (decide_eq_true h)]++ [tT,tT]) (by kernel_rfl)).to (by simp [wk,ax,aO])
theorem Gp (cb cx:List Int) (an:List D) (f:Int) (hc:aL (bD cb)=some (bD cb)) (hx:aL (bD cx)=some (bD cx)) (bb:(bD cb).all isByte=true) (bx:(bD cx).all isByte=true) (lc:(bD cb).length≤16384) (lx:(bD cx).length≤256) (h:640064<f):aF Tryz.prog 10 ([.aj .no 1 (bD cb),.aj .no 1 (bD cx),.aj .no 1 an,.int .i64 f]) (.aC [.agg [.int .i8 0,.int .u64 0,.aj .tight 0 [],.aj .tight 0 [],.int .i64 0],.int .i64 2]):=by
 have LI:(decide ((↑(SA (bD cx)):Int)<257))=true:=by simp<;>omega
 exact (aF.ab (d:= .aC [.agg [.int .i8 0,.int .u64 0,.aj .tight 0 [],.aj .tight 0 [],.int .i64 0],.int .i64 2]) mixed Tryz.func10 (by kernel_rfl) ([.inl,.inl]++Sx 3 (tC (eF (aY 256 LI)))++ [tC (aY 256 LI),tC (aY 16384 (by simp<;>omega:(decide ((↑(SA (bD cb)):Int)<16385))=true)),.inl,.cQ (decide (0≤(↑(SA (bD cb)):Int)∧(↑(SA (bD cb)):Int)=(↑(SA (bD cb)):Int)∧(↑(SA (bD cb)):Int)≤2147483648)) true (by simp<;>omega),.raw,.zB _ _ hc,tC (v:=true) (@ei (SA (bD cb))),tC (v:=true) bb,.cg _ _ _ _ (@fS _ (Sz (↑(SA (bD cb)):Int)) (cK (S6 T8.u8 0)) (bD cb) (by first|rfl|decide) (by first|rfl|decide)),.inl,.cQ (decide (0≤(↑(SA (bD cx)):Int)∧(↑(SA (bD cx)):Int)=(↑(SA (bD cx)):Int)∧(↑(SA (bD cx)):Int)≤2147483648)) true (by simp<;>omega)]++ [.raw,.zB _ _ hx,tC (v:=true) (@ei (SA (bD cx))),tC (v:=true) bx,.cg _ _ _ _ (@fS _ (Sz (↑(SA (bD cx)):Int)) (cK (S6 T8.u8 0)) (bD cx) (by first|rfl|decide) (by first|rfl|decide)),tT,.raw,tT,tT,.raw,tT,tT,tF]++Sx 2 (tC (eF (lb 0 (decide_eq_false (by omega:¬f<640065)))))++ [tC (lb 0 (decide_eq_false (by omega:¬f<640065)))]++ [tC (aY 640064 (decide_eq_false (by omega:¬f<640065))),tT]) (by kernel_rfl)).to (by simp [wk,ax,aO])
def Lb (l:List Hx):Prop:= ∀e∈l,e.args.length≤5
end Go.Proofs.YtbfpahigdpigpaaGreat
