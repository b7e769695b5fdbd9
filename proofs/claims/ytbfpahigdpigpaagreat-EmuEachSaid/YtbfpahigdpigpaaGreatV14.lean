import Derived.Test.YtbfpahigdpigpaaGreatV02
import Derived.Test.YtbfpahigdpigpaaGreatV08
import Derived.Test.YtbfpahigdpigpaaGreatV13
open List renaming replicate→Zx,length→ZA,getD_eq_getElem?_getD→ZF,range→ZL,getElem?_map→ZU,length_cons→ZZ,getElem?_eq_getElem→aag
open Go.Proofs.Tryz renaming prog→Zy,f10→aae
open Int renaming lt_add_one_of_le→ZC,not_lt→ZH,toNat→ZJ
open Bool renaming and_eq_true→ZD,or_eq_true→ZV,eq_false_or_eq_true→Z2,not_eq_true'→Z8,not_eq_false'→aai
open Option renaming map_eq_some_iff→ZS
open Go renaming IntKind→aaY
/- Contracts and plain laws that a statement's proof leans on (texts merged:EM4,EM4A,EM4B,EM5,EM6,EMA,EvZ,EMB,EM7,EM8,ECA,XQU,MdEo). -/
set_option linter.unusedVariables false
set_option linter.unusedSimpArgs false
set_option maxRecDepth 100000
set_option maxHeartbeats 8000000
namespace Go.Proofs.YtbfpahigdpigpaaGreat
open Go Go.Ev
abbrev sA (o0 fG fF fE fC:Ob) (cc cx fr st:List D) (m:au) (an tr:List D) (v:Nat) (en:Int) (nc nx w:Nat) (l:List Ob):List Ob:=o0::aA (uX nc nx)::aY::aY::aA cc::aY::aY::aA cx::aA fr::aA st::aY::aA (uC m an tr v en)::fG::fF::fE::fC:: .ey w 3::l
abbrev xb (op w dst src base af ai cc:Int):Ob:= .box [ak op,ak w,ak dst,ak src,ak base,aq af,aq ai,ak cc]
abbrev SY {P:Program} {cc fb:List D} {m:au} {nc:Nat} (Ub:nc≤16384) (p0:1048576≤m.pc) (p1:(aaY.u64.wrap (m.pc - 1048576))≤nc) (p2:1≤nc - (aaY.u64.wrap (m.pc - 1048576))) (hF:nZ cc (0+ZJ (aaY.u64.wrap (m.pc - 1048576))*1) ((nc - ZJ (aaY.u64.wrap (m.pc - 1048576)))*1) fb) (UZ:fb.all isByte=true) (UY:(decide (aaY.u64.wrap (m.pc - 1048576)>aaY.u64.wrap (↑nc:Int)))=false):List (Ev P):= [tC (eF UY),tC (eF UY),tC (eF UY),tC (eF UY),tC (eF UY),tC (eF UY),tC (eF UY),tC UY,tC (by ((try simp only [eZ] at*);(try unfold dK at*);omega):(decide (aaY.u64.wrap (aaY.u64.wrap (↑nc:Int) - aaY.u64.wrap (m.pc - 1048576))<1))=false),.cM (decide (0≤aaY.u64.wrap (m.pc - 1048576)∧aaY.u64.wrap (m.pc - 1048576)≤aaY.i64.wrap (aaY.i64.wrap (aaY.u64.wrap (m.pc - 1048576))+1)∧aaY.i64.wrap (aaY.i64.wrap (aaY.u64.wrap (m.pc - 1048576))+1)≤aaY.i64.wrap (aaY.i64.wrap (aaY.u64.wrap (m.pc - 1048576))+1)∧aaY.i64.wrap (aaY.i64.wrap (aaY.u64.wrap (m.pc - 1048576))+1)≤(↑nc:Int))) true (by ((try simp only [eZ] at*);(try unfold dK at*);omega)),tF,.cM (decide (0≤aaY.u64.wrap (m.pc - 1048576)∧aaY.u64.wrap (m.pc - 1048576)≤(↑nc:Int))) true (by ((try simp only [eZ] at*);(try unfold dK at*);omega)),.len (nc - ZJ (aaY.u64.wrap (m.pc - 1048576))) (2147483648) (by first|decide|omega|(simp;omega)),.go 2,.fU _ _ _ _ (@Fs (cc) (0+ZJ (aaY.u64.wrap (m.pc - 1048576))*1) ((nc - ZJ (aaY.u64.wrap (m.pc - 1048576)))*1) _ hF),tC (v:=true) UZ]
theorem Sl {m:au} {nc:Nat} (Ub:nc≤16384) (p1:(aaY.u64.wrap (m.pc - 1048576))≤nc):(decide (aaY.u64.wrap (m.pc - 1048576)>aaY.u64.wrap (↑nc:Int)))=false:=by
 rw [bZ (nc:Int)];exact bM (by omega)
abbrev IX {P:Program} {cc fb:List D} {m:au} {nc:Nat} (Ub:nc≤16384) (p0:1048576≤m.pc) (p1:(aaY.u64.wrap (m.pc - 1048576))≤nc) (p2:1≤nc - (aaY.u64.wrap (m.pc - 1048576))) (hF:nZ cc (0+ZJ (aaY.u64.wrap (m.pc - 1048576))*1) ((nc - ZJ (aaY.u64.wrap (m.pc - 1048576)))*1) fb) (UZ:fb.all isByte=true):List (Ev P):= [aO,tF,aO]++(Zx 8 (tC (eF (bM (ZH.2 p0))))++(tC (bM (ZH.2 p0))::(Zx 4 (tC (eF (Sl Ub p1)))++SY Ub p0 p1 p2 hF UZ (Sl Ub p1))))
theorem BH (o0 fG fF fE fC:Ob) (cc cx fr st an tr:List D) (m:au) (en:Int) (nc nx:Nat) (Ub:nc≤16384) (h:m.pc<1048576∨nc<(aaY.u64.wrap (m.pc - 1048576))∨nc - (aaY.u64.wrap (m.pc - 1048576))<1):ao Zy 47 ([.ptr false 11 0]) ((sA o0 fG fF fE fC cc cx fr st m an tr 0 en nc nx 0 [])) (ax false) ((sA o0 fG fF fE fC cc cx fr st m an tr 0 3 nc nx 0 [])):=by
 rcases Z2 (decide (au.pc m<1048576)) with h0|h0
 ·exact ao.aj (aV:=ZL 17) mixed ([aO,tF,aO,tC (eF h0),tC (eF h0),tC (eF h0),tC (eF h0),tC (eF h0),tC (eF h0),tC (eF h0),tC (eF h0),tC h0,tF,tF,tF,tF]++(cr 10 896++ [.go 64,tF])) (by kernel_rfl)
 ·rcases Z2 (decide (aaY.u64.wrap (m.pc - 1048576)>aaY.u64.wrap (↑nc:Int))) with h1|h1
  ·exact ao.aj (aV:=ZL 17) mixed ([aO,tF,aO,tC (eF h0),tC (eF h0),tC (eF h0),tC (eF h0),tC (eF h0),tC (eF h0),tC (eF h0),tC (eF h0),tC h0,tC (eF h1),tC (eF h1),tC (eF h1),tC (eF h1)]++ [tC (eF h1),tC (eF h1),tC (eF h1),tC (eF h1),tC (eF h1),tC (eF h1),tC (eF h1),tC h1,tT,tT,.go 64,tF]) (by kernel_rfl)
  ·exact ao.aj (aV:=ZL 17) mixed ([aO,tF,aO,tC (eF h0),tC (eF h0),tC (eF h0),tC (eF h0),tC (eF h0),tC (eF h0),tC (eF h0),tC (eF h0),tC h0,tC (eF h1),tC (eF h1),tC (eF h1),tC (eF h1)]++ [tC (eF h1),tC (eF h1),tC (eF h1),tC (eF h1),tC (eF h1),tC (eF h1),tC (eF h1),tC h1,tC (by ((try simp only [eZ] at*);(try unfold dK at*);omega):(decide (aaY.u64.wrap (aaY.u64.wrap (↑nc:Int) - aaY.u64.wrap (m.pc - 1048576))<1))=true),tT,.go 64,tF]) (by kernel_rfl)
section
variable (o0 fG fF fE fC:Ob) (cc cx fr st an tr:List D) (m:au) (en:Int) (nc nx:Nat) (Ub:nc≤16384) (p0:1048576≤m.pc) (p1:(aaY.u64.wrap (m.pc - 1048576))≤nc) (p2:1≤nc - (aaY.u64.wrap (m.pc - 1048576))) (fb:List D) (hF:nZ cc (0+ZJ (aaY.u64.wrap (m.pc - 1048576))*1) ((nc - ZJ (aaY.u64.wrap (m.pc - 1048576)))*1) fb) (UZ:fb.all isByte=true)
include Ub p0 p1 p2 hF UZ
theorem Gd (op w dst src base af ai Tl len er:Int) (hr:aQ Zy 81 [bj 1 fb] (.aL [xD op w dst src base af ai Tl,aq len,aq er])) (Zr:er≠0):ao Zy 47 ([.ptr false 11 0]) ((sA o0 fG fF fE fC cc cx fr st m an tr 0 en nc nx 0 [])) (ax false) ((sA o0 fG fF fE fC cc cx fr st m an tr 0 3 nc nx 0 (Zx 3 .dead))):=ao.aj (aV:=ZL 17) mixed (IX Ub p0 p1 p2 hF UZ++ [.go 64,tT,aw hr,tC (nt (by ((try simp only [eZ] at*);(try unfold dK at*);omega):(er==0)=false))]) (by kernel_rfl)
theorem Gg (op w dst src base af ai Tl len:Int) (hr:aQ Zy 81 [bj 1 fb] (.aL [xD op w dst src base af ai Tl,aq len,aq 0])) (qN:(op==26)=false) (ma:(op==27)=false) (jV:(op==30)=false) (lr:(op==31)=false) (a n:Int) (q:Bool) (ha:aQ Zy 111 [.agg (eV m),xD op w dst src base af ai Tl] (.aL [av a,aq n,ax q])) (m1:au) (e:Int) (hd:aQ Zy 83 [.agg (eV m),xD op w dst src base af ai Tl,av 0] (.aL [.agg (eV m1),aq e])) (he:e=0):ao Zy 47 ([.ptr false 11 0]) ((sA o0 fG fF fE fC cc cx fr st m an tr 0 en nc nx 0 [])) (ax true) ((sA o0 fG fF fE fC cc cx fr st m1 an tr 0 0 nc nx 0 (Zx 7 .dead))):=ao.aj (aV:=ZL 17) mixed (IX Ub p0 p1 p2 hF UZ++ [.go 64,tT,aw hr,tF,aO,aw ha,tC lr,tC ma,tC jV,tC qN,tF,aw hd,tC (nt (cD 0 true he)),tC (eT jV),tC (eT jV),tC jV]++ [tF]) (by kernel_rfl)
theorem zf (op w dst src base af ai Tl len:Int) (hr:aQ Zy 81 [bj 1 fb] (.aL [xD op w dst src base af ai Tl,aq len,aq 0])) (qN:(op==26)=false) (ma:(op==27)=false) (jV:(op==30)=false) (lr:(op==31)=false) (a n:Int) (q:Bool) (ha:aQ Zy 111 [.agg (eV m),xD op w dst src base af ai Tl] (.aL [av a,aq n,ax q])) (m1:au) (e:Int) (hd:aQ Zy 83 [.agg (eV m),xD op w dst src base af ai Tl,av 0] (.aL [.agg (eV m1),aq e])) (he:e≠0):ao Zy 47 ([.ptr false 11 0]) ((sA o0 fG fF fE fC cc cx fr st m an tr 0 en nc nx 0 [])) (ax false) ((sA o0 fG fF fE fC cc cx fr st m an tr 0 3 nc nx 0 (Zx 7 .dead))):=ao.aj (aV:=ZL 17) mixed (IX Ub p0 p1 p2 hF UZ++ [.go 64,tT,aw hr,tF,aO,aw ha,tC lr,tC ma,tC jV,tC qN,tF,aw hd,tC (nt (by ((try simp only [eZ] at*);(try unfold dK at*);omega):(e==0)=false))]) (by kernel_rfl)
theorem Ge (op w dst src base af ai Tl len:Int) (hr:aQ Zy 81 [bj 1 fb] (.aL [xD op w dst src base af ai Tl,aq len,aq 0])) (qN:(op==26)=true) (ma:(op==27)=false) (jV:(op==30)=false) (lr:(op==31)=false) (a n:Int) (q:Bool) (ha:aQ Zy 111 [.agg (eV m),xD op w dst src base af ai Tl] (.aL [av a,aq n,ax q])) (v:Int) (hm:ao Zy 115 [.ptr false 1 0,av a,aq n] (sA o0 fG fF fE fC cc cx fr st m an tr 0 3 nc nx 0 [.ey 0 1,aY,xb op w dst src base af ai Tl,xb op w dst src base af ai Tl,aY]) (.aL [av v,aq 0]) (sA o0 fG fF fE fC cc cx fr st m an tr 0 3 nc nx 0 [.ey 0 1,aY,xb op w dst src base af ai Tl,xb op w dst src base af ai Tl,aY])) (m1:au) (e:Int) (hd:aQ Zy 83 [.agg (eV m),xD op w dst src base af ai Tl,av v] (.aL [.agg (eV m1),aq e])) (he:e=0):ao Zy 47 ([.ptr false 11 0]) ((sA o0 fG fF fE fC cc cx fr st m an tr 0 en nc nx 0 [])) (ax true) ((sA o0 fG fF fE fC cc cx fr st m1 an tr 0 0 nc nx 0 (Zx 7 .dead))):=ao.aj (aV:=ZL 17) mixed (IX Ub p0 p1 p2 hF UZ++ [.go 64,tT,aw hr,tF,aO,aw ha,tC (cD 31 false (eq_of_beq qN)),tC (cD 27 false (eq_of_beq qN)),tC (cD 30 false (eq_of_beq qN)),tC (cD 26 true (eq_of_beq qN)),.aI _ _ _ _ _ hm,tF,aw hd,tC (nt (cD 0 true he)),tC (eT (cD 30 false (eq_of_beq qN))),tC (eT (cD 30 false (eq_of_beq qN)))]++ [tC (cD 30 false (eq_of_beq qN)),tF]) (by kernel_rfl)
theorem za (op w dst src base af ai Tl len:Int) (hr:aQ Zy 81 [bj 1 fb] (.aL [xD op w dst src base af ai Tl,aq len,aq 0])) (qN:(op==26)=true) (ma:(op==27)=false) (jV:(op==30)=false) (lr:(op==31)=false) (a n:Int) (q:Bool) (ha:aQ Zy 111 [.agg (eV m),xD op w dst src base af ai Tl] (.aL [av a,aq n,ax q])) (hm:ao Zy 115 [.ptr false 1 0,av a,aq n] (sA o0 fG fF fE fC cc cx fr st m an tr 0 3 nc nx 0 [.ey 0 1,aY,xb op w dst src base af ai Tl,xb op w dst src base af ai Tl,aY]) (.aL [av 0,aq 20]) (sA o0 fG fF fE fC cc cx fr st m an tr 0 3 nc nx 0 [.ey 0 1,aY,xb op w dst src base af ai Tl,xb op w dst src base af ai Tl,aY])):ao Zy 47 ([.ptr false 11 0]) ((sA o0 fG fF fE fC cc cx fr st m an tr 0 en nc nx 0 [])) (ax false) ((sA o0 fG fF fE fC cc cx fr st m an tr 0 3 nc nx 0 (Zx 5 .dead))):=ao.aj (aV:=ZL 17) mixed (IX Ub p0 p1 p2 hF UZ++ [.go 64,tT,aw hr,tF,aO,aw ha,tC (cD 31 false (eq_of_beq qN)),tC (cD 27 false (eq_of_beq qN)),tC (cD 30 false (eq_of_beq qN)),tC (cD 26 true (eq_of_beq qN)),.aI _ _ _ _ _ hm,tT]) (by kernel_rfl)
theorem Jx (op w dst src base af ai Tl len:Int) (hr:aQ Zy 81 [bj 1 fb] (.aL [xD op w dst src base af ai Tl,aq len,aq 0])) (qN:(op==26)=false) (ma:(op==27)=false) (jV:(op==30)=true) (lr:(op==31)=false) (a n:Int) (q:Bool) (ha:aQ Zy 111 [.agg (eV m),xD op w dst src base af ai Tl] (.aL [av a,aq n,ax q])) (v:Int) (hm:ao Zy 115 [.ptr false 1 0,av a,aq n] (sA o0 fG fF fE fC cc cx fr st m an tr 0 3 nc nx 0 [.ey 0 1,aY,xb op w dst src base af ai Tl,xb op w dst src base af ai Tl,aY]) (.aL [av v,aq 0]) (sA o0 fG fF fE fC cc cx fr st m an tr 0 3 nc nx 0 [.ey 0 1,aY,xb op w dst src base af ai Tl,xb op w dst src base af ai Tl,aY])) (m1:au) (e:Int) (hd:aQ Zy 83 [.agg (eV m),xD op w dst src base af ai Tl,av v] (.aL [.agg (eV m1),aq e])) (he:e=0) (hv:(v==0)=false):ao Zy 47 ([.ptr false 11 0]) ((sA o0 fG fF fE fC cc cx fr st m an tr 0 en nc nx 0 [])) (ax true) ((sA o0 fG fF fE fC cc cx fr st m1 an tr 0 0 nc nx 0 (Zx 7 .dead))):=ao.aj (aV:=ZL 17) mixed (IX Ub p0 p1 p2 hF UZ++ [.go 64,tT,aw hr,tF,aO,aw ha,tC (cD 31 false (eq_of_beq jV)),tC ma,tC (cD 30 true (eq_of_beq jV)),.aI _ _ _ _ _ hm,tF,aw hd,tC (nt (cD 0 true he)),tC (eT (cD 30 true (eq_of_beq jV))),tC (eT (cD 30 true (eq_of_beq jV))),tC (cD 30 true (eq_of_beq jV))]++ [tC hv]) (by kernel_rfl)
theorem Gc (op w dst src base af ai Tl len:Int) (hr:aQ Zy 81 [bj 1 fb] (.aL [xD op w dst src base af ai Tl,aq len,aq 0])) (qN:(op==26)=false) (ma:(op==27)=false) (jV:(op==30)=true) (lr:(op==31)=false) (a n:Int) (q:Bool) (ha:aQ Zy 111 [.agg (eV m),xD op w dst src base af ai Tl] (.aL [av a,aq n,ax q])) (v:Int) (hm:ao Zy 115 [.ptr false 1 0,av a,aq n] (sA o0 fG fF fE fC cc cx fr st m an tr 0 3 nc nx 0 [.ey 0 1,aY,xb op w dst src base af ai Tl,xb op w dst src base af ai Tl,aY]) (.aL [av v,aq 0]) (sA o0 fG fF fE fC cc cx fr st m an tr 0 3 nc nx 0 [.ey 0 1,aY,xb op w dst src base af ai Tl,xb op w dst src base af ai Tl,aY])) (m1:au) (e:Int) (hd:aQ Zy 83 [.agg (eV m),xD op w dst src base af ai Tl,av v] (.aL [.agg (eV m1),aq e])) (he:e=0) (hv:(v==0)=true):ao Zy 47 ([.ptr false 11 0]) ((sA o0 fG fF fE fC cc cx fr st m an tr 0 en nc nx 0 [])) (ax false) ((sA o0 fG fF fE fC cc cx fr st m1 an tr 0 1 nc nx 0 (Zx 7 .dead))):=ao.aj (aV:=ZL 17) mixed (IX Ub p0 p1 p2 hF UZ++ [.go 64,tT,aw hr,tF,aO,aw ha,tC (cD 31 false (eq_of_beq jV)),tC ma,tC (cD 30 true (eq_of_beq jV)),.aI _ _ _ _ _ hm,tF,aw hd,tC (nt (cD 0 true he)),tC (eT (cD 30 true (eq_of_beq jV))),tC (eT (cD 30 true (eq_of_beq jV))),tC (cD 30 true (eq_of_beq jV))]++ [tC (cD 0 true (eq_of_beq hv))]) (by kernel_rfl)
theorem BG (op w dst src base af ai Tl len:Int) (hr:aQ Zy 81 [bj 1 fb] (.aL [xD op w dst src base af ai Tl,aq len,aq 0])) (qN:(op==26)=false) (ma:(op==27)=false) (jV:(op==30)=true) (lr:(op==31)=false) (a n:Int) (q:Bool) (ha:aQ Zy 111 [.agg (eV m),xD op w dst src base af ai Tl] (.aL [av a,aq n,ax q])) (hm:ao Zy 115 [.ptr false 1 0,av a,aq n] (sA o0 fG fF fE fC cc cx fr st m an tr 0 3 nc nx 0 [.ey 0 1,aY,xb op w dst src base af ai Tl,xb op w dst src base af ai Tl,aY]) (.aL [av 0,aq 20]) (sA o0 fG fF fE fC cc cx fr st m an tr 0 3 nc nx 0 [.ey 0 1,aY,xb op w dst src base af ai Tl,xb op w dst src base af ai Tl,aY])):ao Zy 47 ([.ptr false 11 0]) ((sA o0 fG fF fE fC cc cx fr st m an tr 0 en nc nx 0 [])) (ax false) ((sA o0 fG fF fE fC cc cx fr st m an tr 0 3 nc nx 0 (Zx 5 .dead))):=ao.aj (aV:=ZL 17) mixed (IX Ub p0 p1 p2 hF UZ++ [.go 64,tT,aw hr,tF,aO,aw ha,tC (cD 31 false (eq_of_beq jV)),tC ma,tC (cD 30 true (eq_of_beq jV)),.aI _ _ _ _ _ hm,tT]) (by kernel_rfl)
theorem BF (op w dst src base af ai Tl len:Int) (hr:aQ Zy 81 [bj 1 fb] (.aL [xD op w dst src base af ai Tl,aq len,aq 0])) (qN:(op==26)=false) (ma:(op==27)=true) (jV:(op==30)=false) (lr:(op==31)=false) (a n:Int) (q:Bool) (ha:aQ Zy 111 [.agg (eV m),xD op w dst src base af ai Tl] (.aL [av a,aq n,ax q])) (z:Int) (Ux Uk Ul:List D) (hs:aQ Zy 114 [.agg (eV m),xD op w dst src base af ai Tl] (av z)) (hm:ao Zy 113 [.ptr false 1 0,av a,aq n,av z] (sA o0 fG fF fE fC cc cx fr st m an tr 0 3 nc nx 0 [.ey 0 1,aY,xb op w dst src base af ai Tl,xb op w dst src base af ai Tl,aY,aY]) (aq 0) (sA o0 fG fF fE fC cc Ux Uk Ul m an tr 0 3 nc nx 0 [.ey 0 1,aY,xb op w dst src base af ai Tl,xb op w dst src base af ai Tl,aY,aY])) (m1:au) (e:Int) (hd:aQ Zy 83 [.agg (eV m),xD op w dst src base af ai Tl,av 0] (.aL [.agg (eV m1),aq e])) (he:e=0):ao Zy 47 ([.ptr false 11 0]) ((sA o0 fG fF fE fC cc cx fr st m an tr 0 en nc nx 0 [])) (ax true) ((sA o0 fG fF fE fC cc Ux Uk Ul m1 an tr 0 0 nc nx 0 (Zx 8 .dead))):=ao.aj (aV:=ZL 17) mixed (IX Ub p0 p1 p2 hF UZ++ [.go 64,tT,aw hr,tF,aO,aw ha,tC (cD 31 false (eq_of_beq ma)),tC (cD 27 true (eq_of_beq ma)),aw hs,.aI _ _ _ _ _ hm,tF,aw hd,tC (nt (cD 0 true he)),tC (eT (cD 30 false (eq_of_beq ma))),tC (eT (cD 30 false (eq_of_beq ma))),tC (cD 30 false (eq_of_beq ma))]++ [tF]) (by kernel_rfl)
theorem wi (op w dst src base af ai Tl len:Int) (hr:aQ Zy 81 [bj 1 fb] (.aL [xD op w dst src base af ai Tl,aq len,aq 0])) (qN:(op==26)=false) (ma:(op==27)=true) (jV:(op==30)=false) (lr:(op==31)=false) (a n:Int) (q:Bool) (ha:aQ Zy 111 [.agg (eV m),xD op w dst src base af ai Tl] (.aL [av a,aq n,ax q])) (z:Int) (hs:aQ Zy 114 [.agg (eV m),xD op w dst src base af ai Tl] (av z)) (hm:ao Zy 113 [.ptr false 1 0,av a,aq n,av z] (sA o0 fG fF fE fC cc cx fr st m an tr 0 3 nc nx 0 [.ey 0 1,aY,xb op w dst src base af ai Tl,xb op w dst src base af ai Tl,aY,aY]) (aq 20) (sA o0 fG fF fE fC cc cx fr st m an tr 0 3 nc nx 0 [.ey 0 1,aY,xb op w dst src base af ai Tl,xb op w dst src base af ai Tl,aY,aY])):ao Zy 47 ([.ptr false 11 0]) ((sA o0 fG fF fE fC cc cx fr st m an tr 0 en nc nx 0 [])) (ax false) ((sA o0 fG fF fE fC cc cx fr st m an tr 0 3 nc nx 0 (Zx 6 .dead))):=ao.aj (aV:=ZL 17) mixed (IX Ub p0 p1 p2 hF UZ++ [.go 64,tT,aw hr,tF,aO,aw ha,tC (cD 31 false (eq_of_beq ma)),tC (cD 27 true (eq_of_beq ma)),aw hs,.aI _ _ _ _ _ hm,tT]) (by kernel_rfl)
theorem ze (op w dst src base af ai Tl len:Int) (hr:aQ Zy 81 [bj 1 fb] (.aL [xD op w dst src base af ai Tl,aq len,aq 0])) (qN:(op==26)=false) (ma:(op==27)=false) (jV:(op==30)=false) (lr:(op==31)=true) (a n:Int) (q:Bool) (ha:aQ Zy 111 [.agg (eV m),xD op w dst src base af ai Tl] (.aL [av a,aq n,ax q])) (g:Int) (hn:aQ Zy 144 [.agg (eV m)] (.aL [aq g,ax false])):ao Zy 47 ([.ptr false 11 0]) ((sA o0 fG fF fE fC cc cx fr st m an tr 0 en nc nx 0 [])) (ax false) ((sA o0 fG fF fE fC cc cx fr st m an tr 0 3 nc nx 0 (Zx 6 .dead))):=by
 exact ao.aj (aV:=ZL 17) mixed (IX Ub p0 p1 p2 hF UZ++ [.go 64,tT,aw hr,tF,aO,aw ha,tC (cD 31 true (eq_of_beq lr)),aO,aw hn,tT,tT]) (by kernel_rfl)
end
theorem zb (o0 fG fF fE fC:Ob) (cc cx fr st tr:List D) (m:au) (en:Int) (nc nx:Nat) (Ub:nc≤16384) (p0:1048576≤m.pc) (p1:(aaY.u64.wrap (m.pc - 1048576))≤nc) (p2:1≤nc - (aaY.u64.wrap (m.pc - 1048576))) (fb:List D) (hF:nZ cc (0+ZJ (aaY.u64.wrap (m.pc - 1048576))*1) ((nc - ZJ (aaY.u64.wrap (m.pc - 1048576)))*1) fb) (UZ:fb.all isByte=true) (op w dst src base af ai Tl len:Int) (hr:aQ Zy 81 [bj 1 fb] (.aL [xD op w dst src base af ai Tl,aq len,aq 0])) (qN:(op==26)=false) (ma:(op==27)=false) (jV:(op==30)=false) (lr:(op==31)=true) (a n:Int) (q:Bool) (ha:aQ Zy 111 [.agg (eV m),xD op w dst src base af ai Tl] (.aL [av a,aq n,ax q])) (g:Int) (hn:aQ Zy 144 [.agg (eV m)] (.aL [aq g,ax true])):ao Zy 47 ([.ptr false 11 0]) ((sA o0 fG fF fE fC cc cx fr st m [] tr 0 en nc nx 0 [])) (ax false) ((sA o0 fG fF fE fC cc cx fr st m [] tr 0 2 nc nx 0 (Zx 6 .dead))):=ao.aj (aV:=ZL 17) mixed (IX Ub p0 p1 p2 hF UZ++ [.go 64,tT,aw hr,tF,aO,aw ha,tC (cD 31 true (eq_of_beq lr)),aO,aw hn,tF,tT,tT]) (by kernel_rfl)
theorem Gf (o0 fG fF fE fC:Ob) (cc cx fr st ar tr ga:List D) (m:au) (en:Int) (nc nx:Nat) (Ub:nc≤16384) (p0:1048576≤m.pc) (p1:(aaY.u64.wrap (m.pc - 1048576))≤nc) (p2:1≤nc - (aaY.u64.wrap (m.pc - 1048576))) (fb:List D) (hF:nZ cc (0+ZJ (aaY.u64.wrap (m.pc - 1048576))*1) ((nc - ZJ (aaY.u64.wrap (m.pc - 1048576)))*1) fb) (UZ:fb.all isByte=true) (op w dst src base af ai Tl len:Int) (hr:aQ Zy 81 [bj 1 fb] (.aL [xD op w dst src base af ai Tl,aq len,aq 0])) (qN:(op==26)=false) (ma:(op==27)=false) (jV:(op==30)=false) (lr:(op==31)=true) (a n:Int) (q:Bool) (ha:aQ Zy 111 [.agg (eV m),xD op w dst src base af ai Tl] (.aL [av a,aq n,ax q])) (g a0:Int) (ht:tr.length≤100000) (hn:aQ Zy 144 [.agg (eV m)] (.aL [aq g,ax true])) (hg:aQ Zy 145 [.agg (eV m)] (bj 1 ga)) (m1:au) (e:Int) (hd:aQ Zy 83 [.agg (eV m),xD op w dst src base af ai Tl,av a0] (.aL [.agg (eV m1),aq e])) (he:e=0):ao Zy 47 ([.ptr false 11 0]) ((sA o0 fG fF fE fC cc cx fr st m (av a0::ar) tr 0 en nc nx 0 [])) (ax true) ((sA o0 fG fF fE fC cc cx fr st m1 ar (tr++ [.agg [aq g,bj 1 ga,av a0]]) 1 0 nc nx 1 (Zx 9 .dead))):=by
 have UY:(decide (aaY.wrap aaY.u64 (au.pc m - (1048576:Int))>aaY.wrap aaY.u64 (↑nc:Int)))=false:=by (try simp only [eZ] at*);(try unfold dK at*);omega
 exact ao.aj (aV:=ZL 17) mixed ([aO,tF,aO,tC (eF (bM (ZH.2 p0))),tC (eF (bM (ZH.2 p0))),tC (eF (bM (ZH.2 p0))),tC (eF (bM (ZH.2 p0))),tC (eF (bM (ZH.2 p0))),tC (eF (bM (ZH.2 p0))),tC (eF (bM (ZH.2 p0))),tC (eF (bM (ZH.2 p0))),tC (bM (ZH.2 p0)),tC (eF UY),tC (eF UY),tC (eF UY),tC (eF UY)]++ [tC (eF UY),tC (eF UY),tC (eF UY),tC (eF UY),tC (eF UY),tC (eF UY),tC (eF UY),tC UY,tC (by ((try simp only [eZ] at*);(try unfold dK at*);omega):(decide (aaY.wrap aaY.u64 (aaY.wrap aaY.u64 (↑nc:Int) - aaY.wrap aaY.u64 (au.pc m - (1048576:Int)))<(1:Int)))=false),.cM (decide ((0:Int)≤aaY.wrap aaY.u64 (au.pc m - (1048576:Int))∧aaY.wrap aaY.u64 (au.pc m - (1048576:Int))≤aaY.i64.wrap (aaY.i64.wrap (aaY.wrap aaY.u64 (au.pc m - (1048576:Int)))+(1:Int))∧aaY.i64.wrap (aaY.i64.wrap (aaY.wrap aaY.u64 (au.pc m - (1048576:Int)))+(1:Int))≤aaY.i64.wrap (aaY.i64.wrap (aaY.wrap aaY.u64 (au.pc m - (1048576:Int)))+(1:Int))∧aaY.i64.wrap (aaY.i64.wrap (aaY.wrap aaY.u64 (au.pc m - (1048576:Int)))+(1:Int))≤(↑nc:Int))) true (by ((try simp only [eZ] at*);(try unfold dK at*);omega)),tF,.cM (decide ((0:Int)≤aaY.wrap aaY.u64 (au.pc m - (1048576:Int))∧aaY.wrap aaY.u64 (au.pc m - (1048576:Int))≤(↑nc:Int))) true (by ((try simp only [eZ] at*);(try unfold dK at*);omega)),.len (nc - ZJ (aaY.wrap aaY.u64 (au.pc m - (1048576:Int)))) ((2147483648:Nat)) (by first|decide|omega|(simp;omega)),.go 2,.fU _ _ _ _ (@Fs (cc) ((0:Nat)+ZJ (aaY.wrap aaY.u64 (au.pc m - (1048576:Int)))*(1:Nat)) ((nc - ZJ (aaY.wrap aaY.u64 (au.pc m - (1048576:Int))))*(1:Nat)) _ hF),tC (v:=true) UZ]++ [.go 64,tT,aw hr,tF,aO,aw ha,tC (cD 31 true (eq_of_beq lr)),aO,aw hn,tF,tF,.get (av a0::ar) 0 (av a0) rfl,.cM (decide ((0:Int)≤(1:Int)∧(1:Int)≤(↑(ZA (av a0::ar)):Int))) true (by ((try simp only [eZ] at*);(try unfold dK at*);omega)),aw hg,.len (ZA tr+(1:Nat)) ((2147483648:Nat)) (by first|decide|omega|(simp;omega)),tF]++ [aw hd,tC (nt (cD 0 true (by ((try simp only [eZ] at*);(try unfold dK at*);omega):e=(0:Int)))),tC (eT jV),tC (eT jV),tC jV,tF]) (by kernel_rfl)
def O2 (pc:Int):Int:=if decide (aaY.u64.wrap (pc - 1048576)<16385)=true then aaY.i64.wrap (aaY.u64.wrap (pc - 1048576)) else -1
theorem xI (o0 fG fF fE fC:Ob) (cc cx fr st an tr:List D) (m:au) (en:Int) (nc nx:Nat):ao Zy 46 ([.ptr false 11 0]) ([o0,aA (uX nc nx),aY,aY,aA cc,aY,aY,aA cx,aA fr,aA st,aY,aA (uC m an tr 0 en),fG,fF,fE,fC,.ey 0 3]) (aq (O2 m.pc)) ([o0,aA (uX nc nx),aY,aY,aA cc,aY,aY,aA cx,aA fr,aA st,aY,aA (uC m an tr 0 en),fG,fF,fE,fC,.ey 0 3]):=by
 rcases Z2 (decide (aaY.wrap aaY.u64 (au.pc m - (1048576:Int))<(16385:Int))) with h0|h0
 ·exact (ao.aj (aV:= [0,1,2,3,4,5,6,7,8,9,10,11,12,13,14,15,16]) (d:= .int .i64 (aaY.i64.wrap (aaY.wrap aaY.u64 (au.pc m - (1048576:Int))))) (s':= [o0,aA [av 1048576,.dz 4 1 nc,ax false,av 2097152,.dz 7 1 nx,ax true,av 3145728,.dz 8 1 64,ax true,av 4194304,.dz 9 1 264,ax true],aY,aY,aA cc,aY,aY,aA cx,aA fr,aA st,aY,aA [av (au.q0 m),av (au.q1 m),av (au.q2 m),av (au.q3 m),av (au.q4 m),av (au.q5 m),av (au.q6 m),av (au.q7 m),av (au.q8 m),av (au.q9 m),av (au.de m),av (au.dr m),av (au.dw m),av (au.du m),av (au.dt m),av (au.dn m),ax (au.fk m),ax (au.fc m),ax (au.fz m),ax (au.fs m),ax (au.fo m),av (au.pc m),.ptr false 1 0,bj 1 an,.bc (.tok 16 0) 3 tr,ak en],fG,fF,fE,fC,.ey 0 3]) mixed [tC (eH 16384 h0)]).cast (by unfold O2;first|(rw [if_pos h0])|(rw [if_neg (by rw [h0];decide)])) (by rfl)
 ·exact (ao.aj (aV:= [0,1,2,3,4,5,6,7,8,9,10,11,12,13,14,15,16]) (d:= .int .i64 (-1:Int)) (s':= [o0,aA [av 1048576,.dz 4 1 nc,ax false,av 2097152,.dz 7 1 nx,ax true,av 3145728,.dz 8 1 64,ax true,av 4194304,.dz 9 1 264,ax true],aY,aY,aA cc,aY,aY,aA cx,aA fr,aA st,aY,aA [av (au.q0 m),av (au.q1 m),av (au.q2 m),av (au.q3 m),av (au.q4 m),av (au.q5 m),av (au.q6 m),av (au.q7 m),av (au.q8 m),av (au.q9 m),av (au.de m),av (au.dr m),av (au.dw m),av (au.du m),av (au.dt m),av (au.dn m),ax (au.fk m),ax (au.fc m),ax (au.fz m),ax (au.fs m),ax (au.fo m),av (au.pc m),.ptr false 1 0,bj 1 an,.bc (.tok 16 0) 3 tr,ak en],fG,fF,fE,fC,.ey 0 3]) mixed [tC (eH 16384 h0)]).cast (by unfold O2;first|(rw [if_pos h0])|(rw [if_neg (by rw [h0];decide)])) (by rfl)
abbrev u6 (ga gb:Code):Ob:= .lp .ready (Zx 56 .undef) #[27,28] ga gb
abbrev lT:List D:= .jM 15:: .ptr false 12 0::mH:: .ptr false 14 0::Zx 31 .undef
abbrev lS (l:Int) (lp:Ob) (cc cx fr st:List D) (m:au) (an tr:List D) (v:Nat) (en:Int) (nc nx:Nat) (dd:List Ob):List Ob:= .box [ak 0,av 0,.bc .tight 0 [],.bc .tight 0 [],aq l]::aA (uX nc nx)::aY::aY::aA cc::aY::aY::aA cx::aA fr::aA st::aY::aA (uC m an tr v en)::aA [.ptr false 11 0]::aY::aA [.ptr false 0 4]::lp:: .ey v 3::dd
theorem Pg (cc cx fr st an tr:List D) (m:au) (left en:Int) (nc nx:Nat) (T3:∀c∈cc,c.clean=true) (X8:∀c∈cx,c.clean=true) (UA:∀c∈fr,c.clean=true) (Ty:∀c∈st,c.clean=true) (h:left≤0):aF Zy (dT Tryz.f45 0) ⟨[],[0,1,11,12,14,15,1000004,1000007,1000008,1000009],[(1011024,3)]⟩ 16 lT (lS left (u6 (dP aae 0) (dN aae 0)) cc cx fr st m an tr 0 en nc nx []) (Ex.exit 0) (Zx 35 .undef) ((lS left (u6 (dP aae 0) (dN aae 0)) (List.map D.bn cc) (List.map D.bn cx) (List.map D.bn fr) (List.map D.bn st) m an tr 0 en nc nx [])):=aF.aj mixed [tC (dj 0 (cq (ZC h))),.cl _ T3,.cl _ X8,.cl _ UA,.cl _ Ty] (by kernel_rfl)
theorem Pf (cc cx fr st an tr:List D) (m:au) (left en:Int) (nc nx:Nat) (T3:∀c∈cc,c.clean=true) (X8:∀c∈cx,c.clean=true) (UA:∀c∈fr,c.clean=true) (Ty:∀c∈st,c.clean=true) (Ux Uk Ul Va Vb:List D) (m2:au) (VI:Int) (dd:List Ob) (V7:∀c∈Ux,c.clean=true) (Wf:∀c∈Uk,c.clean=true) (VT:∀c∈Ul,c.clean=true) (h:0<left) (hs:ao Zy 47 [.ptr false 11 0] (lS (aaY.i64.wrap (left - 1)) (u6 (dP aae 0) (dN aae 0)) cc cx fr st m an tr 0 en nc nx []) (ax true) (lS (aaY.i64.wrap (left - 1)) (u6 (dP aae 0) (dN aae 0)) cc Ux Uk Ul m2 Va Vb 0 VI nc nx dd)):aF Zy (dT Tryz.f45 0) ⟨[0,1,3],[0,1,11,12,14,15,1000004,1000007,1000008,1000009],[(1011024,3)]⟩ 16 lT (lS left (u6 (dP aae 0) (dN aae 0)) cc cx fr st m an tr 0 en nc nx []) .norm lT ((lS (aaY.i64.wrap (left - 1)) (u6 (dP aae 0) (dN aae 0)) (List.map D.bn cc) (List.map D.bn Ux) (List.map D.bn Uk) (List.map D.bn Ul) m2 Va Vb 0 VI nc nx [])):=aF.aj mixed [tC (dj 0 (bM (by omega:¬left<1))),.aI _ _ _ _ _ (@xI (aA [ak 0,av 0,.bc .tight 0 [],.bc .tight 0 [],aq left]) (aA [.ptr false 11 0]) (aY) (aA [.ptr false 0 4]) (u6 (dP aae 0) (dN aae 0)) (cc) (cx) (fr) (st) (an) (tr) (m) (en) (nc) (nx)),.aV [(0,aA [ak 0,av 0,.bc .tight 0 [],.bc .tight 0 [],aq left]),(1,aA (uX nc nx)),(4,aA cc),(7,aA cx),(8,aA fr),(9,aA st),(11,aA (uC m an tr 0 en)),(12,aA [.ptr false 11 0]),(14,aA [.ptr false 0 4]),(15,u6 (dP aae 0) (dN aae 0)),(16,.ey 0 3)],aO,tF,.aI _ _ _ _ _ hs,tF,.cl _ T3,.cl _ V7,.cl _ Wf,.cl _ VT] (by kernel_rfl)
theorem Pe (cc cx fr st an tr:List D) (m:au) (left en:Int) (nc nx:Nat) (T3:∀c∈cc,c.clean=true) (X8:∀c∈cx,c.clean=true) (UA:∀c∈fr,c.clean=true) (Ty:∀c∈st,c.clean=true) (Ux Uk Ul Va Vb:List D) (m2:au) (VI:Int) (dd:List Ob) (V7:∀c∈Ux,c.clean=true) (Wf:∀c∈Uk,c.clean=true) (VT:∀c∈Ul,c.clean=true) (h:0<left) (hs:ao Zy 47 [.ptr false 11 0] (lS (aaY.i64.wrap (left - 1)) (u6 (dP aae 0) (dN aae 0)) cc cx fr st m an tr 0 en nc nx []) (ax true) (lS (aaY.i64.wrap (left - 1)) (u6 (dP aae 0) (dN aae 0)) cc Ux Uk Ul m2 Va Vb 1 VI nc nx dd)):aF Zy (dT Tryz.f45 0) ⟨[0,1,3],[0,1,11,12,14,15,1000004,1000007,1000008,1000009],[(1011024,3)]⟩ 16 lT (lS left (u6 (dP aae 0) (dN aae 0)) cc cx fr st m an tr 0 en nc nx []) .norm lT ((lS (aaY.i64.wrap (left - 1)) (u6 (dP aae 0) (dN aae 0)) (List.map D.bn cc) (List.map D.bn Ux) (List.map D.bn Uk) (List.map D.bn Ul) m2 Va Vb 0 VI nc nx [])):=aF.aj mixed [tC (dj 0 (bM (by omega:¬left<1))),.aI _ _ _ _ _ (@xI (aA [ak 0,av 0,.bc .tight 0 [],.bc .tight 0 [],aq left]) (aA [.ptr false 11 0]) (aY) (aA [.ptr false 0 4]) (u6 (dP aae 0) (dN aae 0)) (cc) (cx) (fr) (st) (an) (tr) (m) (en) (nc) (nx)),.aV [(0,aA [ak 0,av 0,.bc .tight 0 [],.bc .tight 0 [],aq left]),(1,aA (uX nc nx)),(4,aA cc),(7,aA cx),(8,aA fr),(9,aA st),(11,aA (uC m an tr 0 en)),(12,aA [.ptr false 11 0]),(14,aA [.ptr false 0 4]),(15,u6 (dP aae 0) (dN aae 0)),(16,.ey 0 3)],aO,tF,.aI _ _ _ _ _ hs,tF,.cl _ T3,.cl _ V7,.cl _ Wf,.cl _ VT] (by kernel_rfl)
theorem Qz (cc cx fr st an tr:List D) (m:au) (left en:Int) (nc nx:Nat) (T3:∀c∈cc,c.clean=true) (X8:∀c∈cx,c.clean=true) (UA:∀c∈fr,c.clean=true) (Ty:∀c∈st,c.clean=true) (Ux Uk Ul Va Vb:List D) (m2:au) (VI:Int) (dd:List Ob) (V7:∀c∈Ux,c.clean=true) (Wf:∀c∈Uk,c.clean=true) (VT:∀c∈Ul,c.clean=true) (h:0<left) (hs:ao Zy 47 [.ptr false 11 0] (lS (aaY.i64.wrap (left - 1)) (u6 (dP aae 0) (dN aae 0)) cc cx fr st m an tr 0 en nc nx []) (ax false) (lS (aaY.i64.wrap (left - 1)) (u6 (dP aae 0) (dN aae 0)) cc Ux Uk Ul m2 Va Vb 0 VI nc nx dd)):aF Zy (dT Tryz.f45 0) ⟨[],[0,1,11,12,14,15,1000004,1000007,1000008,1000009],[(1011024,3)]⟩ 16 lT (lS left (u6 (dP aae 0) (dN aae 0)) cc cx fr st m an tr 0 en nc nx []) (Ex.ret) (Zx 35 .undef) ((lS (aaY.i64.wrap (left - 1)) (u6 (dP aae 0) (dN aae 0)) (List.map D.bn cc) (List.map D.bn Ux) (List.map D.bn Uk) (List.map D.bn Ul) m2 Va Vb 0 VI nc nx [])):=aF.aj mixed [tC (dj 0 (bM (by omega:¬left<1))),.aI _ _ _ _ _ (@xI (aA [ak 0,av 0,.bc .tight 0 [],.bc .tight 0 [],aq left]) (aA [.ptr false 11 0]) (aY) (aA [.ptr false 0 4]) (u6 (dP aae 0) (dN aae 0)) (cc) (cx) (fr) (st) (an) (tr) (m) (en) (nc) (nx)),.aV [(0,aA [ak 0,av 0,.bc .tight 0 [],.bc .tight 0 [],aq left]),(1,aA (uX nc nx)),(4,aA cc),(7,aA cx),(8,aA fr),(9,aA st),(11,aA (uC m an tr 0 en)),(12,aA [.ptr false 11 0]),(14,aA [.ptr false 0 4]),(15,u6 (dP aae 0) (dN aae 0)),(16,.ey 0 3)],aO,tF,.aI _ _ _ _ _ hs,tT,.cl _ T3,.cl _ V7,.cl _ Wf,.cl _ VT] (by kernel_rfl)
theorem Im (m:au) (w dst src base af ai Tl:Int) (d0:0≤dst) (d1:dst≤15) (s0:0≤src) (s1:src≤15) (b0:0≤base) (b1:base≤15) (w0:0≤w) (w1:w≤64) (hm:bL 26 w dst src base af ai Tl=true):aQ Zy 111 ([.agg (eV m),xD 26 w dst src base af ai Tl]) (.aL [av (u64 (rg m.rl base+u64 af)),aq (w / 8),ax true]):=by
 have c0:= @bg (26) (w) (dst) (src) (base) (af) (ai) (Tl) (by first|rfl|decide)
 exact (aQ.aj (d:= .aL [av (aaY.u64.wrap (rg m.rl base+aaY.u64.wrap af)),aq (aaY.i64.wrap (Int.fdiv w 8)),ax true]) mixed Tryz.func111 (by kernel_rfl) [aw c0,tC (nt hm),tF,tT,tT,.cM (decide (0≤base∧base<(↑(16:Nat):Int))) true (by ((try simp only [dh,bw,aX,bZ,bX,cJ,cF,lO,gp,bne_eq_false_iff_eq,Z8,aai,ZD,ZV] at*);omega)),.get _ _ _ (@bl (m) (base) ([ax m.fk,ax m.fc,ax m.fz,ax m.fs,ax m.fo,av m.pc]) b0 b1)]).to (by simp only [wk,a7,eJ,D.int.injEq,ee];refine ⟨rfl,?_⟩;first|rfl|(rw [aX,Rc];omega)|(rw [show aaY.i64.wrap w=w by rw [aX];omega,Int.tdiv_eq_ediv_of_nonneg w0,aX];omega))
theorem Il (m:au) (w dst src base af ai Tl:Int) (d0:0≤dst) (d1:dst≤15) (s0:0≤src) (s1:src≤15) (b0:0≤base) (b1:base≤15) (w0:0≤w) (w1:w≤64) (hm:bL 27 w dst src base af ai Tl=true):aQ Zy 111 ([.agg (eV m),xD 27 w dst src base af ai Tl]) (.aL [av (u64 (rg m.rl base+u64 af)),aq (w / 8),ax true]):=by
 have c0:= @bg (27) (w) (dst) (src) (base) (af) (ai) (Tl) (by first|rfl|decide)
 exact (aQ.aj (d:= .aL [av (aaY.u64.wrap (rg m.rl base+aaY.u64.wrap af)),aq (aaY.i64.wrap (Int.fdiv w 8)),ax true]) mixed Tryz.func111 (by kernel_rfl) [aw c0,tC (nt hm),tF,tF,tT,.cM (decide (0≤base∧base<(↑(16:Nat):Int))) true (by ((try simp only [dh,bw,aX,bZ,bX,cJ,cF,lO,gp,bne_eq_false_iff_eq,Z8,aai,ZD,ZV] at*);omega)),.get _ _ _ (@bl (m) (base) ([ax m.fk,ax m.fc,ax m.fz,ax m.fs,ax m.fo,av m.pc]) b0 b1)]).to (by simp only [wk,a7,eJ,D.int.injEq,ee];refine ⟨rfl,?_⟩;first|rfl|(rw [aX,Rc];omega)|(rw [show aaY.i64.wrap w=w by rw [aX];omega,Int.tdiv_eq_ediv_of_nonneg w0,aX];omega))
theorem Ik (m:au) (w dst src base af ai Tl:Int) (d0:0≤dst) (d1:dst≤15) (s0:0≤src) (s1:src≤15) (b0:0≤base) (b1:base≤15) (hm:bL 30 w dst src base af ai Tl=true):aQ Zy 111 ([.agg (eV m),xD 30 w dst src base af ai Tl]) (.aL [av m.q4,aq 8,ax true]):=by
 have c0:= @bg (30) (w) (dst) (src) (base) (af) (ai) (Tl) (by first|rfl|decide)
 exact (aQ.aj (d:= .aL [av m.q4,aq 8,ax true]) mixed Tryz.func111 (by kernel_rfl) [aw c0,tC (nt hm),tT]).to (by first|((simp only [wk,a7,eJ];repeat' (first|rfl|exact True.intro|apply And.intro));done)|(simp [wk,a7,u64,];done))
theorem A8 (m:au) (op w dst src base af ai Tl:Int) (ho:op≤127) (n1:(op==26)=false) (n2:(op==27)=false) (n3:(op==30)=false) (hm:bL op w dst src base af ai Tl=true):aQ Zy 111 ([.agg (eV m),xD op w dst src base af ai Tl]) (.aL [av 0,aq 0,ax false]):=by
 have c0:= @bg (op) (w) (dst) (src) (base) (af) (ai) (Tl) ho
 exact (aQ.aj (d:= .aL [av 0,aq 0,ax false]) mixed Tryz.func111 (by kernel_rfl) [aw c0,tC (nt hm),tC n3,tC n1,tC n2]).to (by first|((simp only [wk,a7,eJ];repeat' (first|rfl|exact True.intro|apply And.intro));done)|(simp [wk,a7,u64,];done))
theorem Ih (m:au) (w dst src base af ai Tl:Int) (d0:0≤dst) (d1:dst≤15) (s0:0≤src) (s1:src≤15) (b0:0≤base) (b1:base≤15) (w0:aU w=true) (hm:bL 27 w dst src base af ai Tl=true):aQ Zy 114 ([.agg (eV m),xD 27 w dst src base af ai Tl]) (av (aJ (rg m.rl src) w)):=by
 have c0:= @bg (27) (w) (dst) (src) (base) (af) (ai) (Tl) (by first|rfl|decide)
 have c1:= @cG (rg m.rl src) (w)
 exact (aQ.aj (d:= .int .u64 (aJ (rg m.rl src) w)) mixed Tryz.func114 (by kernel_rfl) [tT,tT,aw c0,tT,tF,tC (nt hm),.cM (decide (0≤src∧src<(↑(16:Nat):Int))) true (by ((try simp only [dh,bw,aX,bZ,bX,cJ,cF,lO,gp,bne_eq_false_iff_eq,Z8,aai,ZD,ZV] at*);omega)),.get _ _ _ (@bl (m) (src) ([ax m.fk,ax m.fc,ax m.fz,ax m.fs,ax m.fo,av m.pc]) s0 s1),aw c1]).to (by first|((simp only [wk,a7,eJ];repeat' (first|rfl|exact True.intro|apply And.intro));done)|(simp [wk,a7,u64,];done))
theorem Nt (m:au):aQ Zy 144 ([.agg (eV m)]) (.aL [aq (kL m.q0),ax (qO m.q0)]):=by
 rcases Z2 (decide (au.q0 m<16)) with h0|h0
 ·exact (aQ.aj (d:= .aL [aq (aaY.i64.wrap m.q0),ax true]) mixed Tryz.func144 (by kernel_rfl) [tC (bK 16 h0)]).to (by first|exact xK h0|exact xL h0)
 ·exact (aQ.aj (d:= .aL [aq 0,ax false]) mixed Tryz.func144 (by kernel_rfl) [tC (bK 16 h0)]).to (by first|exact xK h0|exact xL h0)
theorem K1 (num:Int) (h0:0≤num) (h1:num≤15):aQ Zy 162 ([aq num]) (aq (Int.tmod num 6)):=(aQ.aj (d:= .int .i64 (Int.tmod num 6)) mixed Tryz.func162 (by kernel_rfl) ([aO]++Zx 3 (tC (eT (bK 0 (bM (ZH.2 h0)))))++ [tC (bK 0 (bM (ZH.2 h0))),tC (nt (eH 15 (cq (ZC h1))))])).to (by simp [wk,a7,cH])
theorem AI (num:Int) (h0:num<0):aQ Zy 162 ([aq num]) (aq 0):=(aQ.aj (d:= .int .i64 0) mixed Tryz.func162 (by kernel_rfl) ([aO]++Zx 3 (tC (eT (bK 0 (cq h0))))++ [tC (bK 0 (cq h0)),tT])).to (by simp [wk,a7,cH])
theorem AJ (num:Int) (h0:15<num):aQ Zy 162 ([aq num]) (aq 0):=(aQ.aj (d:= .int .i64 0) mixed Tryz.func162 (by kernel_rfl) ([aO]++Zx 3 (tC (eT (bK 0 (lz 0 (bM (by omega:¬num<16))))))++ [tC (bK 0 (lz 0 (bM (by omega:¬num<16)))),tC (nt (eH 15 (bM (by omega:¬num<16))))])).to (by simp [wk,a7,cH])
theorem DF (m:au) (v:Int) (hn:aQ Zy 144 [.agg (eV m)] (.aL [aq v,ax true])) (ha:aQ Zy 162 [aq v] (aq 0)):aQ Zy 145 ([.agg (eV m)]) (.bc .tight 0 []):=(aQ.aj (d:= .bc .tight 0 []) mixed Tryz.func145 (by kernel_rfl) [aw hn,tF,aw ha,tT,.go 64,tF]).to (by simp [wk,a7,cH])
theorem DE (m:au) (v:Int) (hn:aQ Zy 144 [.agg (eV m)] (.aL [aq v,ax true])) (ha:aQ Zy 162 [aq v] (aq 1)):aQ Zy 145 ([.agg (eV m)]) (.bc (.fresh 1) 1 [av m.q7]):=(aQ.aj (d:= .bc (.fresh 1) 1 [av m.q7]) mixed Tryz.func145 (by kernel_rfl) [aw hn,tF,aw ha,tT,.go 64,tT,tT,tT,.len (1) (2147483648) (by first|decide|omega|(simp;omega)),tF]).to (by simp [wk,a7,cH])
theorem DD (m:au) (v:Int) (hn:aQ Zy 144 [.agg (eV m)] (.aL [aq v,ax true])) (ha:aQ Zy 162 [aq v] (aq 2)):aQ Zy 145 ([.agg (eV m)]) (.bc (.fresh 1) 1 [av m.q7,av m.q6]):=(aQ.aj (d:= .bc (.fresh 1) 1 [av m.q7,av m.q6]) mixed Tryz.func145 (by kernel_rfl) ([aw hn,tF,aw ha,tT,.go 64,tT,tT,tT,.len (1) (2147483648) (by first|decide|omega|(simp;omega)),tT,tT,tT]++ [.len (2) (2147483648) (by first|decide|omega|(simp;omega)),tF])).to (by simp [wk,a7,cH])
theorem DC (m:au) (v:Int) (hn:aQ Zy 144 [.agg (eV m)] (.aL [aq v,ax true])) (ha:aQ Zy 162 [aq v] (aq 3)):aQ Zy 145 ([.agg (eV m)]) (.bc (.fresh 1) 1 [av m.q7,av m.q6,av m.q2]):=(aQ.aj (d:= .bc (.fresh 1) 1 [av m.q7,av m.q6,av m.q2]) mixed Tryz.func145 (by kernel_rfl) ([aw hn,tF,aw ha,tT,.go 64,tT,tT,tT,.len (1) (2147483648) (by first|decide|omega|(simp;omega)),tT,tT,tT]++ [.len (2) (2147483648) (by first|decide|omega|(simp;omega)),tT,tT,tT,.len (3) (2147483648) (by first|decide|omega|(simp;omega)),tF])).to (by simp [wk,a7,cH])
theorem DB (m:au) (v:Int) (hn:aQ Zy 144 [.agg (eV m)] (.aL [aq v,ax true])) (ha:aQ Zy 162 [aq v] (aq 4)):aQ Zy 145 ([.agg (eV m)]) (.bc (.fresh 1) 1 [av m.q7,av m.q6,av m.q2,av m.de]):=(aQ.aj (d:= .bc (.fresh 1) 1 [av m.q7,av m.q6,av m.q2,av m.de]) mixed Tryz.func145 (by kernel_rfl) ([aw hn,tF,aw ha,tT,.go 64,tT,tT,tT,.len (1) (2147483648) (by first|decide|omega|(simp;omega)),tT,tT,tT]++ [.len (2) (2147483648) (by first|decide|omega|(simp;omega)),tT,tT,tT,.len (3) (2147483648) (by first|decide|omega|(simp;omega)),tT,tT,tT,.len (4) (2147483648) (by first|decide|omega|(simp;omega)),tF])).to (by simp [wk,a7,cH])
theorem DA (m:au) (v:Int) (hn:aQ Zy 144 [.agg (eV m)] (.aL [aq v,ax true])) (ha:aQ Zy 162 [aq v] (aq 5)):aQ Zy 145 ([.agg (eV m)]) (.bc (.fresh 1) 1 [av m.q7,av m.q6,av m.q2,av m.de,av m.q8]):=(aQ.aj (d:= .bc (.fresh 1) 1 [av m.q7,av m.q6,av m.q2,av m.de,av m.q8]) mixed Tryz.func145 (by kernel_rfl) ([aw hn,tF,aw ha,tT,.go 64,tT,tT,tT,.len (1) (2147483648) (by first|decide|omega|(simp;omega)),tT,tT,tT]++ [.len (2) (2147483648) (by first|decide|omega|(simp;omega)),tT,tT,tT,.len (3) (2147483648) (by first|decide|omega|(simp;omega)),tT,tT,tT,.len (4) (2147483648) (by first|decide|omega|(simp;omega)),tT,tT]++ [tT,.len (5) (2147483648) (by first|decide|omega|(simp;omega)),tF])).to (by simp [wk,a7,cH])
theorem OS (l:List Int) (k:Nat) (w:Int) (j:Nat) (h:k+j<l.length):nY (FM (bD l) k w j) (k+j) [ay (aaY.u8.wrap (w.fdiv (256^j)))] (FM (bD l) k w (j+1)):=by
 rw [FM,Nat.mul_one]
 exact EK (by rw [El,aG];omega)
abbrev RG (nc nx i:Nat) (B:Int) (id L:Nat):Prop:=(i=0∧B=1048576∧id=4∧nc=L)∨(i=3∧B=2097152∧id=7∧nx=L)∨(i=6∧B=3145728∧id=8∧L=64)∨(i=9∧B=4194304∧id=9∧L=264)
def Ms (nc nx:Nat) (w:Bool) (a n:Int):Option (Nat×Int):=if je 1048576 nc a n=true∧w=false then some (4,1048576) else if je 2097152 nx a n=true then some (7,2097152) else if je 3145728 64 a n=true then some (8,3145728) else if je 4194304 264 a n=true then some (9,4194304) else none
abbrev kN (n:Int):Nat:=if n=1 then 0 else if n=2 then 3 else if n=4 then 6 else 9
abbrev pN {P:Program} {g:FuncId} {x y d:D} {n:Int} {s s':List Ob} (h:ao P g [x,y,aq n] s d s'):List (Ev P):=tF::(Zx (kN n) tT++(Zx (10 - kN n) tF++ [.go 64,tT,tT,.aI _ _ _ _ _ h]))
abbrev rN {P:Program} :List (Ev P):=Zx 8 tF++ [tT,tT]
abbrev cN {P:Program} :List (Ev P):=Zx 8 tT++ [tF,tT,tF,tT,tT]
abbrev yN {P:Program} :List (Ev P):=Zx 5 tT++ [tF,tF,tT,tT,tT,tT]
section
variable (o0:Ob) (cc cx fr st:List D) (nc nx:Nat) (Ub:nc≤16384) (Vf:nx≤256) (a n:Int)
include Ub Vf
theorem yw {i:Nat} {B:Int} {id L:Nat} (h:RG nc nx i B id L) (n0:1≤n) (n8:n≤8):ao Zy 109 [.ptr true 1 i,av a,aq n] (L6 o0 nc nx cc cx fr st) (if je B L a n=true then .aL [.sub id (mG B a) 1 n.toNat (some n.toNat),ax true] else .aL [.bc .tight 0 [],ax false]) (L6 o0 nc nx cc cx fr st):=by
 have hl:L≤16384:=by omega
 have hB:0≤aaY.u64.wrap (a - B):=by rw [bZ];omega
 cases hi:je B L a n with
 |true=>
  obtain ⟨a0,a1,a2⟩:=N6 hi
  rw [if_pos rfl]
  unfold mG
  refine ao.cast ?_ (PG (id:=id) (len:=L) n0 n8 hl a1 a2) rfl
  have k0:decide (a<B)=false:=bM (by omega)
  have k1:decide (aaY.u64.wrap (a - B)>aaY.u64.wrap (L:Int))=false:=by rw [bZ (L:Int)];exact bM (by omega)
  have k2:decide (aaY.u64.wrap (aaY.u64.wrap (L:Int) - aaY.u64.wrap (a - B))<aaY.u64.wrap n)=false:=by rw [bZ (L:Int),bZ n];generalize aaY.u64.wrap (a - B)=z at*;rw [bZ];exact bM (by omega)
  have k3:decide (0≤aaY.u64.wrap (a - B)∧aaY.u64.wrap (a - B)≤aaY.i64.wrap (aaY.i64.wrap (aaY.u64.wrap (a - B))+n)∧aaY.i64.wrap (aaY.i64.wrap (aaY.u64.wrap (a - B))+n)≤aaY.i64.wrap (aaY.i64.wrap (aaY.u64.wrap (a - B))+n)∧aaY.i64.wrap (aaY.i64.wrap (aaY.u64.wrap (a - B))+n)≤(L:Int))=true:=by generalize aaY.u64.wrap (a - B)=z at*;rw [aX,aX];exact cq (by omega)
  rcases h with ⟨rfl,rfl,rfl,rfl⟩|⟨rfl,rfl,rfl,rfl⟩|⟨rfl,rfl,rfl,rfl⟩|⟨rfl,rfl,rfl,rfl⟩<;>exact ao.aj (aV:=ZL 10) mixed (Zx 8 (tC (eF k0))++tC k0::(Zx 11 (tC (eF k1))++ [tC k1,tC k2,.cM _ true k3])) (by kernel_rfl)
 |false=>
  rw [if_neg (by decide)]
  by_cases p:a<B
  ·have k0:decide (a<B)=true:=cq p
   rcases h with ⟨rfl,rfl,rfl,rfl⟩|⟨rfl,rfl,rfl,rfl⟩|⟨rfl,rfl,rfl,rfl⟩|⟨rfl,rfl,rfl,rfl⟩<;>exact ao.aj (aV:=ZL 10) mixed (Zx 8 (tC (eF k0))++tC k0::(Zx 11 tF++ [tT,tT])) (by kernel_rfl)
  have k0:decide (a<B)=false:=bM p
  by_cases p1:aaY.u64.wrap (a - B)>aaY.u64.wrap (L:Int)
  ·have k1:=cq p1
   rcases h with ⟨rfl,rfl,rfl,rfl⟩|⟨rfl,rfl,rfl,rfl⟩|⟨rfl,rfl,rfl,rfl⟩|⟨rfl,rfl,rfl,rfl⟩<;>exact ao.aj (aV:=ZL 10) mixed (Zx 8 (tC (eF k0))++tC k0::(Zx 11 (tC (eF k1))++ [tC k1,tT])) (by kernel_rfl)
  have k1:=bM p1
  have k2:decide (aaY.u64.wrap (aaY.u64.wrap (L:Int) - aaY.u64.wrap (a - B))<aaY.u64.wrap n)=true:=by
   rcases Qt hi with q|q|q
   ·omega
   ·rw [bZ (L:Int)] at p1;omega
   ·rw [bZ (L:Int)] at p1 ⊢;rw [bZ n];generalize aaY.u64.wrap (a - B)=z at*;rw [bZ];exact cq (by omega)
  rcases h with ⟨rfl,rfl,rfl,rfl⟩|⟨rfl,rfl,rfl,rfl⟩|⟨rfl,rfl,rfl,rfl⟩|⟨rfl,rfl,rfl,rfl⟩<;>exact ao.aj (aV:=ZL 10) mixed (Zx 8 (tC (eF k0))++tC k0::(Zx 11 (tC (eF k1))++ [tC k1,tC k2])) (by kernel_rfl)
theorem FJ (w:Bool) (hn:n=1∨n=2∨n=4∨n=8):ao Zy 146 [.ptr false 1 0,av a,aq n,ax w] (L6 o0 nc nx cc cx fr st) (match Ms nc nx w a n with|some (id,B)=> .aL [.sub id (mG B a) 1 n.toNat (some n.toNat),aq 0]|none=> .aL [.bc .tight 0 [],aq 20]) (L6 o0 nc nx cc cx fr st):=by
 have h0:=yw o0 cc cx fr st nc nx Ub Vf a n (.inl ⟨rfl,rfl,rfl,rfl⟩) (by omega) (by omega)
 have h1:=yw o0 cc cx fr st nc nx Ub Vf a n (.inr (.inl ⟨rfl,rfl,rfl,rfl⟩)) (by omega) (by omega)
 have h2:=yw o0 cc cx fr st nc nx Ub Vf a n (.inr (.inr (.inl ⟨rfl,rfl,rfl,rfl⟩))) (by omega) (by omega)
 have h3:=yw o0 cc cx fr st nc nx Ub Vf a n (.inr (.inr (.inr ⟨rfl,rfl,rfl,rfl⟩))) (by omega) (by omega)
 unfold Ms
 by_cases b0:je 1048576 nc a n=true∧w=false
 ·rw [if_pos b0]
  rw [if_pos b0.1] at h0
  obtain ⟨_,rfl⟩:=b0
  rcases hn with rfl|rfl|rfl|rfl<;>exact ao.aj (aV:=ZL 10) mixed (pN h0++(Zx 8 tT++ [tF,tT,tT])) (by kernel_rfl)
 rw [if_neg b0]
 obtain ⟨e0,VP⟩:∃e0:Bool,je 1048576 nc a n=e0:=⟨_,rfl⟩
 rw [VP] at h0 b0
 have hw:e0=true→w=true:=fun h=>by cases w with|true=>rfl|false=>exact absurd ⟨h,rfl⟩ b0
 clear b0 VP
 cases WT:je 2097152 nx a n with
 |true=>
  rw [WT] at h1
  rw [if_pos rfl]
  cases e0 with
  |true=>cases hw rfl;rcases hn with rfl|rfl|rfl|rfl<;>exact ao.aj (aV:=ZL 10) mixed (pN h0++(cN++ .aI _ _ _ _ _ h1::yN)) (by kernel_rfl)
  |false=>rcases hn with rfl|rfl|rfl|rfl<;>exact ao.aj (aV:=ZL 10) mixed (pN h0++(rN++ .aI _ _ _ _ _ h1::yN)) (by kernel_rfl)
 |false=>
 rw [WT] at h1
 rw [if_neg (by decide)]
 cases W2:je 3145728 64 a n with
 |true=>
  rw [W2] at h2
  rw [if_pos rfl]
  cases e0 with
  |true=>cases hw rfl;rcases hn with rfl|rfl|rfl|rfl<;>exact ao.aj (aV:=ZL 10) mixed (pN h0++(cN++ .aI _ _ _ _ _ h1::(rN++ .aI _ _ _ _ _ h2::yN))) (by kernel_rfl)
  |false=>rcases hn with rfl|rfl|rfl|rfl<;>exact ao.aj (aV:=ZL 10) mixed (pN h0++(rN++ .aI _ _ _ _ _ h1::(rN++ .aI _ _ _ _ _ h2::yN))) (by kernel_rfl)
 |false=>
 rw [W2] at h2
 rw [if_neg (by decide)]
 cases h3':je 4194304 264 a n with
 |true=>
  rw [h3'] at h3
  rw [if_pos rfl]
  cases e0 with
  |true=>cases hw rfl;rcases hn with rfl|rfl|rfl|rfl<;>exact ao.aj (aV:=ZL 10) mixed (pN h0++(cN++ .aI _ _ _ _ _ h1::(rN++ .aI _ _ _ _ _ h2::(rN++ .aI _ _ _ _ _ h3::yN)))) (by kernel_rfl)
  |false=>rcases hn with rfl|rfl|rfl|rfl<;>exact ao.aj (aV:=ZL 10) mixed (pN h0++(rN++ .aI _ _ _ _ _ h1::(rN++ .aI _ _ _ _ _ h2::(rN++ .aI _ _ _ _ _ h3::yN)))) (by kernel_rfl)
 |false=>
 rw [h3'] at h3
 rw [if_neg (by decide)]
 cases e0 with
 |true=>cases hw rfl;rcases hn with rfl|rfl|rfl|rfl<;>exact ao.aj (aV:=ZL 10) mixed (pN h0++(cN++ .aI _ _ _ _ _ h1::(rN++ .aI _ _ _ _ _ h2::(rN++ .aI _ _ _ _ _ h3::Zx 9 tF)))) (by kernel_rfl)
 |false=>rcases hn with rfl|rfl|rfl|rfl<;>exact ao.aj (aV:=ZL 10) mixed (pN h0++(rN++ .aI _ _ _ _ _ h1::(rN++ .aI _ _ _ _ _ h2::(rN++ .aI _ _ _ _ _ h3::Zx 9 tF)))) (by kernel_rfl)
end
end Go.Proofs.YtbfpahigdpigpaaGreat
namespace Go.Ev
open Go Go.RowKit
def lP.rn (f:Nat→Nat):lP→lP
  | .tok t v=> .tok (f t) v
  |o=>o
mutual
def D.rn (f:Nat→Nat):D→D
  | .ptr q id off=> .ptr q (f id) off
  | .gw id=> .gw (f id)
  | .jM id=> .jM (f id)
  | .dz id sz n=> .dz (f id) sz n
  | .sub id off sz n c=> .sub (f id) off sz n c
  | .bc o sz xs=> .bc (o.rn f) sz xs
  | .agg cs=> .agg (D.jN f cs)
  | .aL cs=> .aL (D.jN f cs)
  | .fn g a b=> .fn g (D.jN f a) (D.jN f b)
  |d=>d
def D.jN (f:Nat→Nat):List D→List D
  | []=> []
  |d::r=>d.rn f::D.jN f r
end
theorem D.iI (f:Nat→Nat) (l:List D):D.jN f l=l.map (D.rn f):=by
 induction l with
 |nil=>simp [D.jN]
 |cons d r ih=>simp [D.jN,ih]
def Ob.rn (f:Nat→Nat):Ob→Ob
  | .box cs=> .box (D.jN f cs)
  | .lp k t ps ag bd=> .lp k (D.jN f t) ps ag bd
  |o=>o
def MM.pull (M:MM) (f:Nat→Nat):MM:=⟨M.cell,fun i=>M.box (f i),fun i v=>M.b9 (f i) v,M.fW⟩
theorem cj.push {M:MM} {d:D} {v:Value} (h:cj M d v) (f:Nat→Nat):∀ {M':MM},(∀b o v,M.cell b o=some v→M'.cell b o=some v)→(∀id b,M.box id=some b→M'.box (f id)=some b)→(∀t v x,M.b9 t v=some x→M'.b9 (f t) v=some x)→cj M' (d.rn f) v:=by
 induction h with
 |undef v=>intro _ _ _ _;rw [D.rn];exact .undef v;all_goals (intros;contradiction)
 |int k n=>intro _ _ _ _;exact .int k n
 |bool b=>intro _ _ _ _;exact .bool b
 |str s=>intro _ _ _ _;exact .str s
 |gA=>intro _ _ _ _;exact .gA
 |ptr q h=>intro _ _ hb _;exact .ptr q (hb _ _ h)
 |eY q vs hx hc hr ih=>
  intro _ c _ _
  exact .eY q vs hx (fun j x h=>c _ _ _ (hc j x h)) (fun j x h=>(hr j x h).mono ⟨c,fun _ _ y=>y,fun _ _ _ y=>y,fun _ y=>y⟩)
 |gw h=>intro _ _ hb _;exact .gw (hb _ _ h)
 |jM h=>intro _ _ hb _;exact .jM (hb _ _ h)
 |dz h hh hc=>intro _ _ hb hs;exact .dz (hb _ _ h) (hs _ _ _ hh) hc
 |sub h hc hp ho=>intro _ _ hb _;exact .sub (hb _ _ h) hc hp ho
 |bc b off vs hl Tm ha Tw hc hr Ty ho ih=>
  rename_i o _ _ _ _ _
  intro _ c _ hs
  refine .bc b off vs hl Tm ha Tw (fun i x cs j y h1 h2 h3=>c _ _ _ (hc i x cs j y h1 h2 h3)) (fun i x cs j y h1 h2 h3=>(hr i x cs j y h1 h2 h3).mono ⟨c,fun _ _ y=>y,fun _ _ _ y=>y,fun _ y=>y⟩) Ty ?_
  cases o with
  |tok t v=>exact hs _ _ _ ho
  |_=>exact ho
 |cg=>intro _ _ _ _;exact .cg
 |fn h1 h2 r1 r2 i1 i2=>
  intro _ c hb hs
  rw [D.rn,D.iI,D.iI]
  refine .fn (by simpa using h1) (by simpa using h2) ?_ ?_
  ·intro i d v a b
   rw [ZU,ZS] at a
   obtain ⟨d0,h0,rfl⟩:=a
   exact i1 i d0 v h0 b c hb hs
  ·intro i d v a b
   rw [ZU,ZS] at a
   obtain ⟨d0,h0,rfl⟩:=a
   exact i2 i d0 v h0 b c hb hs
 |agg h r ih=>
  intro _ c hb hs
  rw [D.rn,D.iI]
  refine .agg (by simpa using h) ?_
  intro i d v a b
  rw [ZU,ZS] at a
  obtain ⟨d0,h0,rfl⟩:=a
  exact ih i d0 v h0 b c hb hs
 |aL h r ih=>
  intro _ c hb hs
  rw [D.rn,D.iI]
  refine .aL (by simpa using h) ?_
  intro i d v a b
  rw [ZU,ZS] at a
  obtain ⟨d0,h0,rfl⟩:=a
  exact ih i d0 v h0 b c hb hs
mutual
theorem cj.pull (M:MM) (f:Nat→Nat):∀(d:D) (v:Value),cj M (d.rn f) v→cj (M.pull f) d v
  | .undef,v,_=> .undef v
  | .int k n,_,h=>by cases h;exact .int k n
  | .bool b,_,h=>by cases h;exact .bool b
  | .str s,_,h=>by cases h;exact .str s
  | .gA,_,h=>by cases h;exact .gA
  | .cg,_,h=>by cases h;exact .cg
  | .ptr q id off,_,h=>by cases h with|ptr _ h=>exact .ptr q h
  | .eY q x off,_,h=>by cases h with|eY _ vs hx hc hr=>exact .eY q vs hx hc hr
  | .gw id,_,h=>by cases h with|gw h=>exact .gw h
  | .jM id,_,h=>by cases h with|jM h=>exact .jM h
  | .dz id sz n,_,h=>by cases h with|dz h hh hc=>exact .dz h hh hc
  | .sub id off sz n c,_,h=>by cases h with|sub h hc hp ho=>exact .sub h hc hp ho
  | .bc o sz xs,_,h=>by
    cases h with
    |bc b off vs hl Tm ha Tw hc hr Ty ho=>
      refine .bc b off vs hl Tm ha Tw hc hr Ty ?_
      cases o with
      |tok t v=>exact ho
      |_=>exact ho
  | .fn g a b,_,h=>by
    rw [D.rn,D.iI,D.iI] at h
    cases h with
    |fn h1 h2 r1 r2=>
      exact .fn (by simpa using h1) (by simpa using h2) (fun i d v x y=>cj.Ao M f a i d v x (r1 i (d.rn f) v (by rw [ZU,x];rfl) y)) (fun i d v x y=>cj.Ao M f b i d v x (r2 i (d.rn f) v (by rw [ZU,x];rfl) y))
  | .agg cs,_,h=>by
    rw [D.rn,D.iI] at h
    cases h with
    |agg h1 r=>exact .agg (by simpa using h1) (fun i d v x y=>cj.Ao M f cs i d v x (r i (d.rn f) v (by rw [ZU,x];rfl) y))
  | .aL cs,_,h=>by
    rw [D.rn,D.iI] at h
    cases h with
    |aL h1 r=>exact .aL (by simpa using h1) (fun i d v x y=>cj.Ao M f cs i d v x (r i (d.rn f) v (by rw [ZU,x];rfl) y))
theorem cj.Ao (M:MM) (f:Nat→Nat):∀(l:List D) (i:Nat) (d:D) (v:Value),l[i]? =some d→cj M (d.rn f) v→cj (M.pull f) d v
  | [],i,d,v,h,_=>by simp at h
  |x::r,0,d,v,h,k=>by
    simp at h
    subst h
    exact cj.pull M f x v k
  |x::r,i+1,d,v,h,k=>cj.Ao M f r i d v (by simpa using h) k
end
theorem cA.pull {M:MM} {f:Nat→Nat} {l:List D} {vs:Array Value} (h:cA M (D.jN f l) vs):cA (M.pull f) l vs:=by
 rw [D.iI] at h
 exact ⟨by simpa using h.1,fun i d v a b=>cj.pull M f d v (h.2 i (d.rn f) v (by rw [ZU,a];rfl) b)⟩
theorem cA.push {M M':MM} {f:Nat→Nat} {l:List D} {vs:Array Value} (h:cA M l vs) (c:∀b o v,M.cell b o=some v→M'.cell b o=some v) (hb:∀id b,M.box id=some b→M'.box (f id)=some b) (hs:∀t v x,M.b9 t v=some x→M'.b9 (f t) v=some x):cA M' (D.jN f l) vs:=by
 rw [D.iI]
 refine ⟨by simpa using h.1,fun i d v a b=> ?_⟩
 rw [ZU,ZS] at a
 obtain ⟨d0,h0,rfl⟩:=a
 exact (h.2 i d0 v h0 b).push f c hb hs
def gE (tb:List Nat) (n i:Nat):Nat:=if i<tb.length then tb.getD i 0 else n+(i - tb.length)
def pM (tb:List Nat) (n j:Nat):Option Nat:=if j<n then tb.idxOf? j else some (tb.length+(j - n))
def Gi (tb:List Nat) (n:Nat) (s:List Ob):List Ob→Nat→List Ob
  | [],_=> []
  |x::t,j=>(match tb.idxOf? j with|some i=>(s.getD i .dead).rn (gE tb n)|none=>x)::Gi tb n s t (j+1)
def tZ (tb:List Nat) (t s:List Ob):List Ob:=Gi tb t.length s t 0++(s.drop tb.length).map (Ob.rn (gE tb t.length))
theorem wq (tb:List Nat) (n:Nat) (s:List Ob):∀t j,(Gi tb n s t j).length=t.length
 | [],_=>rfl
 |_::t,j=>by rw [Gi,ZZ,wq tb n s t (j+1),ZZ]
theorem EB (tb:List Nat) (n:Nat) (s:List Ob):∀t j i,i<t.length→(Gi tb n s t j)[i]? =some (match tb.idxOf? (j+i) with|some i=>(s.getD i .dead).rn (gE tb n)|none=>t.getD i .dead)
 | [],_,_,h=>by simp at h
 |x::t,j,0,_=>by rw [Gi];rfl
 |x::t,j,i+1,h=>by
  rw [Gi,List.getElem?_cons_succ,EB tb n s t (j+1) i (by simpa using h),show j+1+i=j+(i+1) by omega]
  rfl
theorem wm (tb:List Nat) (t s:List Ob):(tZ tb t s).length=t.length+(s.length - tb.length):=by
 rw [tZ,List.length_append,wq,List.length_map,List.length_drop]
theorem JH (tb:List Nat) (t s:List Ob) (j:Nat):bP (tZ tb t s) j=match pM tb t.length j with|some i=>(bP s i).rn (gE tb t.length)|none=>bP t j:=by
 unfold bP tZ pM
 rw [ZF,List.getElem?_append,wq]
 by_cases h:j<t.length
 ·rw [if_pos h,if_pos h,EB tb _ s t 0 j h,Nat.zero_add]
  rfl
 ·rw [if_neg h,if_neg h,ZU,List.getElem?_drop]
  simp only [ZF]
  cases s[tb.length+(j - t.length)]? <;>rfl
theorem Ov (tb:List Nat) (n:Nat) (hd:tb.Nodup) (hb:∀x∈tb,x<n) (i:Nat):pM tb n (gE tb n i)=some i:=by
 unfold pM gE
 by_cases h:i<tb.length
 ·rw [if_pos h,ZF,aag h]
  simp only [Option.getD_some]
  rw [if_pos (hb _ (List.getElem_mem h)),List.idxOf?_eq_some_iff]
  refine ⟨h,rfl,fun j hj e=> ?_⟩
  have hp:=List.pairwise_iff_getElem.mp hd j i (by omega) h hj
  exact hp e
 ·rw [if_neg h,if_neg (by omega)]
  congr 1
  omega
theorem Mq (tb:List Nat) (n:Nat) (j i:Nat) (h:pM tb n j=some i):gE tb n i=j:=by
 unfold pM at h
 unfold gE
 split at h
 ·rw [List.idxOf?_eq_some_iff] at h
  obtain ⟨h1,h2,_⟩:=h
  rw [if_pos h1,ZF,aag h1]
  exact h2
 ·simp only [Option.some.injEq] at h
  subst h
  rw [if_neg (by omega)]
  omega
theorem Ob.Ox {f:Nat→Nat} {o:Ob} {cs:List D} (h:o.rn f= .box cs):∃c,o= .box c∧cs=D.jN f c:=by
 cases o<;>simp [Ob.rn] at h
 exact ⟨_,rfl,h.symm⟩
theorem Ob.Ow {f:Nat→Nat} {o:Ob} {v z:Nat} (h:o.rn f= .ey v z):o= .ey v z:=by
 cases o<;>simp [Ob.rn] at h
 obtain ⟨rfl,rfl⟩:=h
 rfl
theorem Ob.EA {f:Nat→Nat} {o:Ob} :(o.rn f).CN=o.CN:=by cases o<;>rfl
theorem Ob.P4 {f:Nat→Nat} {o:Ob} {k:Lk} {t:List D} {ps:Array Nat} {ag bd:Code} (h:o.rn f= .lp k t ps ag bd):∃t0,o= .lp k t0 ps ag bd∧t=D.jN f t0:=by
 cases o<;>simp [Ob.rn] at h
 obtain ⟨rfl,rfl,rfl,rfl,rfl⟩:=h
 exact ⟨_,rfl,rfl⟩
theorem ao.rn {P:Program} {g:FuncId} {args:List D} {s:List Ob} {d:D} {s':List Ob} (h:ao P g args s d s') (tb:List Nat) (t:List Ob) (hl:s.length=tb.length) (hd:tb.Nodup) (hb:∀x∈tb,x<t.length) (ht:tZ tb t s=t):
  ao P g (D.jN (gE tb t.length) args) t (d.rn (gE tb t.length)) (tZ tb t s'):=by
 have kf:=Ov tb t.length hd hb
 have fk:=Mq tb t.length
 have VH:=JH tb t s'
 have XY:∀i,bP t (gE tb t.length i)=(bP s i).rn (gE tb t.length):=fun i=>by
  have:=JH tb t s (gE tb t.length i)
  rw [ht,kf] at this
  exact this
 have Zp:∀i,tb.length≤i→gE tb t.length i=t.length+(i - tb.length):=fun i hi=>by rw [gE,if_neg (by omega)]
 have hlen:=h.len
 refine ⟨h.Ij,by rw [wm];omega,fun w0 M own w vs hw hu hr=> ?_⟩
 let X1:Nat→Prop:=fun b=>w0.X b∨∃j,own b=some j∧pM tb t.length j=none∧¬M.fW b
 let w1:eW:=⟨w,M.cell,X1⟩
 have hX:∀b,X1 b→b<w.heap.size:=by
  rintro b (q|⟨j,q,_⟩)
  ·exact hw.below.PS q
  ·exact hw.owned b j q
 have bs:∀b i,¬w0.X b→own b=some (gE tb t.length i)→¬X1 b:=by
  rintro b i q e (k|⟨j,k1,k2,_⟩)
  ·exact q k
  ·rw [e,Option.some.injEq] at k1
   rw [← k1,kf] at k2
   cases k2
 have Wo:cn w1 (M.pull (gE tb t.length)) (fun b=>(own b).bind (pM tb t.length)) (bP s) w:=by
  have ow:∀b i,own b=some (gE tb t.length i)→(own b).bind (pM tb t.length)=some i:=fun b i e=>by rw [e];exact kf i
  refine ⟨⟨rfl,rfl,rfl,Nat.le_refl _,fun _ _=>rfl,hX⟩,hw.cells,fun b o v q _=>q,?_,?_,?_,?_,?_,fun b q=>⟨?_,(hw.fW b q).2⟩⟩
  ·intro b id e
   rw [Option.bind_eq_some_iff] at e
   obtain ⟨j,e1,_⟩:=e
   exact hw.owned b j e1
  ·intro id cs e
   obtain ⟨b,vs,ty,q⟩:=hw.box (gE tb t.length id) _ (by rw [XY,e];rfl)
   refine ⟨b,vs,ty,q.box,bs _ _ q.base q.own,ow _ _ q.own,q.none,q.dQ,by simpa [D.iI] using q.len,fun i d v a c=>cj.pull M _ d v (q.rep i _ v (by rw [D.iI,ZU,a];rfl) c),fun sz a len cap c=>q.room sz a len cap c⟩
  ·intro id ver sz e
   obtain ⟨a,len,cap,q⟩:=hw.ey (gE tb t.length id) ver sz (by rw [XY,e];rfl)
   refine ⟨a,len,cap,q.b9,q.last,q.room.imp (fun x=>x) fun ⟨b,vs,ty,fz,ha,r⟩=>⟨b,vs,ty,fz,ha,bs _ _ r.base r.own,ow _ _ r.own,r.dQ,r.fz,r.cap,r.none⟩⟩
  ·intro id F e
   obtain ⟨b,Tt,clock,q⟩:=hw.mp (gE tb t.length id) F (by rw [XY,Ob.EA,e])
   exact ⟨b,Tt,clock,q.box,bs _ _ q.base q.own,ow _ _ q.own,q.none,q.dQ,q.fits⟩
  ·intro id k tt ps ag bd e
   obtain ⟨l,r,q⟩:=hw.lp (gE tb t.length id) k _ ps ag bd (by rw [XY,e];rfl)
   exact ⟨l,r,q.box,bs _ _ q.base q.own,ow _ _ q.own,q.dQ,q.st,q.pd,q.tm.pull,q.ps,q.ag,q.bd⟩
  ·rintro (k|⟨j,_,_,k⟩)
   ·exact (hw.fW b q).1 k
   ·exact k q
 have Zb:(M.pull (gE tb t.length)).upto s.length:=by
  constructor
  ·intro id hi
   exact hu.1 _ (by rw [Zp id (by omega)];omega)
  ·intro id v hi
   exact hu.2 _ v (by rw [Zp id (by omega)];omega)
 refine Calls.mono (h.run w1 _ _ w vs Wo Zb hr.pull) ?_
 rintro e w' ⟨v,M',Tj,rfl,q1,q2,q3,q4⟩
 let M2:MM:=⟨M'.cell,fun j=>match pM tb t.length j with|some i=>M'.box i|none=>M.box j,fun j v=>match pM tb t.length j with|some i=>M'.b9 i v|none=>M.b9 j v,M'.fW⟩
 have e1:∀i,M2.box (gE tb t.length i)=M'.box i:=fun i=>by show (match pM tb t.length (gE tb t.length i) with|some i=>M'.box i|none=>_)=_;rw [kf]
 have e2:∀i v,M2.b9 (gE tb t.length i) v=M'.b9 i v:=fun i v=>by show (match pM tb t.length (gE tb t.length i) with|some i=>M'.b9 i v|none=>_)=_;rw [kf]
 have c1:∀b o v,M'.cell b o=some v→M2.cell b o=some v:=fun _ _ _ x=>x
 have b1:∀id b,M'.box id=some b→M2.box (gE tb t.length id)=some b:=fun id b x=>by rw [e1];exact x
 have s1:∀t' v x,M'.b9 t' v=some x→M2.b9 (gE tb t.length t') v=some x:=fun t' v x y=>by rw [e2];exact y
 have le:M.Le M2:=by
  refine ⟨q3.cell,?_,?_,q3.fW⟩
  ·intro j b e
   show (match pM tb t.length j with|some i=>M'.box i|none=>M.box j)=some b
   cases hk:pM tb t.length j with
   |none=>exact e
   |some i=>exact q3.box i b (by show M.box (gE tb t.length i)=some b;rw [fk j i hk];exact e)
  ·intro j v x e
   show (match pM tb t.length j with|some i=>M'.b9 i v|none=>M.b9 j v)=some x
   cases hk:pM tb t.length j with
   |none=>exact e
   |some i=>exact q3.b9 i v x (by show M.b9 (gE tb t.length i) v=some x;rw [fk j i hk];exact e)
 have mk:∀b j o,own b=some j→pM tb t.length j=none→w.heap[b]? =some o→(∀z,o≠ .deferred z)→X1 b:=fun b j o e k hb hn=> .inr ⟨j,e,k,fun hm=>by
  rw [(hw.fW b hm).2] at hb
  exact hn _ (Option.some.inj hb).symm⟩
 have X9:∀b o,X1 b→w.heap[b]? =some o→w'.heap[b]? =some o:=fun b o x y=>by rw [q1.below.block b x];exact y
 have VN:∀b o,X1 b→M.cell b o=none→M2.cell b o=none:=by
  intro b o x y
  show M'.cell b o=none
  cases e:M'.cell b o with
  |none=>rfl
  |some v=>
   have:M.cell b o=some v:=q1.mI b o v e x
   rw [y] at this
   cases this
 classical
 let Uq:Nat→Option Nat:=fun b=>if X1 b then own b else (Tj b).map (gE tb t.length)
 have ow:∀b i,¬X1 b→Tj b=some i→Uq b=some (gE tb t.length i):=fun b i x e=>by show (if X1 b then _ else _)=_;rw [if_neg x,e];rfl
 have Yg:∀b j,X1 b→own b=some j→Uq b=some j:=fun b j x e=>by show (if X1 b then _ else _)=_;rw [if_pos x];exact e
 have Xw:∀b,¬X1 b→¬w0.X b:=fun b x y=>x (.inl y)
 have inv:∀j o,bP (tZ tb t s') j=o→(∃i,gE tb t.length i=j∧(bP s' i).rn (gE tb t.length)=o)∨(pM tb t.length j=none∧bP t j=o):=by
  intro j o e
  rw [VH] at e
  cases hk:pM tb t.length j with
  |none=>rw [hk] at e;exact .inr ⟨rfl,e⟩
  |some i=>rw [hk] at e;exact .inl ⟨i,fk j i hk,e⟩
 have n1:∀j,pM tb t.length j=none→M2.box j=M.box j:=fun j k=>by show (match pM tb t.length j with|some i=>M'.box i|none=>M.box j)=_;rw [k]
 have n2:∀j v,pM tb t.length j=none→M2.b9 j v=M.b9 j v:=fun j v k=>by show (match pM tb t.length j with|some i=>M'.b9 i v|none=>M.b9 j v)=_;rw [k]
 refine ⟨v,M2,Uq,rfl,⟨?_,q1.cells,?_,?_,?_,?_,?_,?_,?_⟩,⟨?_,?_⟩,le,q4.push _ c1 b1 s1⟩
 ·exact ⟨q1.below.os.trans hw.below.os,q1.below.tape.trans hw.below.tape,q1.below.output.trans hw.below.output,Nat.le_trans hw.below.size q1.below.size,fun k hk=>(q1.below.block k (.inl hk)).trans (hw.below.block k hk),hw.below.lt⟩
 ·intro b o v k hb
  exact hw.mI b o v (q1.mI b o v k (.inl hb)) hb
 ·intro b id e
  have e:(if X1 b then own b else (Tj b).map (gE tb t.length))=some id:=e
  split at e
  ·rename_i hx
   exact Nat.lt_of_lt_of_le (hX b hx) q1.below.size
  ·rw [ZS] at e
   obtain ⟨i,e,_⟩:=e
   exact q1.owned b i e
 ·intro j cs e
  rcases inv j _ e with ⟨i,rfl,hi⟩|⟨hk,hj⟩
  ·obtain ⟨c,hc,rfl⟩:=Ob.Ox hi
   obtain ⟨b,vs,ty,q⟩:=q1.box i c hc
   refine ⟨b,vs,ty,b1 _ _ q.box,Xw _ q.base,ow _ _ q.base q.own,q.none,q.dQ,by simpa [D.iI] using q.len,fun k d v x y=> ?_,fun sz a len cap x=>q.room sz a len cap (by rw [← e2];exact x)⟩
   rw [D.iI,ZU,ZS] at x
   obtain ⟨d0,h0,rfl⟩:=x
   exact (q.rep k d0 v h0 y).push _ c1 b1 s1
  ·obtain ⟨b,vs,ty,q⟩:=hw.box j cs hj
   have x:=mk b j _ q.own hk q.dQ (fun z hz=>by cases hz)
   exact ⟨b,vs,ty,le.box _ _ q.box,q.base,Yg _ _ x q.own,fun o=>VN b o x (q.none o),X9 b _ x q.dQ,q.len,fun i d v a c=>(q.rep i d v a c).mono le,fun sz a len cap c=>q.room sz a len cap (by rw [← n2 _ _ hk];exact c)⟩
 ·intro j ver sz e
  rcases inv j _ e with ⟨i,rfl,hi⟩|⟨hk,hj⟩
  ·obtain ⟨a,len,cap,q⟩:=q1.ey i ver sz (Ob.Ow hi)
   exact ⟨a,len,cap,s1 _ _ _ q.b9,fun v hv=>by rw [e2];exact q.last v hv,q.room.imp (fun x=>x) fun ⟨b,vs,ty,fz,ha,r⟩=>⟨b,vs,ty,fz,ha,Xw _ r.base,ow _ _ r.base r.own,r.dQ,r.fz,r.cap,r.none⟩⟩
  ·obtain ⟨a,len,cap,q⟩:=hw.ey j ver sz hj
   refine ⟨a,len,cap,le.b9 _ _ _ q.b9,fun v hv=>by rw [n2 _ _ hk];exact q.last v hv,q.room.imp (fun x=>x) fun ⟨b,vs,ty,fz,ha,r⟩=> ?_⟩
   have x:=mk b j _ r.own hk r.dQ (fun z hz=>by cases hz)
   exact ⟨b,vs,ty,fz,ha,r.base,Yg _ _ x r.own,X9 b _ x r.dQ,r.fz,r.cap,fun o ho=>VN b o x (r.none o ho)⟩
 ·intro j F e
  rcases inv j _ rfl with ⟨i,rfl,hi⟩|⟨hk,hj⟩
  ·rw [← hi,Ob.EA] at e
   obtain ⟨b,Tt,clock,q⟩:=q1.mp i F e
   exact ⟨b,Tt,clock,b1 _ _ q.box,Xw _ q.base,ow _ _ q.base q.own,q.none,q.dQ,q.fits⟩
  ·rw [← hj] at e
   obtain ⟨b,Tt,clock,q⟩:=hw.mp j F e
   have x:=mk b j _ q.own hk q.dQ (fun z hz=>by cases hz)
   exact ⟨b,Tt,clock,le.box _ _ q.box,q.base,Yg _ _ x q.own,fun o=>VN b o x (q.none o),X9 b _ x q.dQ,q.fits⟩
 ·intro j k tt ps ag bd e
  rcases inv j _ e with ⟨i,rfl,hi⟩|⟨hk,hj⟩
  ·obtain ⟨t0,h0,rfl⟩:=Ob.P4 hi
   obtain ⟨l,r,q⟩:=q1.lp i k t0 ps ag bd h0
   exact ⟨l,r,b1 _ _ q.box,Xw _ q.base,ow _ _ q.base q.own,q.dQ,q.st,q.pd,q.tm.push c1 b1 s1,q.ps,q.ag,q.bd⟩
  ·obtain ⟨l,r,q⟩:=hw.lp j k tt ps ag bd hj
   have x:=mk l j _ q.own hk q.dQ (fun z hz=>by cases hz)
   exact ⟨l,r,q.aV le (Yg _ _ x q.own) (X9 l _ x q.dQ)⟩
 ·intro b q
  exact ⟨Xw _ (q1.fW b q).1,(q1.fW b q).2⟩
 ·intro j hj
  rw [wm] at hj
  show (match pM tb t.length j with|some i=>M'.box i|none=>M.box j)=none
  rw [pM,if_neg (by omega)]
  exact q2.1 _ (by omega)
 ·intro j v hj
  rw [wm] at hj
  show (match pM tb t.length j with|some i=>M'.b9 i v|none=>M.b9 j v)=none
  rw [pM,if_neg (by omega)]
  exact q2.2 _ v (by omega)
def RJ (w:World) (m:Nat):Option Addr→List Value
  |none=> []
  |some a=>(ZL m).map fun k=>(w.cell? (a.add k)).getD undef
end Go.Ev
namespace Go.Proofs.YtbfpahigdpigpaaGreat
open Go Go.Ev
theorem ef (f:Nat→Nat) (l:List Int):D.jN f (bD l)=bD l:=by
 rw [D.iI,bD,List.map_map]
 rfl
def rE {P:Program} (f:Nat→Ev P):Nat→List (Ev P)
  |0=> [tF]
  |j+1=>tT::tT::f j::rE f j
abbrev rZ {P:Program} {g:FuncId} {x y z d:D} {n:Int} {s s':List Ob} (h:ao P g [x,y,aq n,z] s d s') {r:List D} {k:Nat} {c:Nat→D} (q:∀j,j<n.toNat→r[k+j*1]? =some (c j)):List (Ev P):= .aI _ _ _ _ _ h:: .go 64::rE (fun j=>if e:j<n.toNat then .get _ _ _ (q j e) else tF) n.toNat
abbrev wZ {P:Program} {g:FuncId} {x y z d:D} {n:Int} {s s':List Ob} (h:ao P g [x,y,aq n,z] s d s') {r:Nat→List D} {k:Nat} {c:Nat→D} (q:∀j,j<n.toNat→nY (r j) (k+j) [c j] (r (j+1))):List (Ev P):= .aI _ _ _ _ _ h:: .go 64::((ZL n.toNat).flatMap (fun j=> [tT,tT,tT,if e:j<n.toNat then .eU _ _ _ _ (q j e) else tF,.raw])++ [tF])
section
variable (o0:Ob) (cb cx fr st:List Int) (hc:cb.length≤16384) (hx:cx.length≤256) (hf:fr.length=64) (hs:st.length=264) (a n:Int) (hn:n=1∨n=2∨n=4∨n=8)
abbrev sI:List Ob:=L6 o0 cb.length cx.length (bD cb) (bD cx) (bD fr) (bD st)
include hn
theorem wX {id:Nat} {l:List Int} (hI:(id=4∧l=cb)∨(id=7∧l=cx)∨(id=8∧l=fr)∨(id=9∧l=st)) (k:Nat) (hk:k+n.toNat≤l.length) (hA:ao Zy 146 [.ptr false 1 0,av a,aq n,ax false] (sI o0 cb cx fr st) (.aL [.sub id k 1 n.toNat (some n.toNat),aq 0]) (sI o0 cb cx fr st)):
  ao Zy 115 [.ptr false 1 0,av a,aq n] (sI o0 cb cx fr st) (.aL [av (L2 l k n.toNat),aq 0]) (sI o0 cb cx fr st):=by
 rw [L2,oM n.toNat k l hk]
 have q:∀j,j<n.toNat→(bD l)[k+j*1]? =some (ay (l.getD (k+j) 0)):=fun j h=>FG j (by omega)
 rcases hI with ⟨rfl,rfl⟩|⟨rfl,rfl⟩|⟨rfl,rfl⟩|⟨rfl,rfl⟩<;>rcases hn with rfl|rfl|rfl|rfl<;>exact ao.aj (aV:=ZL 10) mixed (rZ hA q) (by kernel_rfl)
theorem Bt (w:Int) {id:Nat} {l:List Int} {S:List Ob} (k:Nat) (hI:(id=7∧l=cx∧S=L6 o0 cb.length cx.length (bD cb) (FM (bD cx) k w n.toNat) (bD fr) (bD st))∨(id=8∧l=fr∧S=L6 o0 cb.length cx.length (bD cb) (bD cx) (FM (bD fr) k w n.toNat) (bD st))∨(id=9∧l=st∧S=L6 o0 cb.length cx.length (bD cb) (bD cx) (bD fr) (FM (bD st) k w n.toNat))) (hk:k+n.toNat≤l.length) (hA:ao Zy 146 [.ptr false 1 0,av a,aq n,ax true] (sI o0 cb cx fr st) (.aL [.sub id k 1 n.toNat (some n.toNat),aq 0]) (sI o0 cb cx fr st)):
  ao Zy 113 [.ptr false 1 0,av a,aq n,av w] (sI o0 cb cx fr st) (aq 0) S:=by
 have q:∀j,j<n.toNat→nY (FM (bD l) k w j) (k+j) _ (FM (bD l) k w (j+1)):=fun j h=>OS l k w j (by omega)
 rcases hI with ⟨rfl,rfl,rfl⟩|⟨rfl,rfl,rfl⟩|⟨rfl,rfl,rfl⟩<;>rcases hn with rfl|rfl|rfl|rfl<;>exact ao.aj (aV:=ZL 10) mixed (wZ hA q) (by kernel_rfl)
include hc hx hf hs
theorem Pj:ao Zy 115 [.ptr false 1 0,av a,aq n] (sI o0 cb cx fr st) (match jW cb cx fr st a n with|some z=> .aL [av z,aq 0]|none=> .aL [av 0,aq 20]) (sI o0 cb cx fr st):=by
 have hA:=FJ o0 (bD cb) (bD cx) (bD fr) (bD st) cb.length cx.length hc hx a n false hn
 unfold jW
 unfold Ms at hA
 cases h0:je 1048576 cb.length a n with
 |true=>
  rw [if_pos ⟨h0,rfl⟩] at hA
  exact wX o0 cb cx fr st a n hn (.inl ⟨rfl,rfl⟩) _ (of_le h0 (by omega)) hA
 |false=>
 rw [if_neg (by rw [h0];simp)] at hA
 cases h1:je 2097152 cx.length a n with
 |true=>
  rw [if_pos h1] at hA
  exact wX o0 cb cx fr st a n hn (.inr (.inl ⟨rfl,rfl⟩)) _ (of_le h1 (by omega)) hA
 |false=>
 rw [if_neg (by rw [h1];simp)] at hA
 cases h2:je 3145728 64 a n with
 |true=>
  rw [if_pos h2] at hA
  exact wX o0 cb cx fr st a n hn (.inr (.inr (.inl ⟨rfl,rfl⟩))) _ (by rw [hf];exact of_le h2 (by omega)) hA
 |false=>
 rw [if_neg (by rw [h2];simp)] at hA
 cases h3:je 4194304 264 a n with
 |true=>
  rw [if_pos h3] at hA
  exact wX o0 cb cx fr st a n hn (.inr (.inr (.inr ⟨rfl,rfl⟩))) _ (by rw [hs];exact of_le h3 (by omega)) hA
 |false=>
 rw [if_neg (by rw [h3];simp)] at hA
 exact ao.aj (aV:=ZL 10) mixed [.aI _ _ _ _ _ hA,.go 64,tF] (by kernel_rfl)
theorem Mi (w:Int):ao Zy 113 [.ptr false 1 0,av a,aq n,av w] (sI o0 cb cx fr st) (match iH cx fr st a n w with|some _=> .int .i64 0|none=> .int .i64 20) (match iH cx fr st a n w with|some r=>L6 o0 cb.length cx.length (bD cb) (bD r.1) (bD r.2.1) (bD r.2.2)|none=>sI o0 cb cx fr st):=by
 have hA:=FJ o0 (bD cb) (bD cx) (bD fr) (bD st) cb.length cx.length hc hx a n true hn
 unfold iH
 unfold Ms at hA
 rw [if_neg (by simp)] at hA
 cases h1:je 2097152 cx.length a n with
 |true=>
  rw [if_pos h1] at hA
  have:=Bt o0 cb cx fr st a n hn w _ (.inl ⟨rfl,rfl,rfl⟩) (of_le h1 (by omega)) hA
  rw [v8] at this
  exact this
 |false=>
 rw [if_neg (by rw [h1];simp)] at hA
 cases h2:je 3145728 64 a n with
 |true=>
  rw [if_pos h2] at hA
  have:=Bt o0 cb cx fr st a n hn w _ (.inr (.inl ⟨rfl,rfl,rfl⟩)) (by rw [hf];exact of_le h2 (by omega)) hA
  rw [v8] at this
  exact this
 |false=>
 rw [if_neg (by rw [h2];simp)] at hA
 cases h3:je 4194304 264 a n with
 |true=>
  rw [if_pos h3] at hA
  have:=Bt o0 cb cx fr st a n hn w _ (.inr (.inr ⟨rfl,rfl,rfl⟩)) (by rw [hs];exact of_le h3 (by omega)) hA
  rw [v8] at this
  exact this
 |false=>
 rw [if_neg (by rw [h3];simp)] at hA
 exact ao.aj (aV:=ZL 10) mixed [.aI _ _ _ _ _ hA,.go 64,tF] (by kernel_rfl)
end
section
variable (o0 fG fF fE fC x0 x1 x2 x3 x4 x5:Ob) (cb cx fr st:List Int) (u:List D) (v:Nat)
abbrev rS:List Ob:= [o0,aA (uX cb.length cx.length),aY,aY,aA (bD cb),aY,aY,aA (bD cx),aA (bD fr),aA (bD st),aY,aA u,fG,fF,fE,fC,.ey v 3,x0,x1,x2,x3,x4]
abbrev wS (nc nx:Nat):List Ob:= [o0,aA (uX nc nx),aY,aY,aA (bD cb),aY,aY,aA (bD cx),aA (bD fr),aA (bD st),aY,aA u,fG,fF,fE,fC,.ey v 3,x0,x1,x2,x3,x4,x5]
abbrev Er:List Nat:= [10,1,2,3,4,5,6,7,8,9]
theorem AG (hc:cb.length≤16384) (hx:cx.length≤256) (hf:fr.length=64) (hs:st.length=264) (a n:Int) (hn:n=1∨n=2∨n=4∨n=8):
  ao Zy 115 [.ptr false 1 0,av a,aq n] (rS o0 fG fF fE fC x0 x1 x2 x3 x4 cb cx fr st u v) (match jW cb cx fr st a n with|some z=> .aL [av z,aq 0]|none=> .aL [av 0,aq 20]) (rS o0 fG fF fE fC x0 x1 x2 x3 x4 cb cx fr st u v):=by
 have e:tZ Er (rS o0 fG fF fE fC x0 x1 x2 x3 x4 cb cx fr st u v) (sI .dead cb cx fr st)=rS o0 fG fF fE fC x0 x1 x2 x3 x4 cb cx fr st u v:=by
  show [o0,aA (uX cb.length cx.length),aY,aY,aA (D.jN (gE Er 22) (bD cb)),aY,aY,aA (D.jN (gE Er 22) (bD cx)),aA (D.jN (gE Er 22) (bD fr)),aA (D.jN (gE Er 22) (bD st)),aY,aA u,fG,fF,fE,fC,.ey v 3,x0,x1,x2,x3,x4]=_
  rw [ef,ef,ef,ef]
 have h:=(Pj .dead cb cx fr st hc hx hf hs a n hn).rn Er (rS o0 fG fF fE fC x0 x1 x2 x3 x4 cb cx fr st u v) rfl (by decide) (show ∀x∈Er,x<22 by decide) e
 rw [e] at h
 cases hl:jW cb cx fr st a n<;>(rw [hl] at h;exact h)
theorem FZ (hc:cb.length≤16384) (hx:cx.length≤256) (hf:fr.length=64) (hs:st.length=264) (a n w:Int) (hn:n=1∨n=2∨n=4∨n=8):
  match iH cx fr st a n w with
  |some r=>ao Zy 113 [.ptr false 1 0,.int .u64 a,.int .i64 n,.int .u64 w] (wS o0 fG fF fE fC x0 x1 x2 x3 x4 x5 cb cx fr st u v cb.length cx.length) (.int .i64 0) (wS o0 fG fF fE fC x0 x1 x2 x3 x4 x5 cb r.1 r.2.1 r.2.2 u v cb.length cx.length)
  |none=>ao Zy 113 [.ptr false 1 0,.int .u64 a,.int .i64 n,.int .u64 w] (wS o0 fG fF fE fC x0 x1 x2 x3 x4 x5 cb cx fr st u v cb.length cx.length) (.int .i64 20) (wS o0 fG fF fE fC x0 x1 x2 x3 x4 x5 cb cx fr st u v cb.length cx.length):=by
 have e:∀y f s:List Int,tZ Er (wS o0 fG fF fE fC x0 x1 x2 x3 x4 x5 cb cx fr st u v cb.length cx.length) (L6 .dead cb.length cx.length (bD cb) (bD y) (bD f) (bD s))=wS o0 fG fF fE fC x0 x1 x2 x3 x4 x5 cb y f s u v cb.length cx.length:=fun y f s=>by
  show [o0,aA (uX cb.length cx.length),aY,aY,aA (D.jN (gE Er 23) (bD cb)),aY,aY,aA (D.jN (gE Er 23) (bD y)),aA (D.jN (gE Er 23) (bD f)),aA (D.jN (gE Er 23) (bD s)),aY,aA u,fG,fF,fE,fC,.ey v 3,x0,x1,x2,x3,x4,x5]=_
  rw [ef,ef,ef,ef]
 have h:=(Mi .dead cb cx fr st hc hx hf hs a n hn w).rn Er (wS o0 fG fF fE fC x0 x1 x2 x3 x4 x5 cb cx fr st u v cb.length cx.length) rfl (by decide) (show ∀x∈Er,x<23 by decide) (e cx fr st)
 cases hl:iH cx fr st a n w<;>(rw [hl] at h;simp only [e] at h;exact h)
end
theorem M6 (v:Int):aQ Zy 162 [aq v] (aq (nh v:Int)):=by
 unfold nh
 by_cases h0:0≤v
 ·by_cases h1:v≤15
  ·rw [if_pos ⟨h0,h1⟩]
   have e:Int.tmod v 6=((v.toNat%6:Nat):Int):=by rw [Int.tmod_eq_emod_of_nonneg h0];omega
   rw [← e]
   exact K1 v h0 h1
  ·rw [if_neg (fun h=>h1 h.2)];exact AJ v (by omega)
 ·rw [if_neg (fun h=>h0 h.1)];exact AI v (by omega)
theorem Nu (m:au) (v:Int) (hn:aQ Zy 144 [.agg (eV m)] (.aL [aq v,ax true])):aQ Zy 145 [.agg (eV m)] (bj 1 (wD (pL m (nh v)))):=by
 have ha:=M6 v
 have h5:=FI v
 generalize nh v=n at ha h5
 have:n=0∨n=1∨n=2∨n=3∨n=4∨n=5:=by omega
 rcases this with rfl|rfl|rfl|rfl|rfl|rfl
 ·exact (DF m v hn ha).to (by exact ⟨rfl,.inr rfl,trivial,.inl rfl⟩)
 ·exact (DE m v hn ha).to (by exact ⟨rfl,.inl rfl,trivial,.inr rfl⟩)
 ·exact (DD m v hn ha).to (by exact ⟨rfl,.inl rfl,trivial,.inr rfl⟩)
 ·exact (DC m v hn ha).to (by exact ⟨rfl,.inl rfl,trivial,.inr rfl⟩)
 ·exact (DB m v hn ha).to (by exact ⟨rfl,.inl rfl,trivial,.inr rfl⟩)
 ·exact (DA m v hn ha).to (by exact ⟨rfl,.inl rfl,trivial,.inr rfl⟩)
abbrev eS (o0 fG fF fE fC:Ob) (cb:List Int) (nc nx:Nat) (e:mu) (v:Nat) (dd:List Ob):List Ob:=o0::aA (uX nc nx)::aY::aY::aA (bD cb)::aY::aY::aA (bD e.cx)::aA (bD e.fr)::aA (bD e.st)::aY::aA (uC e.m (wD e.an) (iq e.tr) v e.en)::fG::fF::fE::fC:: .ey v 3::dd
theorem Od {m:au} {x:XS} {ld:Int} (hm:x.may=true) (ho:x.op=26∨x.op=27∨x.op=30∨x.op=31):(fm m x ld).2=0:=by
 rw [qi hm]
 obtain ⟨op,w,dst,src,base,af,ai,cc⟩:=x
 rcases ho with h|h|h|h<;>(simp only at h;subst h;rfl)
theorem pt {op w dst src base af ai cc:Int} (h:bL op w dst src base af ai cc=true) (ho:op=26∨op=27):aU w=true:=by
 have hs:=(dA h).2
 rcases ho with rfl|rfl
 ·rw [show aC 26=7 from rfl] at hs
  simp [iK] at hs;exact hs.1
 ·rw [show aC 27=8 from rfl] at hs
  simp [iK] at hs;exact hs.1
theorem rk {op w dst src base af ai cc:Int} (h:bL op w dst src base af ai cc=true):op≤127:=by
 have hs:=(dA h).2
 have U3:aC op≠0:=by
  intro e
  rw [e] at hs
  simp [iK] at hs
 rcases gY U3 with rfl|rfl|rfl|rfl|rfl|rfl|rfl|rfl|rfl|rfl|rfl|rfl|rfl|rfl|rfl|rfl|rfl|rfl|rfl|rfl|rfl|rfl|rfl|rfl|rfl|rfl|rfl|rfl|rfl|rfl|rfl|rfl<;>decide
theorem zZ {b:List Int} {x:XS} (h:iC b=some x):x.may=true:=by
 unfold iC at h
 split at h
 ·rename_i hf
  cases h
  unfold jo at hf
  rw [ZD] at hf
  exact hf.1
 ·cases h
theorem bne {a b:Int} (h:a≠b):(a==b)=false:=by rw [gp];exact h
theorem KZ {b:List Int} (h:dx b) (k:Nat):dx (b.drop k):=fun x hx=>h x (List.mem_of_mem_drop hx)
theorem y6 (o0 fG fF fE fC:Ob) (cb:List Int) (hb:dx cb) (hc:cb.length≤16384) (nx:Nat) (Vf:nx≤256) (e:mu) (hx:e.cx.length=nx) (hf:e.fr.length=64) (hs:e.st.length=264) (ht:e.tr.length≤100000):
  ∃(v:Nat) (dd:List Ob),(v=0∨v=1∧(bF cb e).2=true)∧ao Zy 47 [.ptr false 11 0] (eS o0 fG fF fE fC cb cb.length nx e 0 []) (ax (bF cb e).2) (eS o0 fG fF fE fC cb cb.length nx (bF cb e).1 v dd):=by
 obtain ⟨m,cx,fr,st,an,tr,en⟩:=e
 simp only at hx hf hs ht
 subst hx
 cases h0:je 1048576 cb.length m.pc 1 with
 |false=>
  have es:bF cb ⟨m,cx,fr,st,an,tr,en⟩=(⟨m,cx,fr,st,an,tr,3⟩,false):=by unfold bF;rw [if_neg (by rw [h0];decide)]
  rw [es]
  exact ⟨0,[],.inl rfl,BH o0 fG fF fE fC (bD cb) (bD cx) (bD fr) (bD st) (wD an) (iq tr) m en cb.length cx.length hc (Qt h0)⟩
 |true=>
  obtain ⟨p0,p1,p2⟩:=N6 h0
  have hk0:0≤aaY.u64.wrap (m.pc - 1048576):=by rw [bZ];omega
  have hF:nZ (bD cb) (0+ZJ (aaY.u64.wrap (m.pc - 1048576))*1) ((cb.length - ZJ (aaY.u64.wrap (m.pc - 1048576)))*1) (bD (cb.drop (mG 1048576 m.pc))):=by
   refine ⟨?_,by rw [aG];omega⟩
   have:0+ZJ (aaY.u64.wrap (m.pc - 1048576))*1=mG 1048576 m.pc:=by unfold mG;omega
   rw [this,Nat.mul_one]
   unfold bD
   rw [← List.map_drop,List.take_of_length_le]
   rw [List.length_map,List.length_drop]
   unfold mG
   omega
  have hr:=JQ (cb.drop (mG 1048576 m.pc)) (KZ hb _)
  cases hM:iC (cb.drop (mG 1048576 m.pc)) with
  |none=>
   rw [hM] at hr
   have es:bF cb ⟨m,cx,fr,st,an,tr,en⟩=(⟨m,cx,fr,st,an,tr,3⟩,false):=by unfold bF;rw [if_pos h0,hM]
   rw [es]
   exact ⟨0,[aY,aY,aY],.inl rfl,Gd o0 fG fF fE fC (bD cb) (bD cx) (bD fr) (bD st) (wD an) (iq tr) m en cb.length cx.length hc p0 p1 p2 _ hF (cL _) 0 0 0 0 0 0 0 0 0 30 hr (by decide)⟩
  |some x=>
   rw [hM] at hr
   have hm:=zZ hM
   have hd:=fun ld=>H0 m x ld (rk hm)
   have VP:=fun ld=>Od (m:=m) (ld:=ld) hm
   obtain ⟨op,w,dst,src,base,af,ai,cc⟩:=x
   have UM:bL op w dst src base af ai cc=true:=hm
   have Uy:=rk UM
   obtain ⟨⟨d0,d1,s0,s1,b0,b1,_⟩,_⟩:=dA UM
   by_cases US:op=31
   ·subst US
    have ha:=A8 m 31 w dst src base af ai cc Uy (by decide) (by decide) (by decide) UM
    have hn:=Nt m
    cases hq:qO m.q0 with
    |false=>
     rw [hq] at hn
     have es:bF cb ⟨m,cx,fr,st,an,tr,en⟩=(⟨m,cx,fr,st,an,tr,3⟩,false):=by
      simp [bF,h0,hM,hq]
     rw [es]
     exact ⟨0,Zx 6 .dead,.inl rfl,ze o0 fG fF fE fC (bD cb) (bD cx) (bD fr) (bD st) (wD an) (iq tr) m en cb.length cx.length hc p0 p1 p2 _ hF (cL _) _ _ _ _ _ _ _ _ _ hr rfl rfl rfl rfl _ _ _ ha _ hn⟩
    |true=>
     rw [hq] at hn
     cases an with
     |nil=>
      have es:bF cb ⟨m,cx,fr,st,[],tr,en⟩=(⟨m,cx,fr,st,[],tr,2⟩,false):=by
       simp [bF,h0,hM,hq]
      rw [es]
      exact ⟨0,Zx 6 .dead,.inl rfl,zb o0 fG fF fE fC (bD cb) (bD cx) (bD fr) (bD st) (iq tr) m en cb.length cx.length hc p0 p1 p2 _ hF (cL _) _ _ _ _ _ _ _ _ _ hr rfl rfl rfl rfl _ _ _ ha _ hn⟩
     |cons a0 ar=>
      have es:bF cb ⟨m,cx,fr,st,a0::ar,tr,en⟩=(⟨(fm m ⟨31,w,dst,src,base,af,ai,cc⟩ a0).1,cx,fr,st,ar,tr++ [⟨kL m.q0,pL m (nh (kL m.q0)),a0⟩],0⟩,true):=by
       simp [bF,h0,hM,hq]
      rw [es]
      have hD:=hd a0
      rw [VP a0 (.inr (.inr (.inr rfl)))] at hD
      have hg:=Nu m _ hn
      have et:iq (tr++ [⟨kL m.q0,pL m (nh (kL m.q0)),a0⟩])=iq tr++ [.agg [aq (kL m.q0),bj 1 (wD (pL m (nh (kL m.q0)))),av a0]]:=by simp [iq,Oi.d]
      refine ⟨1,Zx 9 .dead,.inr ⟨rfl,rfl⟩,?_⟩
      have:=Gf o0 fG fF fE fC (bD cb) (bD cx) (bD fr) (bD st) (wD ar) (iq tr) _ m en cb.length cx.length hc p0 p1 p2 _ hF (cL _) _ _ _ _ _ _ _ _ _ hr rfl rfl rfl rfl _ _ _ ha _ a0 (by simpa [iq] using ht) hn hg _ _ hD rfl
      rw [← et] at this
      exact this
   by_cases Uj:op=27
   ·subst Uj
    have hw:=pt UM (.inr rfl)
    have YA:=ff hw
    have ha:=Il m w dst src base af ai cc d0 d1 s0 s1 b0 b1 (by omega) (by omega) UM
    have Ty:=Ih m w dst src base af ai cc d0 d1 s0 s1 b0 b1 hw UM
    have hW:=FZ o0 fG fF fE fC (.ey 0 1) .dead (aA [ak 27,ak w,ak dst,ak src,ak base,aq af,aq ai,ak cc]) (aA [ak 27,ak w,ak dst,ak src,ak base,aq af,aq ai,ak cc]) .dead .dead cb cx fr st (uC m (wD an) (iq tr) 0 3) 0 hc Vf hf hs (u64 (rg m.rl base+u64 af)) (w / 8) (aJ (rg m.rl src) w) (by omega)
    cases hS:iH cx fr st (u64 (rg m.rl base+u64 af)) (w / 8) (aJ (rg m.rl src) w) with
    |none=>
     rw [hS] at hW
     have es:bF cb ⟨m,cx,fr,st,an,tr,en⟩=(⟨m,cx,fr,st,an,tr,3⟩,false):=by
      simp [bF,h0,hM,hS]
     rw [es]
     exact ⟨0,Zx 6 .dead,.inl rfl,wi o0 fG fF fE fC (bD cb) (bD cx) (bD fr) (bD st) (wD an) (iq tr) m en cb.length cx.length hc p0 p1 p2 _ hF (cL _) _ _ _ _ _ _ _ _ _ hr rfl rfl rfl rfl _ _ _ ha _ Ty hW⟩
    |some r=>
     rw [hS] at hW
     have es:bF cb ⟨m,cx,fr,st,an,tr,en⟩=(⟨(fm m ⟨27,w,dst,src,base,af,ai,cc⟩ 0).1,r.1,r.2.1,r.2.2,an,tr,0⟩,true):=by
      simp [bF,h0,hM,hS]
     rw [es]
     have hD:=hd 0
     rw [VP 0 (.inr (.inl rfl))] at hD
     exact ⟨0,Zx 8 .dead,.inl rfl,BF o0 fG fF fE fC (bD cb) (bD cx) (bD fr) (bD st) (wD an) (iq tr) m en cb.length cx.length hc p0 p1 p2 _ hF (cL _) _ _ _ _ _ _ _ _ _ hr rfl rfl rfl rfl _ _ _ ha _ _ _ _ Ty hW _ _ hD rfl⟩
   by_cases UQ:op=26
   ·subst UQ
    have hw:=pt UM (.inl rfl)
    have YA:=ff hw
    have ha:=Im m w dst src base af ai cc d0 d1 s0 s1 b0 b1 (by omega) (by omega) UM
    have hL:=AG o0 fG fF fE fC (.ey 0 1) .dead (aA [ak 26,ak w,ak dst,ak src,ak base,aq af,aq ai,ak cc]) (aA [ak 26,ak w,ak dst,ak src,ak base,aq af,aq ai,ak cc]) .dead cb cx fr st (uC m (wD an) (iq tr) 0 3) 0 hc Vf hf hs (u64 (rg m.rl base+u64 af)) (w / 8) (by omega)
    cases hS:jW cb cx fr st (u64 (rg m.rl base+u64 af)) (w / 8) with
    |none=>
     rw [hS] at hL
     have es:bF cb ⟨m,cx,fr,st,an,tr,en⟩=(⟨m,cx,fr,st,an,tr,3⟩,false):=by
      simp [bF,h0,hM,hS]
     rw [es]
     exact ⟨0,Zx 5 .dead,.inl rfl,za o0 fG fF fE fC (bD cb) (bD cx) (bD fr) (bD st) (wD an) (iq tr) m en cb.length cx.length hc p0 p1 p2 _ hF (cL _) _ _ _ _ _ _ _ _ _ hr rfl rfl rfl rfl _ _ _ ha hL⟩
    |some z=>
     rw [hS] at hL
     have es:bF cb ⟨m,cx,fr,st,an,tr,en⟩=(⟨(fm m ⟨26,w,dst,src,base,af,ai,cc⟩ z).1,cx,fr,st,an,tr,0⟩,true):=by
      simp [bF,h0,hM,hS]
     rw [es]
     have hD:=hd z
     rw [VP z (.inl rfl)] at hD
     exact ⟨0,Zx 7 .dead,.inl rfl,Ge o0 fG fF fE fC (bD cb) (bD cx) (bD fr) (bD st) (wD an) (iq tr) m en cb.length cx.length hc p0 p1 p2 _ hF (cL _) _ _ _ _ _ _ _ _ _ hr rfl rfl rfl rfl _ _ _ ha _ hL _ _ hD rfl⟩
   by_cases UX:op=30
   ·subst UX
    have ha:=Ik m w dst src base af ai cc d0 d1 s0 s1 b0 b1 UM
    have hL:=AG o0 fG fF fE fC (.ey 0 1) .dead (aA [ak 30,ak w,ak dst,ak src,ak base,aq af,aq ai,ak cc]) (aA [ak 30,ak w,ak dst,ak src,ak base,aq af,aq ai,ak cc]) .dead cb cx fr st (uC m (wD an) (iq tr) 0 3) 0 hc Vf hf hs m.q4 8 (by omega)
    cases hS:jW cb cx fr st m.q4 8 with
    |none=>
     rw [hS] at hL
     have es:bF cb ⟨m,cx,fr,st,an,tr,en⟩=(⟨m,cx,fr,st,an,tr,3⟩,false):=by
      simp [bF,h0,hM,hS]
     rw [es]
     exact ⟨0,Zx 5 .dead,.inl rfl,BG o0 fG fF fE fC (bD cb) (bD cx) (bD fr) (bD st) (wD an) (iq tr) m en cb.length cx.length hc p0 p1 p2 _ hF (cL _) _ _ _ _ _ _ _ _ _ hr rfl rfl rfl rfl _ _ _ ha hL⟩
    |some z=>
     rw [hS] at hL
     have hD:=hd z
     rw [VP z (.inr (.inr (.inl rfl)))] at hD
     by_cases hz:z=0
     ·have es:bF cb ⟨m,cx,fr,st,an,tr,en⟩=(⟨(fm m ⟨30,w,dst,src,base,af,ai,cc⟩ z).1,cx,fr,st,an,tr,1⟩,false):=by
       simp [bF,h0,hM,hS,hz]
      rw [es]
      exact ⟨0,Zx 7 .dead,.inl rfl,Gc o0 fG fF fE fC (bD cb) (bD cx) (bD fr) (bD st) (wD an) (iq tr) m en cb.length cx.length hc p0 p1 p2 _ hF (cL _) _ _ _ _ _ _ _ _ _ hr rfl rfl rfl rfl _ _ _ ha _ hL _ _ hD rfl (by rw [hz];rfl)⟩
     ·have es:bF cb ⟨m,cx,fr,st,an,tr,en⟩=(⟨(fm m ⟨30,w,dst,src,base,af,ai,cc⟩ z).1,cx,fr,st,an,tr,0⟩,true):=by
       simp [bF,h0,hM,hS,hz]
      rw [es]
      exact ⟨0,Zx 7 .dead,.inl rfl,Jx o0 fG fF fE fC (bD cb) (bD cx) (bD fr) (bD st) (wD an) (iq tr) m en cb.length cx.length hc p0 p1 p2 _ hF (cL _) _ _ _ _ _ _ _ _ _ hr rfl rfl rfl rfl _ _ _ ha _ hL _ _ hD rfl (bne hz)⟩
   ·have ha:=A8 m op w dst src base af ai cc Uy (bne UQ) (bne Uj) (bne UX) UM
    by_cases he:(fm m ⟨op,w,dst,src,base,af,ai,cc⟩ 0).2=0
    ·have es:bF cb ⟨m,cx,fr,st,an,tr,en⟩=(⟨(fm m ⟨op,w,dst,src,base,af,ai,cc⟩ 0).1,cx,fr,st,an,tr,0⟩,true):=by
      simp [bF,h0,hM,US,Uj,UQ,UX,he]
     rw [es]
     exact ⟨0,Zx 7 .dead,.inl rfl,Gg o0 fG fF fE fC (bD cb) (bD cx) (bD fr) (bD st) (wD an) (iq tr) m en cb.length cx.length hc p0 p1 p2 _ hF (cL _) _ _ _ _ _ _ _ _ _ hr (bne UQ) (bne Uj) (bne UX) (bne US) _ _ _ ha _ _ (hd 0) he⟩
    ·have es:bF cb ⟨m,cx,fr,st,an,tr,en⟩=(⟨m,cx,fr,st,an,tr,3⟩,false):=by
      simp [bF,h0,hM,US,Uj,UQ,UX,he]
     rw [es]
     exact ⟨0,Zx 7 .dead,.inl rfl,zf o0 fG fF fE fC (bD cb) (bD cx) (bD fr) (bD st) (wD an) (iq tr) m en cb.length cx.length hc p0 p1 p2 _ hF (cL _) _ _ _ _ _ _ _ _ _ hr (bne UQ) (bne Uj) (bne UX) (bne US) _ _ _ ha _ _ (hd 0) he⟩
abbrev Pb (a b c d nc nx:Nat):List D:= [av 1048576,.dz a 1 nc,ax false,av 2097152,.dz b 1 nx,ax true,av 3145728,.dz c 1 64,ax true,av 4194304,.dz d 1 264,ax true]
abbrev uZ (k f:Nat) (m:au) (an tr:List D) (v:Nat) (en:Int):List D:= [av m.q0,av m.q1,av m.q2,av m.q3,av m.q4,av m.q5,av m.q6,av m.q7,av m.q8,av m.q9,av m.de,av m.dr,av m.dw,av m.du,av m.dt,av m.dn,ax m.fk,ax m.fc,ax m.fz,ax m.fs,ax m.fo,av m.pc,.ptr false k 0,bj 1 an,.bc (.tok f v) 3 tr,ak en]
abbrev pS (o0 o5 Sj:Ob) (m:au) (cc cx fr st an tr:List D) (en:Int) (nc nx v:Nat) (dd:List Ob):List Ob:=o0::aY::aY::aY::aY::o5::aA (Pb 9 12 13 14 nc nx)::aY::aY::aA cc::aY::aY::aA cx::aA fr::aA st::aY::aA (uZ 6 21 m an tr v en)::Sj::aA [.ptr false 16 0]::aY::aA [.ptr false 17 0]:: .ey v 3::dd
abbrev S8:List Nat:= [1,6,7,8,9,10,11,12,13,14,15,16,2,3,4,19,21]
abbrev dM (l:List D):List D:=l.map D.bn
abbrev Tc (ga gb:Code):Ob:= .lp .ready (ke 9++ [.ptr false 0 0]++ke 26) #[18,19] ga gb
abbrev pT:List D:=([.jM 5,.ptr false 18 0,mH,.ptr false 20 0]++ke 31)
abbrev kU:List D:=(ke 35)
abbrev pZ (lp:Ob) (S:List D) (left:Int) (cc cx fr st u:List D) (nc nx v:Nat) (dd:List Ob):List Ob:= .box S::aY::aY::aY::aY::lp::aA (Pb 9 12 13 14 nc nx)::aY::aY::aA cc::aY::aY::aA cx::aA fr::aA st::aY::aA u::aA [aq left]::aA [.ptr false 16 0]::aY::aA [.ptr false 17 0]:: .ey v 3::dd
abbrev pP (lp:Ob) (S:List D) (left:Int) (cc cx fr st u:List D) (nc nx:Nat):List (Nat×Ob):= [(0,aA S),(5,lp),(6,aA (Pb 9 12 13 14 nc nx)),(9,aA cc),(12,aA cx),(13,aA fr),(14,aA st),(16,aA u),(17,aA [aq left]),(18,aA [.ptr false 16 0]),(20,aA [.ptr false 17 0]),(21,.ey 0 3)]
abbrev un (n:Nat):List D:=Zx n .undef
end Go.Proofs.YtbfpahigdpigpaaGreat
namespace Go.Ev
open Go
def G2 (pc:Int):Int:=if decide (aaY.u64.wrap (pc - 1048576)<16385)=true then aaY.i64.wrap (aaY.u64.wrap (pc - 1048576)) else -1
def iD (l:List Int):List D:=l.map (.int .i64)
theorem KW (a:List Int):(iD a).length=a.length:=by simp [iD]
theorem Pp {l:List Int} {k:Nat} {x:Int} (h:l[k]? =some x):(iD l)[k]? =some (aq x):=by simp [iD,h]
def oa (cb:List Int):Nat→mu→List Int
  |0,_=> []
  |f+1,e=>G2 e.m.pc::(match bF cb e with
    |(e2,true)=>oa cb f e2
    |(_,false)=> [])
theorem Eo (cb:List Int):∀(f:Nat) (e:mu),(ko cb f e).2+(oa cb f e).length=f
 |0,_=>rfl
 |f+1,e=>by
  rw [ko,oa]
  cases hs:bF cb e with
  |mk e2 b=>
   cases b with
   |true=>
    have:=Eo cb f e2
    simp only [ZZ];omega
   |false=>simp
def kB (x:Int):Nat:=ZJ (aaY.i64.wrap (x+1))
def P1:List Int→List Bool→List Bool
  | [],l=>l
  |x::v,l=>P1 v (l.set (kB x) true)
def Ta (l:List Bool):List D:=l.map D.bool
def Tb (v:List Int):List D:=(ZL 16386).map fun i=>D.bool (v.any fun x=>kB x==i)
def OV:Nat→List Bool→List Int
  |_,[]=> []
  |k,true::r=>((k:Int) - 1)::OV (k+1) r
  |k,false::r=>OV (k+1) r
def SI (v:List Int):List Int:=OV 0 (P1 v (Zx 16386 false))
def SQ (t:Int):List Int→List (Int×D)→List (Int×D)
  | [],es=>es
  |x::v,es=>SQ t v (nM es x (.int .i64 t))
def sF (m:au):Prop:=0≤m.pc∧m.pc≤18446744073709551615
theorem xy (m:au) (v:Int):sF (m.at (u64 v)):=by
 unfold sF au.at
 simp only [u64,bZ]
 omega
theorem Ft (m:au) (s w a b v:Int):(Fu m s w a b v).pc=m.pc:=by unfold Fu;split<;>rfl
theorem Pz (m:au) (x:XS) (ld:Int) (h:sF m) (hl:x.op=30→0≤ld∧ld≤18446744073709551615):sF (gF m x ld).1:=by
 have hz:sF .zero:=⟨by decide,by decide⟩
 unfold gF
 split
 ·simp only []
  split
  ·unfold sF;rw [Ft];exact h
  ·unfold sF;simp only [au.put,Ft];exact h
 ·split
  ·exact h
  ·exact h
  ·split
   ·exact hz
   ·split
    ·exact hz
    ·exact h
  ·split
   ·exact hz
   ·exact h
  ·exact h
  ·exact xy _ _
  ·split
   ·exact hz
   ·split
    ·exact xy _ _
    ·exact h
  ·rename_i ho
   exact hl ho
  ·exact h
  ·exact h
theorem m6 (m:au) (x:XS) (ld:Int) (hl:x.op=30→0≤ld∧ld≤18446744073709551615):sF (fm m x ld).1:=by
 unfold fm
 split
 ·exact ⟨Int.le_refl 0,by show (0:Int)≤_;decide⟩
 ·exact Pz _ x ld (xy _ _) hl
theorem OG:∀l:List Int,0≤P5 l∧P5 l≤18446744073709551615
 | []=>by decide
 |b::t=>by
  rw [P5,Bq,bZ]
  omega
theorem KU {cb cx fr st:List Int} {a n v:Int} (h:jW cb cx fr st a n=some v):0≤v∧v≤18446744073709551615:=by
 unfold jW at h
 repeat' split at h
 all_goals first|(cases h;exact OG _)|(cases h;done)
theorem Mj (cb:List Int) (e:mu) (h:sF e.m):sF (bF cb e).1.m:=by
 have no:∀ {x:XS} {c:Int},x.op=c→c≠30→∀ {ld:Int},x.op=30→0≤ld∧ld≤18446744073709551615:=fun a b _ q=>absurd (a.symm.trans q) b
 unfold bF
 split
 ·split
  ·exact h
  ·split
   ·rename_i ho
    split
    ·split
     ·exact h
     ·exact m6 _ _ _ (no ho (by decide))
    ·exact h
   ·split
    ·rename_i ho
     split
     ·exact h
     ·exact m6 _ _ _ (no ho (by decide))
    ·split
     ·rename_i ho
      split
      ·exact h
      ·exact m6 _ _ _ (no ho (by decide))
     ·split
      ·split
       ·exact h
       ·rename_i v hv
        split<;>exact m6 _ _ _ (fun _=>KU hv)
      ·rename_i ho
       split
       ·exact m6 _ _ _ (fun q=>absurd q ho)
       ·exact h
 ·exact h
end Go.Ev
