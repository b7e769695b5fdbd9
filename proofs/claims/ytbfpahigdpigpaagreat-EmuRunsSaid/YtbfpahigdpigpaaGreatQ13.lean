import Derived.Test.YtbfpahigdpigpaaGreatQ08
import Derived.Test.YtbfpahigdpigpaaGreatQ09
import Derived.Test.YtbfpahigdpigpaaGreatQ10
import Derived.Test.YtbfpahigdpigpaaGreatQ12
open List renaming replicate→Z7,length→aaa,range→aao
open BitVec renaming ofInt→Z8,toNat→aab
open Go.Proofs.Tryz renaming prog→Z9
open Bool renaming eq_iff_iff→aai,or_eq_true→aax,or_eq_false_iff→aaV
open And renaming intro→aaj
open Int renaming toNat→aal,fdiv_eq_ediv_of_nonneg→aaL,fdiv→aaQ
open True renaming intro→aaz
open List.cons renaming injEq→aaI
open Go renaming IntKind→abz
/- Contracts and plain laws that a statement's proof leans on (texts merged:DST,MdT,ZR0,ZR1,ZR2,ZR3,MdRd,XQS,ZR4,ZR4A,XR1,XR2a,XR2b). -/
set_option linter.unusedVariables false
set_option linter.unusedSimpArgs false
set_option maxRecDepth 100000
set_option maxHeartbeats 8000000
namespace Go.Proofs.YtbfpahigdpigpaaGreat
open Go Go.Ev
abbrev tA (y0 y1 o3 o4 o5:Ob) (m:aq) (an tr:List D) (v:Nat) (l:List Ob):List Ob:=y0::y1::aF::o3::o4::o5::ay (uD m an tr v):: .dD v 3::l
abbrev xB (op w ab ae aa af aj cc:Int):Ob:= .box [ao op,ao w,ao ab,ao ae,ao aa,av af,av aj,ao cc]
abbrev gB (fb:List D):List D:=List.take (aal (if (20:Int)<(fb.length:Int) then (20:Int) else (fb.length:Int))) fb
abbrev mn {P:Program} (fb:List D):Ev P:= .cX (decide (((0:Int)≤if (20:Int)<(fb.length:Int) then (20:Int) else (fb.length:Int))∧(if (20:Int)<(fb.length:Int) then (20:Int) else (fb.length:Int))≤(fb.length:Int))) true (b8 (by omega))
theorem BN (y0 y1 o3 o4 o5:Ob) (an tr:List D) (m:aq) (er:Int) (he:er≠0) (hf:ak Z9 51 [.ptr false 4 0,au m.pc] (tA y0 y1 o3 o4 o5 m an tr 0 []) (.aL [.aY .tight 0 [],av er]) (tA y0 y1 o3 o4 o5 m an tr 0 [])):ak Z9 29 ([.ptr false 6 0]) ((tA y0 y1 o3 o4 o5 m an tr 0 [])) (.aL [ao 3,ax false]) ((tA y0 y1 o3 o4 o5 m an tr 0 [])):=by
 exact ak.ai (aU:=aao 8) mixed [.aH _ _ _ _ _ hf,tC (nt (bc he))] (by kernel_rfl)
section
variable (y0 y1 o3 o4 o5:Ob) (an tr:List D) (m:aq) (fb:List D) (hf:ak Z9 51 [.ptr false 4 0,au m.pc] (tA y0 y1 o3 o4 o5 m an tr 0 []) (.aL [aZ 1 fb,av 0]) (tA y0 y1 o3 o4 o5 m an tr 0 [aF]))
include hf
theorem Ga (op w ab ae aa af aj TY len er:Int) (hr:aP Z9 21 [aZ 1 (gB fb)] (.aL [xD op w ab ae aa af aj TY,av len,av er])) (ZO:er≠0):ak Z9 29 ([.ptr false 6 0]) ((tA y0 y1 o3 o4 o5 m an tr 0 [])) (.aL [ao 3,ax false]) ((tA y0 y1 o3 o4 o5 m an tr 0 (Z7 3 .dead))):=ak.ai (aU:=aao 8) mixed [.aH _ _ _ _ _ hf,tF,mn fb,aw hr,tC (nt (bc ZO))] (by kernel_rfl)
theorem Gd (op w ab ae aa af aj TY len:Int) (hr:aP Z9 21 [aZ 1 (gB fb)] (.aL [xD op w ab ae aa af aj TY,av len,av 0])) (kV:(op==31)=false) (jD:(op==30)=false) (a n:Int) (ha:aP Z9 52 [.agg (eW m),xD op w ab ae aa af aj TY] (.aL [au a,av n,ax false])) (m1:aq) (e:Int) (hd:aP Z9 57 [.agg (eW m),xD op w ab ae aa af aj TY,au 0] (.aL [.agg (eW m1),av e])) (he:e=0):ak Z9 29 ([.ptr false 6 0]) ((tA y0 y1 o3 o4 o5 m an tr 0 [])) (.aL [ao 0,ax true]) ((tA y0 y1 o3 o4 o5 m1 an tr 0 (Z7 6 .dead))):=ak.ai (aU:=aao 8) mixed ([.aH _ _ _ _ _ hf,tF,mn fb,aw hr,tF,aw ha,tC kV,tF,tF,tF,tF,tF,tF,aw hd,tC (nt (cK 0 true he)),tC (eT jD)]++ [tC (eT jD),tC jD,tF]) (by kernel_rfl)
theorem zh (op w ab ae aa af aj TY len:Int) (hr:aP Z9 21 [aZ 1 (gB fb)] (.aL [xD op w ab ae aa af aj TY,av len,av 0])) (kV:(op==31)=false) (a n:Int) (ha:aP Z9 52 [.agg (eW m),xD op w ab ae aa af aj TY] (.aL [au a,av n,ax false])) (m1:aq) (e:Int) (hd:aP Z9 57 [.agg (eW m),xD op w ab ae aa af aj TY,au 0] (.aL [.agg (eW m1),av e])) (he:e≠0):ak Z9 29 ([.ptr false 6 0]) ((tA y0 y1 o3 o4 o5 m an tr 0 [])) (.aL [ao 3,ax false]) ((tA y0 y1 o3 o4 o5 m an tr 0 (Z7 6 .dead))):=ak.ai (aU:=aao 8) mixed [.aH _ _ _ _ _ hf,tF,mn fb,aw hr,tF,aw ha,tC kV,tF,tF,tF,tF,tF,tF,aw hd,tC (nt (bc he))] (by kernel_rfl)
theorem Gb (op w ab ae aa af aj TY len:Int) (hr:aP Z9 21 [aZ 1 (gB fb)] (.aL [xD op w ab ae aa af aj TY,av len,av 0])) (kV:(op==31)=false) (lM:(op==27)=false) (jD:(op==30)=false) (a n:Int) (ha:aP Z9 52 [.agg (eW m),xD op w ab ae aa af aj TY] (.aL [au a,av n,ax true])) (v:Int) (hm:ak Z9 56 [.ptr false 4 0,au a,av n] (tA y0 y1 o3 o4 o5 m an tr 0 [aF,aF,xB op w ab ae aa af aj TY,aF]) (.aL [au v,av 0]) (tA y0 y1 o3 o4 o5 m an tr 0 [aF,aF,xB op w ab ae aa af aj TY,aF])) (m1:aq) (e:Int) (hd:aP Z9 57 [.agg (eW m),xD op w ab ae aa af aj TY,au v] (.aL [.agg (eW m1),av e])) (he:e=0):ak Z9 29 ([.ptr false 6 0]) ((tA y0 y1 o3 o4 o5 m an tr 0 [])) (.aL [ao 0,ax true]) ((tA y0 y1 o3 o4 o5 m1 an tr 0 (Z7 6 .dead))):=ak.ai (aU:=aao 8) mixed ([.aH _ _ _ _ _ hf,tF,mn fb,aw hr,tF,aw ha,tC kV,tT,tT,tT,tT,tC lM,tT,.aH _ _ _ _ _ hm,tF,aw hd]++ [tC (nt (cK 0 true he)),tC (eT jD),tC (eT jD),tC jD,tF]) (by kernel_rfl)
theorem Jl (op w ab ae aa af aj TY len:Int) (hr:aP Z9 21 [aZ 1 (gB fb)] (.aL [xD op w ab ae aa af aj TY,av len,av 0])) (kV:(op==31)=false) (lM:(op==27)=false) (jD:(op==30)=true) (a n:Int) (ha:aP Z9 52 [.agg (eW m),xD op w ab ae aa af aj TY] (.aL [au a,av n,ax true])) (v:Int) (hm:ak Z9 56 [.ptr false 4 0,au a,av n] (tA y0 y1 o3 o4 o5 m an tr 0 [aF,aF,xB op w ab ae aa af aj TY,aF]) (.aL [au v,av 0]) (tA y0 y1 o3 o4 o5 m an tr 0 [aF,aF,xB op w ab ae aa af aj TY,aF])) (m1:aq) (e:Int) (hd:aP Z9 57 [.agg (eW m),xD op w ab ae aa af aj TY,au v] (.aL [.agg (eW m1),av e])) (he:e=0) (hv:(v==0)=false):ak Z9 29 ([.ptr false 6 0]) ((tA y0 y1 o3 o4 o5 m an tr 0 [])) (.aL [ao 0,ax true]) ((tA y0 y1 o3 o4 o5 m1 an tr 0 (Z7 6 .dead))):=ak.ai (aU:=aao 8) mixed ([.aH _ _ _ _ _ hf,tF,mn fb,aw hr,tF,aw ha,tC kV,tT,tT,tT,tT,tC lM,tT,.aH _ _ _ _ _ hm,tF,aw hd]++ [tC (nt (cK 0 true he)),tC (eT (cK 30 true (eq_of_beq jD))),tC (eT (cK 30 true (eq_of_beq jD))),tC (cK 30 true (eq_of_beq jD)),tC hv]) (by kernel_rfl)
theorem F9 (op w ab ae aa af aj TY len:Int) (hr:aP Z9 21 [aZ 1 (gB fb)] (.aL [xD op w ab ae aa af aj TY,av len,av 0])) (kV:(op==31)=false) (lM:(op==27)=false) (jD:(op==30)=true) (a n:Int) (ha:aP Z9 52 [.agg (eW m),xD op w ab ae aa af aj TY] (.aL [au a,av n,ax true])) (v:Int) (hm:ak Z9 56 [.ptr false 4 0,au a,av n] (tA y0 y1 o3 o4 o5 m an tr 0 [aF,aF,xB op w ab ae aa af aj TY,aF]) (.aL [au v,av 0]) (tA y0 y1 o3 o4 o5 m an tr 0 [aF,aF,xB op w ab ae aa af aj TY,aF])) (m1:aq) (e:Int) (hd:aP Z9 57 [.agg (eW m),xD op w ab ae aa af aj TY,au v] (.aL [.agg (eW m1),av e])) (he:e=0) (hv:(v==0)=true):ak Z9 29 ([.ptr false 6 0]) ((tA y0 y1 o3 o4 o5 m an tr 0 [])) (.aL [ao 1,ax false]) ((tA y0 y1 o3 o4 o5 m1 an tr 0 (Z7 6 .dead))):=ak.ai (aU:=aao 8) mixed ([.aH _ _ _ _ _ hf,tF,mn fb,aw hr,tF,aw ha,tC kV,tT,tT,tT,tT,tC lM,tT,.aH _ _ _ _ _ hm,tF,aw hd]++ [tC (nt (cK 0 true he)),tC (eT (cK 30 true (eq_of_beq jD))),tC (eT (cK 30 true (eq_of_beq jD))),tC (cK 30 true (eq_of_beq jD)),tC (cK 0 true (eq_of_beq hv))]) (by kernel_rfl)
theorem qo (op w ab ae aa af aj TY len:Int) (hr:aP Z9 21 [aZ 1 (gB fb)] (.aL [xD op w ab ae aa af aj TY,av len,av 0])) (kV:(op==31)=false) (lM:(op==27)=false) (a n:Int) (ha:aP Z9 52 [.agg (eW m),xD op w ab ae aa af aj TY] (.aL [au a,av n,ax true])) (hm:ak Z9 56 [.ptr false 4 0,au a,av n] (tA y0 y1 o3 o4 o5 m an tr 0 [aF,aF,xB op w ab ae aa af aj TY,aF]) (.aL [au 0,av 20]) (tA y0 y1 o3 o4 o5 m an tr 0 [aF,aF,xB op w ab ae aa af aj TY,aF])):ak Z9 29 ([.ptr false 6 0]) ((tA y0 y1 o3 o4 o5 m an tr 0 [])) (.aL [ao 3,ax false]) ((tA y0 y1 o3 o4 o5 m an tr 0 (Z7 4 .dead))):=ak.ai (aU:=aao 8) mixed [.aH _ _ _ _ _ hf,tF,mn fb,aw hr,tF,aw ha,tC kV,tT,tT,tT,tT,tC lM,tT,.aH _ _ _ _ _ hm,tT] (by kernel_rfl)
theorem wi (op w ab ae aa af aj TY len:Int) (hr:aP Z9 21 [aZ 1 (gB fb)] (.aL [xD op w ab ae aa af aj TY,av len,av 0])) (kV:(op==31)=false) (lM:(op==27)=true) (a n:Int) (ha:aP Z9 52 [.agg (eW m),xD op w ab ae aa af aj TY] (.aL [au a,av n,ax true])) (z:Int) (hs:aP Z9 55 [.agg (eW m),xD op w ab ae aa af aj TY] (au z)) (hm:ak Z9 54 [.ptr false 4 0,au a,av n,au z] (tA y0 y1 o3 o4 o5 m an tr 0 [aF,aF,xB op w ab ae aa af aj TY,aF,aF]) (av 20) (tA y0 y1 o3 o4 o5 m an tr 0 [aF,aF,xB op w ab ae aa af aj TY,aF,aF])):ak Z9 29 ([.ptr false 6 0]) ((tA y0 y1 o3 o4 o5 m an tr 0 [])) (.aL [ao 3,ax false]) ((tA y0 y1 o3 o4 o5 m an tr 0 (Z7 5 .dead))):=ak.ai (aU:=aao 8) mixed [.aH _ _ _ _ _ hf,tF,mn fb,aw hr,tF,aw ha,tC kV,tT,tT,tT,tT,tC (cK 27 true (eq_of_beq lM)),aw hs,.aH _ _ _ _ _ hm,tT] (by kernel_rfl)
theorem zg (op w ab ae aa af aj TY len:Int) (hr:aP Z9 21 [aZ 1 (gB fb)] (.aL [xD op w ab ae aa af aj TY,av len,av 0])) (kV:(op==31)=true) (a n:Int) (q:Bool) (ha:aP Z9 52 [.agg (eW m),xD op w ab ae aa af aj TY] (.aL [au a,av n,ax q])) (g:Int) (hn:aP Z9 85 [.agg (eW m)] (.aL [av g,ax false])):ak Z9 29 ([.ptr false 6 0]) ((tA y0 y1 o3 o4 o5 m an tr 0 [])) (.aL [ao 3,ax false]) ((tA y0 y1 o3 o4 o5 m an tr 0 (Z7 5 .dead))):=by
 exact ak.ai (aU:=aao 8) mixed [.aH _ _ _ _ _ hf,tF,mn fb,aw hr,tF,aw ha,tC (cK 31 true (eq_of_beq kV)),aO,aw hn,tT,tT] (by kernel_rfl)
end
theorem BM (y0 y1 o3 o4 o5:Ob) (an tr:List D) (m:aq) (p1 p3 p5:Ob) (fb:List D) (hf:ak Z9 51 [.ptr false 4 0,au m.pc] (tA y0 y1 o3 o4 o5 m an tr 0 []) (.aL [aZ 1 fb,av 0]) (tA y0 y1 o3 o4 o5 m an tr 0 [aF])) (op w ab ae aa af aj TY len:Int) (hr:aP Z9 21 [aZ 1 (gB fb)] (.aL [xD op w ab ae aa af aj TY,av len,av 0])) (kV:(op==31)=false) (lM:(op==27)=true) (jD:(op==30)=false) (a n:Int) (ha:aP Z9 52 [.agg (eW m),xD op w ab ae aa af aj TY] (.aL [au a,av n,ax true])) (z:Int) (hs:aP Z9 55 [.agg (eW m),xD op w ab ae aa af aj TY] (au z)) (hm:ak Z9 54 [.ptr false 4 0,au a,av n,au z] (tA y0 y1 o3 o4 o5 m an tr 0 [aF,aF,xB op w ab ae aa af aj TY,aF,aF]) (av 0) (tA y0 p1 p3 o4 p5 m an tr 0 [aF,aF,xB op w ab ae aa af aj TY,aF,aF])) (m1:aq) (e:Int) (hd:aP Z9 57 [.agg (eW m),xD op w ab ae aa af aj TY,au 0] (.aL [.agg (eW m1),av e])) (he:e=0):ak Z9 29 ([.ptr false 6 0]) ((tA y0 y1 o3 o4 o5 m an tr 0 [])) (.aL [ao 0,ax true]) ((tA y0 p1 p3 o4 p5 m1 an tr 0 (Z7 7 .dead))):=ak.ai (aU:=aao 8) mixed ([.aH _ _ _ _ _ hf,tF,mn fb,aw hr,tF,aw ha,tC kV,tT,tT,tT,tT,tC (cK 27 true (eq_of_beq lM)),aw hs,.aH _ _ _ _ _ hm,tF,aw hd]++ [tC (nt (cK 0 true he)),tC (eT (cK 30 false (eq_of_beq lM))),tC (eT (cK 30 false (eq_of_beq lM))),tC (cK 30 false (eq_of_beq lM)),tF]) (by kernel_rfl)
theorem zf (y0 y1 o3 o4 o5:Ob) (tr:List D) (m:aq) (fb:List D) (hf:ak Z9 51 [.ptr false 4 0,au m.pc] (tA y0 y1 o3 o4 o5 m [] tr 0 []) (.aL [aZ 1 fb,av 0]) (tA y0 y1 o3 o4 o5 m [] tr 0 [aF])) (op w ab ae aa af aj TY len:Int) (hr:aP Z9 21 [aZ 1 (gB fb)] (.aL [xD op w ab ae aa af aj TY,av len,av 0])) (kV:(op==31)=true) (a n:Int) (q:Bool) (ha:aP Z9 52 [.agg (eW m),xD op w ab ae aa af aj TY] (.aL [au a,av n,ax q])) (g:Int) (hn:aP Z9 85 [.agg (eW m)] (.aL [av g,ax true])):ak Z9 29 ([.ptr false 6 0]) ((tA y0 y1 o3 o4 o5 m [] tr 0 [])) (.aL [ao 2,ax false]) ((tA y0 y1 o3 o4 o5 m [] tr 0 (Z7 5 .dead))):=ak.ai (aU:=aao 8) mixed [.aH _ _ _ _ _ hf,tF,mn fb,aw hr,tF,aw ha,tC (cK 31 true (eq_of_beq kV)),aO,aw hn,tF,tT,tT] (by kernel_rfl)
theorem Gc (y0 y1 o3 o4 o5:Ob) (ar tr ga:List D) (m:aq) (a0:Int) (fb:List D) (hf:ak Z9 51 [.ptr false 4 0,au m.pc] (tA y0 y1 o3 o4 o5 m (au a0::ar) tr 0 []) (.aL [aZ 1 fb,av 0]) (tA y0 y1 o3 o4 o5 m (au a0::ar) tr 0 [aF])) (op w ab ae aa af aj TY len:Int) (hr:aP Z9 21 [aZ 1 (gB fb)] (.aL [xD op w ab ae aa af aj TY,av len,av 0])) (kV:(op==31)=true) (jD:(op==30)=false) (a n:Int) (q:Bool) (ha:aP Z9 52 [.agg (eW m),xD op w ab ae aa af aj TY] (.aL [au a,av n,ax q])) (g:Int) (ht:tr.length≤100000) (hn:aP Z9 85 [.agg (eW m)] (.aL [av g,ax true])) (hg:aP Z9 86 [.agg (eW m)] (aZ 1 ga)) (m1:aq) (e:Int) (hd:aP Z9 57 [.agg (eW m),xD op w ab ae aa af aj TY,au a0] (.aL [.agg (eW m1),av e])) (he:e=0):ak Z9 29 ([.ptr false 6 0]) ((tA y0 y1 o3 o4 o5 m (au a0::ar) tr 0 [])) (.aL [ao 0,ax true]) ((tA y0 y1 o3 o4 o5 m1 ar (tr++ [.agg [av g,aZ 1 ga,au a0]]) 1 (Z7 9 .dead))):=ak.ai (aU:=aao 8) mixed ([.aH _ _ _ _ _ hf,tF,mn fb,aw hr,tF,aw ha,tC (cK 31 true (eq_of_beq kV)),aO,aw hn,tF,tF,aw hg,.get (au a0::ar) 0 (au a0) rfl,.cX (decide ((0:Int)≤(1:Int)∧(1:Int)≤(↑(aaa (au a0::ar)):Int))) true (by ((try simp only [eZ] at*);(try unfold dy at*);omega)),.len (aaa tr+(1:Nat)) ((2147483648:Nat)) (by first|decide|omega|(simp;omega)),tF]++ [aw hd,tC (nt (cK 0 true he)),tC (eT (cK 30 false (eq_of_beq kV))),tC (eT (cK 30 false (eq_of_beq kV))),tC (cK 30 false (eq_of_beq kV)),tF]) (by kernel_rfl)
end Go.Proofs.YtbfpahigdpigpaaGreat
namespace Go.Ev
open Go
theorem Oa {w:Int} (hw:bG w=true):decide (0≤abz.i8.wrap (w - 1))=true:=by
 rcases dW hw with rfl|rfl<;>rfl
theorem Rb (a:Int):((Z8 64 a&&&Z8 64 255).toNat:Int)=a%256:=by have:=and_ones 64 8 (by omega) a;exact this
theorem PT (a:Int):((Z8 64 a&&&Z8 64 65535).toNat:Int)=a%65536:=by have:=and_ones 64 16 (by omega) a;exact this
theorem mP (v:Int) (i:Nat):(Z8 64 v).getLsbD i=decide ((v%18446744073709551616).toNat / 2^i%2=1):=by
 rw [← BitVec.testBit_toNat,toNat_ofInt,Nat.testBit_eq_decide_div_mod_eq]
 rfl
theorem KG (v:Int):fG v 32=(Z8 64 v).getLsbD 31:=by
 rw [mP,show fG v 32=decide (abz.i64.wrap (u64 (abz.i32.wrap v))<0) from rfl,decide_eq_decide]
 unfold u64
 rw [aN,bN,nF]
 omega
theorem KF (v:Int):fG v 64=(Z8 64 v).getLsbD 63:=by
 rw [mP,show fG v 64=decide (abz.i64.wrap v<0) from rfl,decide_eq_decide]
 rw [aN]
 omega
def fh (v w:Int):Bool:=abz.u64.wrap ((Z8 64 (v.fdiv (2^(min (abz.i8.wrap (w - 1)).toNat 64)))&&&Z8 64 1).toNat:Int)==1
theorem NG (a:Int):((Z8 64 a&&&Z8 64 1).toNat:Int)=a%2:=by have:=and_ones 64 1 (by omega) a;exact this
theorem mr (v:Int):fh v 32=(Z8 64 v).getLsbD 31:=by
 have e:fh v 32=(abz.u64.wrap ((Z8 64 (v.fdiv 2147483648)&&&Z8 64 1).toNat:Int)==1):=rfl
 rw [e,NG,bN,aaL _ (by decide),mP,aai,cz,bS]
 omega
theorem rP (v:Int):fh v 64=(Z8 64 v).getLsbD 63:=by
 have e:fh v 64=(abz.u64.wrap ((Z8 64 (v.fdiv 9223372036854775808)&&&Z8 64 1).toNat:Int)==1):=rfl
 rw [e,NG,bN,aaL _ (by decide),mP,aai,cz,bS]
 omega
theorem uV (n:Int):Z8 64 (u64 n)=Z8 64 n:=by
 apply BitVec.eq_of_toNat_eq
 rw [toNat_ofInt,toNat_ofInt]
 unfold u64
 rw [bN,show ((2^64:Nat):Int)=18446744073709551616 from rfl,Int.emod_emod]
theorem qx (x:BitVec 64):Z8 64 (x.toNat:Int)=x:=by
 apply BitVec.eq_of_toNat_eq
 simp
theorem kH (a b:Int) (i:Nat):(Z8 64 (rJ a b)).getLsbD i=((Z8 64 a).getLsbD i !=(Z8 64 b).getLsbD i):=by
 unfold rJ
 rw [uV,qx,BitVec.getLsbD_xor]
theorem rG (a b:Int) (i:Nat):(Z8 64 (qn a b)).getLsbD i=((Z8 64 a).getLsbD i&&(Z8 64 b).getLsbD i):=by
 unfold qn
 rw [uV,qx,BitVec.getLsbD_and]
theorem BC {w a b:Int} (hw:bG w=true):yK w a b=((fh a w==fh b w)&&(fh (u64 (a+b)) w !=fh a w)):=by
 unfold yK
 rcases dW hw with rfl|rfl
 ·rw [KG,rG,kH,kH,mr,mr,mr]
  cases (Z8 64 a).getLsbD 31<;>cases (Z8 64 b).getLsbD 31<;>cases (Z8 64 (u64 (a+b))).getLsbD 31<;>rfl
 ·rw [KF,rG,kH,kH,rP,rP,rP]
  cases (Z8 64 a).getLsbD 63<;>cases (Z8 64 b).getLsbD 63<;>cases (Z8 64 (u64 (a+b))).getLsbD 63<;>rfl
theorem zj {w a b:Int} (hw:bG w=true):rX w a b=((fh a w !=fh b w)&&(fh (u64 (a - b)) w !=fh a w)):=by
 unfold rX
 rcases dW hw with rfl|rfl
 ·rw [KG,rG,kH,kH,mr,mr,mr]
  cases (Z8 64 a).getLsbD 31<;>cases (Z8 64 b).getLsbD 31<;>cases (Z8 64 (u64 (a - b))).getLsbD 31<;>rfl
 ·rw [KF,rG,kH,kH,rP,rP,rP]
  cases (Z8 64 a).getLsbD 63<;>cases (Z8 64 b).getLsbD 63<;>cases (Z8 64 (u64 (a - b))).getLsbD 63<;>rfl
theorem pe {w v:Int} (hw:bG w=true):fG v w=fh v w:=by
 rcases dW hw with rfl|rfl
 ·rw [KG,mr]
 ·rw [KF,rP]
theorem lz {w v:Int} (hw:bG w=true):fh (aI v w) w=fh v w:=by
 rcases dW hw with rfl|rfl
 ·rw [mr,mr,mP,mP,show aI v 32=v%4294967296 from rfl,decide_eq_decide]
  omega
 ·rfl
theorem FN {w a b:Int} (hw:bG w=true):aI (u64 (aI a w+aI b w)) w=aI (u64 (a+b)) w:=by
 unfold u64
 rcases dW hw with rfl|rfl
 ·rw [bN,bN,show ∀v,aI v 32=v%4294967296 from fun _=>rfl]
  simp only [show ∀v,aI v 32=v%4294967296 from fun _=>rfl]
  omega
 ·rfl
theorem FM {w a b:Int} (hw:bG w=true):aI (u64 (aI a w - aI b w)) w=aI (u64 (a - b)) w:=by
 unfold u64
 rcases dW hw with rfl|rfl
 ·rw [bN,bN,show ∀v,aI v 32=v%4294967296 from fun _=>rfl]
  simp only [show ∀v,aI v 32=v%4294967296 from fun _=>rfl]
  omega
 ·rfl
theorem Js {v:Int} (h:fh (aI v 32) 32=true):abz.u64.wrap (aI v 32 - 4294967296)=eV v 32:=by
 rw [show eV v 32=abz.u64.wrap (abz.i32.wrap v) from rfl]
 rw [lz rfl,mr,mP,bS] at h
 rw [show aI v 32=v%4294967296 from rfl,bN,bN,nF]
 omega
theorem Jt {v:Int} (h:fh (aI v 32) 32=false):aI v 32=eV v 32:=by
 rw [show eV v 32=abz.u64.wrap (abz.i32.wrap v) from rfl]
 rw [lz rfl,mr,mP,cI] at h
 rw [show aI v 32=v%4294967296 from rfl,bN,nF]
 omega
theorem mW {v:Int} (h:abz.u64.wrap ((Z8 64 ((aI v 32).fdiv 2147483648)&&&Z8 64 1).toNat:Int)=1):abz.u64.wrap (aI v 32 - 4294967296)=eV v 32:=by
 refine Js ?_
 have e:fh (aI v 32) 32=(abz.u64.wrap ((Z8 64 ((aI v 32).fdiv 2147483648)&&&Z8 64 1).toNat:Int)==1):=rfl
 rw [e,h]
 rfl
theorem mX {v:Int} (h:¬abz.u64.wrap ((Z8 64 ((aI v 32).fdiv 2147483648)&&&Z8 64 1).toNat:Int)=1):aI v 32=eV v 32:=by
 refine Jt ?_
 have e:fh (aI v 32) 32=(abz.u64.wrap ((Z8 64 ((aI v 32).fdiv 2147483648)&&&Z8 64 1).toNat:Int)==1):=rfl
 rw [e]
 exact beq_eq_false_iff_ne.mpr h
end Go.Ev
namespace Go.Proofs.YtbfpahigdpigpaaGreat
open Go Go.Ev
theorem fU (w:Int):aP Z9 129 ([ao w]) (ax (bG w)):=by
 by_cases h0:w=32
 ·subst h0
  exact (QG (d:= .bool true) [tF,tF,tT]).to (by simp only [wk,D.bool.injEq,bG];first|rfl|(rw [aai];simp [];try omega))
 exact (QG (d:= .bool (w==64)) [tC (eF (bc h0)),tC (eF (bc h0)),tC (bc h0)]).to (by simp only [wk,D.bool.injEq,bG];first|rfl|(rw [aai];simp [h0];try omega))
theorem uO (v:Int):aP Z9 89 ([au v,ao 8]) (au (aI v 8)):=by
 have c0:= @ig 8
 exact (Ru (d:= .int .u64 (abz.wrap abz.u64 (↑(aab (Z8 (64:Nat) v&&&Z8 (64:Nat) 255)):Int))) [aw c0,tT,tT,tF,tF,tT]).to (by first|rfl|(simp only [wk,D.int.injEq,fm,Rb,show aI v 8=v%256 from rfl];rw [bN];omega))
theorem Cw (v:Int):aP Z9 89 ([au v,ao 16]) (au (aI v 16)):=by
 have c0:= @ig 16
 exact (Ru (d:= .int .u64 (abz.wrap abz.u64 (↑(aab (Z8 (64:Nat) v&&&Z8 (64:Nat) 65535)):Int))) [aw c0,tT,tT,tF,tF,tT]).to (by first|rfl|(simp only [wk,D.int.injEq,fm,PT,show aI v 16=v%65536 from rfl];rw [bN];omega))
theorem sy (v:Int):aP Z9 89 ([au v,ao 32]) (au (aI v 32)):=by
 have c0:= @ig 32
 exact (Ru (d:= .int .u64 (abz.wrap abz.u64 (↑(aab (Z8 (64:Nat) v&&&Z8 (64:Nat) 4294967295)):Int))) [aw c0,tT,tT,tF,tF,tT]).to (by first|rfl|(simp only [wk,D.int.injEq,fm,Rc,show aI v 32=v%4294967296 from rfl];rw [bN];omega))
theorem Cv (v:Int):aP Z9 89 ([au v,ao 64]) (au (aI v 64)):=by
 have c0:= @ig 64
 exact (Ru (d:= .int .u64 v) [aw c0,tT,tT,tF,tT]).to (by rfl)
theorem xe (v w:Int) (hw:fS w=true):aP Z9 89 [au v,ao w] (au (aI v w)):=by
 rcases eU hw with rfl|rfl|rfl|rfl
 ·exact uO v
 ·exact Cw v
 ·exact sy v
 ·exact Cv v
theorem bn (v w:Int) (hw:bG w=true):aP Z9 89 [au v,ao w] (au (aI v w)):=
 xe v w (by rcases dW hw with rfl|rfl<;>rfl)
def lW (Ua:Int):Prop:= ∀(w a b:Int) (hw:bG w=true),aP Z9 93 ([ao Ua,ao w,au a,au b]) (.aL [au (ft Ua w a b),av 0])
theorem An:lW 0:=by
 intro w a b hw
 have c0:= @fU w
 rw [show (bG w)=true from hw] at c0
 have c1:= @bn a w hw
 have c2:= @bn b w hw
 have c3:= @bn (abz.wrap abz.u64 (aI a w+aI b w)) w hw
 exact (L1 (d:= .aL [au (aI (abz.wrap abz.u64 (aI a w+aI b w)) w),av 0]) [tT,tT,tF,tT,tT,aw c0,tT,tF,tF,aw c1,aw c2,tT,aw c3]).to (by ((simp only [wk,bf,ey];repeat' (first|rfl|exact aaz|apply aaj));done))
theorem oT:lW 1:=by
 intro w a b hw
 have c0:= @fU w
 rw [show (bG w)=true from hw] at c0
 have c1:= @bn a w hw
 have c2:= @bn b w hw
 have c3:= @bn (abz.wrap abz.u64 (aI a w - aI b w)) w hw
 exact (L1 (d:= .aL [au (aI (abz.wrap abz.u64 (aI a w - aI b w)) w),av 0]) [tT,tT,tF,tT,tT,aw c0,tT,tF,tF,aw c1,aw c2,tF,tT,aw c3]).to (by ((simp only [wk,bf,ey];repeat' (first|rfl|exact aaz|apply aaj));done))
theorem J2:lW 2:=by
 intro w a b hw
 have c0:= @fU w
 rw [show (bG w)=true from hw] at c0
 have c1:= @bn a w hw
 have c2:= @bn b w hw
 have c3:= @bn (abz.wrap abz.u64 (aI a w*aI b w)) w hw
 exact (L1 (d:= .aL [au (aI (abz.wrap abz.u64 (aI a w*aI b w)) w),av 0]) [tT,tT,tF,tT,tT,aw c0,tT,tF,tF,aw c1,aw c2,tF,tF,tT,aw c3]).to (by ((simp only [wk,bf,ey];repeat' (first|rfl|exact aaz|apply aaj));done))
theorem Am:lW 4:=by
 intro w a b hw
 have c0:= @fU w
 rw [show (bG w)=true from hw] at c0
 have c1:= @bn a w hw
 have c2:= @bn b w hw
 have c3:= @bn (abz.wrap abz.u64 (↑(aab (Z8 (64:Nat) (aI a w)|||Z8 (64:Nat) (aI b w))):Int)) w hw
 exact (L1 (d:= .aL [au (aI (abz.wrap abz.u64 (↑(aab (Z8 (64:Nat) (aI a w)|||Z8 (64:Nat) (aI b w))):Int)) w),av 0]) [tT,tT,tF,tT,tT,aw c0,tT,tF,tF,aw c1,aw c2,tF,tF,tF,tF,tF,tT,aw c3]).to (by ((simp only [wk,bf,ey];repeat' (first|rfl|exact aaz|apply aaj));done))
theorem oS:lW 5:=by
 intro w a b hw
 have c0:= @fU w
 rw [show (bG w)=true from hw] at c0
 have c1:= @bn a w hw
 have c2:= @bn b w hw
 have c3:= @bn (abz.wrap abz.u64 (↑(aab (Z8 (64:Nat) (aI a w)&&&Z8 (64:Nat) (aI b w))):Int)) w hw
 exact (L1 (d:= .aL [au (aI (abz.wrap abz.u64 (↑(aab (Z8 (64:Nat) (aI a w)&&&Z8 (64:Nat) (aI b w))):Int)) w),av 0]) [tT,tT,tF,tT,tT,aw c0,tT,tF,tF,aw c1,aw c2,tF,tF,tF,tF,tF,tF,tT,aw c3]).to (by ((simp only [wk,bf,ey];repeat' (first|rfl|exact aaz|apply aaj));done))
theorem Al:lW 6:=by
 intro w a b hw
 have c0:= @fU w
 rw [show (bG w)=true from hw] at c0
 have c1:= @bn a w hw
 have c2:= @bn b w hw
 have c3:= @bn (abz.wrap abz.u64 (aI a w*2^min (aal (abz.wrap abz.u64 (↑(aab (Z8 (64:Nat) (aI b w)&&&Z8 (64:Nat) (abz.wrap abz.u64 (abz.wrap abz.i8 (w - 1))))):Int))) (64:Nat))) w hw
 exact (L1 (d:= .aL [au (aI (abz.wrap abz.u64 (aI a w*2^min (aal (abz.wrap abz.u64 (↑(aab (Z8 (64:Nat) (aI b w)&&&Z8 (64:Nat) (abz.wrap abz.u64 (abz.wrap abz.i8 (w - 1))))):Int))) (64:Nat))) w),av 0]) ([tT,tT,tF,tT,tT,aw c0,tT,tF,tF,aw c1,aw c2]++Z7 8 tF++ [tT,tT,aw c3])).to (by ((simp only [wk,bf,ey];repeat' (first|rfl|exact aaz|apply aaj));done))
theorem Ak:lW 7:=by
 intro w a b hw
 have c0:= @fU w
 rw [show (bG w)=true from hw] at c0
 have c1:= @bn a w hw
 have c2:= @bn b w hw
 have c3:= @bn (aaQ (aI a w) (2^min (aal (abz.wrap abz.u64 (↑(aab (Z8 (64:Nat) (aI b w)&&&Z8 (64:Nat) (abz.wrap abz.u64 (abz.wrap abz.i8 (w - 1))))):Int))) (64:Nat))) w hw
 exact (L1 (d:= .aL [au (aI (aaQ (aI a w) (2^min (aal (abz.wrap abz.u64 (↑(aab (Z8 (64:Nat) (aI b w)&&&Z8 (64:Nat) (abz.wrap abz.u64 (abz.wrap abz.i8 (w - 1))))):Int))) (64:Nat))) w),av 0]) ([tT,tT,tF,tT,tT,aw c0,tT,tF,tF,aw c1,aw c2]++Z7 9 tF++ [tT,tT,aw c3])).to (by ((simp only [wk,bf,ey];repeat' (first|rfl|exact aaz|apply aaj));done))
theorem J1:lW 8:=by
 intro w a b hw
 have c0:= @fU w
 rw [show (bG w)=true from hw] at c0
 have c1:= @bn a w hw
 have c2:= @bn b w hw
 have c3:= @bn (abz.wrap abz.u64 (0 - aI a w)) w hw
 exact (L1 (d:= .aL [au (aI (abz.wrap abz.u64 (0 - aI a w)) w),av 0]) ([tT,tT,tF,tT,tT,aw c0,tT,tF,tF,aw c1,aw c2]++Z7 11 tF++ [tT,aw c3])).to (by ((simp only [wk,bf,ey];repeat' (first|rfl|exact aaz|apply aaj));done))
theorem uN:lW 10:=by
 intro w a b hw
 have c0:= @fU w
 rw [show (bG w)=true from hw] at c0
 have c1:= @bn a w hw
 have c2:= @bn b w hw
 have c3:= @bn (abz.wrap abz.u64 (↑(aab (Z8 (64:Nat) (aI a w)^^^Z8 (64:Nat) (aI b w))):Int)) w hw
 exact (L1 (d:= .aL [au (aI (abz.wrap abz.u64 (↑(aab (Z8 (64:Nat) (aI a w)^^^Z8 (64:Nat) (aI b w))):Int)) w),av 0]) ([tT,tT,tF,tT,tT,aw c0,tT,tF,tF,aw c1,aw c2]++cr 8 128++ [aw c3])).to (by ((simp only [wk,bf,ey];repeat' (first|rfl|exact aaz|apply aaj));done))
theorem jK (v w:Int) (hw:bG w=true):aP Z9 134 ([au v,ao w]) (ax (fh v w)):=(R2 (d:= .bool (abz.wrap abz.u64 (↑(aab (Z8 (64:Nat) (aaQ v (2^min (aal (abz.wrap abz.i8 (w - 1))) (64:Nat)))&&&Z8 (64:Nat) 1)):Int)==1)) [tC (v:=true) (@Oa w hw)]).to (by ((simp only [wk,bf,ey];repeat' (first|rfl|exact aaz|apply aaj));done))
theorem mA (w:Int):aP Z9 132 ([ao w]) (ax (bG w)):=by
 by_cases h0:w=32
 ·subst h0
  exact (QE (d:= .bool true) [tF,tF,tT]).to (by simp only [wk,D.bool.injEq,bG];rfl)
 exact (QE (d:= .bool (w==64)) [tC (eF (bc h0)),tC (eF (bc h0)),tC (bc h0)]).to (by simp only [wk,D.bool.injEq,bG];(rw [aai];simp [h0];try omega))
theorem dN:aP Z9 96 ([]) (fD false false false false false):=(Tk (d:= .agg [ax false,ax false,ax false,ax false,ax false]) []).to (by ((simp only [wk,bf,ey];repeat' (first|rfl|exact aaz|apply aaj));done))
theorem mC (w v:Int) (c o:Bool) (hw:bG w=true):aP Z9 133 ([ao w,au v,ax c,ax o]) (fD true c (aI v w==0) (fh (aI v w) w) o):=by
 have c0:= @bn v w hw
 have c1:= @jK (aI v w) w hw
 exact (R3 (d:= .agg [ax true,ax c,ax (aI v w==0),ax (fh (aI v w) w),ax o]) [aw c0,aw c1]).to (by ((simp only [wk,bf,ey];repeat' (first|rfl|exact aaz|apply aaj));done))
theorem mB (w v:Int) (hw:bG w=true):aP Z9 131 ([ao w,au v]) (.aL [fD true false (aI v w==0) (fG v w) false,av 0]):=by
 have c0:= @mA w
 rw [show (bG w)=true from hw] at c0
 have c1:= @mC w v false false hw
 exact (R4 (d:= .aL [.agg [ax true,ax false,ax (aI v w==0),ax (fh (aI v w) w),ax false],av 0]) [aw c0,tF,aw c1]).to (by simp only [wk,bf,ey,fD];rw [lz hw,← pe hw];simp [wk,bf])
theorem EV (w a b:Int) (hw:bG w=true):aP Z9 130 ([ao w,au a,au b]) (.aL [fD true (yL w a b) (aI (u64 (a+b)) w==0) (fG (u64 (a+b)) w) (yK w a b),av 0]):=by
 have c0:= @mA w
 rw [show (bG w)=true from hw] at c0
 have c1:= @bn a w hw
 have c2:= @bn b w hw
 have c3:= @bn (abz.wrap abz.u64 (aI a w+aI b w)) w hw
 have c4:= @jK (aI a w) w hw
 have c5:= @jK (aI b w) w hw
 let E1:EL:= [aw c0,tF,aw c1,aw c2,aw c3,aw c4,aw c5]
 rcases cf (fh (aI a w) w==fh (aI b w) w) with h6|h6
 ·have c7:= @jK (aI (abz.wrap abz.u64 (aI a w+aI b w)) w) w hw
  have c8:= @jK (aI a w) w hw
  have c9:= @mC w (aI (abz.wrap abz.u64 (aI a w+aI b w)) w) (decide (aI (abz.wrap abz.u64 (aI a w+aI b w)) w<aI a w)) (!fh (aI (abz.wrap abz.u64 (aI a w+aI b w)) w) w==fh (aI a w) w) hw
  exact (QF (d:= .aL [.agg [ax true,ax (decide (aI (abz.wrap abz.u64 (aI a w+aI b w)) w<aI a w)),ax (aI (aI (abz.wrap abz.u64 (aI a w+aI b w)) w) w==0),ax (fh (aI (aI (abz.wrap abz.u64 (aI a w+aI b w)) w) w) w),ax !fh (aI (abz.wrap abz.u64 (aI a w+aI b w)) w) w==fh (aI a w) w],av 0]) (E1++ [tC (eT h6),tC (eT h6),tC (eT h6),aw c7,tC (eT h6),tC (eT h6),tC (eT h6),aw c8,tC (eT h6),tC h6,aw c9])).to (by clear E1;simp only [wk,bf,ey,fm,fD,D.bool.injEq,yL,BC hw];have e:aI (abz.u64.wrap (aI a w+aI b w)) w=aI (u64 (a+b)) w:=FN hw;simp only [e,lR,lz hw,pe hw] at*;clear e;(try clear c0 c1 c2 c3 c4 c5);(try clear c7);(try clear c8);(try clear c9);generalize fh a w=x at*;generalize fh b w=y at*;generalize fh (u64 (a+b)) w=z at*;cases x<;>cases y<;>cases z<;>simp_all)
 have T7:= @mC w (aI (abz.wrap abz.u64 (aI a w+aI b w)) w) (decide (aI (abz.wrap abz.u64 (aI a w+aI b w)) w<aI a w)) false hw
 exact (QF (d:= .aL [.agg [ax true,ax (decide (aI (abz.wrap abz.u64 (aI a w+aI b w)) w<aI a w)),ax (aI (aI (abz.wrap abz.u64 (aI a w+aI b w)) w) w==0),ax (fh (aI (aI (abz.wrap abz.u64 (aI a w+aI b w)) w) w) w),ax false],av 0]) (E1++Z7 7 (tC (eT h6))++ [tC h6,aw T7])).to (by clear E1;simp only [wk,bf,ey,fm,fD,D.bool.injEq,yL,BC hw];have e:aI (abz.u64.wrap (aI a w+aI b w)) w=aI (u64 (a+b)) w:=FN hw;simp only [e,lR,lz hw,pe hw] at*;clear e;(try clear c0 c1 c2 c3 c4 c5);(try clear c7);(try clear c8);(try clear c9);generalize fh a w=x at*;generalize fh b w=y at*;generalize fh (u64 (a+b)) w=z at*;cases x<;>cases y<;>cases z<;>simp_all)
theorem oJ (w a b:Int) (hw:bG w=true):aP Z9 95 ([ao w,au a,au b]) (.aL [fD true (rY w a b) (aI (u64 (a - b)) w==0) (fG (u64 (a - b)) w) (rX w a b),av 0]):=by
 have c0:= @mA w
 rw [show (bG w)=true from hw] at c0
 have c1:= @bn a w hw
 have c2:= @bn b w hw
 have c3:= @bn (abz.wrap abz.u64 (aI a w - aI b w)) w hw
 have c4:= @jK (aI a w) w hw
 have c5:= @jK (aI b w) w hw
 let E1:EL:= [aw c0,tF,aw c1,aw c2,aw c3,aw c4,aw c5]
 rcases cf (fh (aI a w) w==fh (aI b w) w) with h6|h6
 ·have c7:= @mC w (aI (abz.wrap abz.u64 (aI a w - aI b w)) w) (decide (aI a w<aI b w)) false hw
  exact (SH (d:= .aL [.agg [ax true,ax (decide (aI a w<aI b w)),ax (aI (aI (abz.wrap abz.u64 (aI a w - aI b w)) w) w==0),ax (fh (aI (aI (abz.wrap abz.u64 (aI a w - aI b w)) w) w) w),ax false],av 0]) (E1++Z7 7 (tC (eT (nt h6)))++ [tC (nt h6),aw c7])).to (by clear E1;simp only [wk,bf,ey,fm,fD,D.bool.injEq,rY,zj hw];have e:aI (abz.u64.wrap (aI a w - aI b w)) w=aI (u64 (a - b)) w:=FM hw;simp only [e,lR,lz hw,pe hw] at*;clear e;(try clear c0 c1 c2 c3 c4 c5);(try clear c7);(try clear c8);(try clear c9);generalize fh a w=x at*;generalize fh b w=y at*;generalize fh (u64 (a - b)) w=z at*;cases x<;>cases y<;>cases z<;>simp_all)
 have c8:= @jK (aI (abz.wrap abz.u64 (aI a w - aI b w)) w) w hw
 have c9:= @jK (aI a w) w hw
 have T7:= @mC w (aI (abz.wrap abz.u64 (aI a w - aI b w)) w) (decide (aI a w<aI b w)) (!fh (aI (abz.wrap abz.u64 (aI a w - aI b w)) w) w==fh (aI a w) w) hw
 exact (SH (d:= .aL [.agg [ax true,ax (decide (aI a w<aI b w)),ax (aI (aI (abz.wrap abz.u64 (aI a w - aI b w)) w) w==0),ax (fh (aI (aI (abz.wrap abz.u64 (aI a w - aI b w)) w) w) w),ax !fh (aI (abz.wrap abz.u64 (aI a w - aI b w)) w) w==fh (aI a w) w],av 0]) (E1++Z7 3 (tC (eT (nt h6)))++ [aw c8]++Z7 3 (tC (eT (nt h6)))++ [aw c9,tC (eT (nt h6)),tC (nt h6),aw T7])).to (by clear E1;simp only [wk,bf,ey,fm,fD,D.bool.injEq,rY,zj hw];have e:aI (abz.u64.wrap (aI a w - aI b w)) w=aI (u64 (a - b)) w:=FM hw;simp only [e,lR,lz hw,pe hw] at*;clear e;(try clear c0 c1 c2 c3 c4 c5);(try clear c7);(try clear c8);(try clear c9);generalize fh a w=x at*;generalize fh b w=y at*;generalize fh (u64 (a - b)) w=z at*;cases x<;>cases y<;>cases z<;>simp_all)
end Go.Proofs.YtbfpahigdpigpaaGreat
namespace Go.Ev
open Go
def aK (b:List Int) (at_:Nat):Int:=b.getD at_ 0
def aM (b:List Int) (at_:Nat):Nat:=if at_<b.length then at_+1 else at_
def cm (b:List Int) (at_:Nat) (bad:Bool):Bool:=bad||decide (b.length≤at_)
theorem ji {b:List Int} {at_:Nat} (h:at_≤b.length):aM b at_≤b.length:=by unfold aM;split<;>omega
theorem zm {v:Int} (h:abz.u64.wrap ((Z8 64 ((aI v 8).fdiv 128)&&&Z8 64 1).toNat:Int)=1):abz.u64.wrap (aI v 8 - 256)=eV v 8:=by
 rw [show eV v 8=abz.u64.wrap (abz.i8.wrap v) from rfl]
 rw [NG,bN,aaL _ (by decide),show aI v 8=v%256 from rfl] at h
 rw [show aI v 8=v%256 from rfl,bN,bN,dk]
 omega
theorem zn {v:Int} (h:¬abz.u64.wrap ((Z8 64 ((aI v 8).fdiv 128)&&&Z8 64 1).toNat:Int)=1):aI v 8=eV v 8:=by
 rw [show eV v 8=abz.u64.wrap (abz.i8.wrap v) from rfl]
 rw [NG,bN,aaL _ (by decide),show aI v 8=v%256 from rfl] at h
 rw [show aI v 8=v%256 from rfl,bN,dk]
 omega
def ez (b:List Int) (k:Nat):Int:=abz.i32.wrap (aK b k+256*aK b (aM b k)+65536*aK b (aM b (aM b k))+16777216*aK b (aM b (aM b (aM b k))))
def uk (b:List Int) (k:Nat):Int:=abz.i8.wrap (aK b k)
def dA (b:List Int) (k:Nat):Nat:=aM b (aM b (aM b (aM b k)))
def dG (b:List Int) (k:Nat) (bad:Bool):Bool:=cm b (aM b (aM b (aM b k))) (cm b (aM b (aM b k)) (cm b (aM b k) (cm b k bad)))
def db (n rr:Int):Int:=abz.i8.wrap (abz.i8.wrap (abz.i64.wrap ((Z8 64 (n.fdiv 8)&&&Z8 64 7).toNat:Int))+abz.i8.wrap (8*rr))
def cY (n mm:Int):Int:=abz.i8.wrap (abz.i8.wrap (abz.i64.wrap ((Z8 64 n&&&Z8 64 7).toNat:Int))+abz.i8.wrap (8*mm))
theorem yJ (a:Int):((Z8 64 a&&&Z8 64 7).toNat:Int)=a%8:=by have:=and_ones 64 3 (by omega) a;exact this
theorem EU {n rr:Int} (hn:0≤n∧n≤255) (hr:0≤rr∧rr≤1):db n rr=n / 8%8+8*rr:=by
 unfold db
 rw [yJ,aaL _ (by decide),aN,dk,dk,dk]
 omega
theorem ET {n mm:Int} (hn:0≤n∧n≤255) (hr:0≤mm∧mm≤1):cY n mm=n%8+8*mm:=by
 unfold cY
 rw [yJ,aN,dk,dk,dk]
 omega
def gi (b:List Int) (k:Nat) (bad:Bool):Bool:=cm b k bad||decide (aK b k<192)
def dR (b:List Int) (k:Nat):Nat:=if aK b k%8=4 then aM b (aM b k) else aM b k
def jL (b:List Int) (k:Nat) (bad:Bool):Bool:=
  let b1:=cm b k bad||decide (aK b k<128)||decide (192≤aK b k)
  if aK b k%8=4 then cm b (aM b k) b1||decide (aK b (aM b k)≠36) else b1
def EZ (n:Int):Bool:=decide (n / 16%16=4)
def uo (b:List Int) (k:Nat):Nat:=if aK b k=102 then aM b k else k
def xH (b:List Int) (k:Nat) (bad:Bool):Bool:=if aK b k=102 then cm b k bad else bad
def Kf (b:List Int) (k:Nat):Bool:=EZ (aK b (uo b k))
def IX (b:List Int) (k:Nat):Int:=if Kf b k then aK b (aM b (uo b k)) else aK b (uo b k)
def Fb (b:List Int) (k:Nat):Nat:=if Kf b k then aM b (aM b (uo b k)) else aM b (uo b k)
def ME (b:List Int) (k:Nat) (bad:Bool):Bool:=
  if Kf b k then cm b (aM b (uo b k)) (cm b (uo b k) (xH b k bad)||decide (aK b (uo b k) / 2%2=1)) else cm b (uo b k) (xH b k bad)
def kn (b:List Int) (k:Nat):Bool:=Kf b k&&decide (aK b (uo b k) / 8%2=1)
def Ke (b:List Int) (k:Nat):Int:=if Kf b k then aK b (uo b k) / 4%2 else 0
def Kg (b:List Int) (k:Nat):Int:=if Kf b k then aK b (uo b k)%2 else 0
theorem LD:∀n:Fin 256,(abz.i64.wrap ((Z8 64 (n.val:Int)&&&Z8 64 240).toNat:Int)=64↔(n.val:Int) / 16%16=4)∧((abz.i64.wrap ((Z8 64 (n.val:Int)&&&Z8 64 8).toNat:Int) !=0)=decide ((n.val:Int) / 8%2=1))∧((abz.i64.wrap ((Z8 64 (n.val:Int)&&&Z8 64 2).toNat:Int) !=0)=decide ((n.val:Int) / 2%2=1))∧abz.i8.wrap (abz.i64.wrap ((Z8 64 (aaQ (n.val:Int) 4)&&&Z8 64 1).toNat:Int))=(n.val:Int) / 4%2∧abz.i8.wrap (abz.i64.wrap ((Z8 64 (n.val:Int)&&&Z8 64 1).toNat:Int))=(n.val:Int)%2:=by decide+kernel
theorem vF {n:Int} (h:0≤n∧n≤255):(abz.i64.wrap ((Z8 64 n&&&Z8 64 240).toNat:Int)=64↔n / 16%16=4)∧((abz.i64.wrap ((Z8 64 n&&&Z8 64 8).toNat:Int) !=0)=decide (n / 8%2=1))∧((abz.i64.wrap ((Z8 64 n&&&Z8 64 2).toNat:Int) !=0)=decide (n / 2%2=1))∧abz.i8.wrap (abz.i64.wrap ((Z8 64 (aaQ n 4)&&&Z8 64 1).toNat:Int))=n / 4%2∧abz.i8.wrap (abz.i64.wrap ((Z8 64 n&&&Z8 64 1).toNat:Int))=n%2:=by
 have:=LD ⟨n.toNat,by omega⟩
 have e:((n.toNat:Nat):Int)=n:=by omega
 simp only [e] at this
 exact this
def yT (op:Int):Int:=if op=0∨(2≤op∧op≤8) then ba op else bI op
def KY (aa op:Int):Bool:=if aa=129 then decide (bm op=2∧op≠15∧op≠1) else if aa=193 then decide (bm op=3) else if aa=211 then decide (bm op=4∧op≠23∧op≠24) else decide (op=23∨op=24∨op=15)
def lP (aa n op:Int):Bool:=KY aa op&&decide (yT op=n)
def jz (aa n:Int):Int:=(hQ.find? (lP aa n)).getD (-1)
end Go.Ev
namespace Go.Proofs.YtbfpahigdpigpaaGreat
open Go Go.Ev
theorem so (v:Int):aP Z9 59 ([au v,ao 8]) (au (eV v 8)):=by
 have c0:= @ig ((8:Int))
 have c1:= @uO (v)
 by_cases h2:abz.wrap abz.u64 (↑(aab (Z8 (64:Nat) (aaQ (aI v (8:Int)) (128:Int))&&&Z8 (64:Nat) (1:Int))):Int)=1
 ·exact (aP.ai (d:= .int .u64 (abz.wrap abz.u64 (aI v (8:Int) - (256:Int)))) mixed Tryz.func59 (by kernel_rfl) [aw c0,tF,aw c1,tT,tC (eT (cK 1 true h2)),tC (eT (cK 1 true h2)),tC (cK 1 true h2),tT,tT]).to (by simp only [wk,D.int.injEq,fm];first|exact zm h2|exact zn h2)
 ·exact (aP.ai (d:= .int .u64 (aI v (8:Int))) mixed Tryz.func59 (by kernel_rfl) [aw c0,tF,aw c1,tT,tC (eT (bc h2)),tC (eT (bc h2)),tC (bc h2),tF]).to (by simp only [wk,D.int.injEq,fm];first|exact zm h2|exact zn h2)
theorem kv (v:Int):aP Z9 59 ([au v,ao 32]) (au (eV v 32)):=by
 have c0:= @ig ((32:Int))
 have c1:= @sy (v)
 by_cases h2:abz.wrap abz.u64 (↑(aab (Z8 (64:Nat) (aaQ (aI v (32:Int)) (2147483648:Int))&&&Z8 (64:Nat) (1:Int))):Int)=1
 ·exact (aP.ai (d:= .int .u64 (abz.wrap abz.u64 (aI v (32:Int) - (4294967296:Int)))) mixed Tryz.func59 (by kernel_rfl) [aw c0,tF,aw c1,tT,tC (eT (cK 1 true h2)),tC (eT (cK 1 true h2)),tC (cK 1 true h2),tT,tT]).to (by simp only [wk,D.int.injEq,fm];first|exact mW h2|exact mX h2)
 ·exact (aP.ai (d:= .int .u64 (aI v (32:Int))) mixed Tryz.func59 (by kernel_rfl) [aw c0,tF,aw c1,tT,tC (eT (bc h2)),tC (eT (bc h2)),tC (bc h2),tF]).to (by simp only [wk,D.int.injEq,fm];first|exact mW h2|exact mX h2)
theorem zt (v:Int):aP Z9 59 ([au v,ao 64]) (au (eV v 64)):=by
 have c0:= @ig 64
 have c1:= @bn v 64 (rfl:true=true)
 by_cases h2:abz.wrap abz.u64 (↑(aab (Z8 (64:Nat) (aaQ (aI v 64) 9223372036854775808)&&&Z8 (64:Nat) 1)):Int)=1
 ·exact (SJ (d:= .int .u64 (aI v 64)) [aw c0,tF,aw c1,tT,tC (eT (cK 1 true h2)),tC (eT (cK 1 true h2)),tC (cK 1 true h2),tF]).to (by simp only [wk,D.int.injEq,fm];first|rfl|exact mW h2|exact mX h2)
 exact (SJ (d:= .int .u64 (aI v 64)) [aw c0,tF,aw c1,tT,tC (eT (bc h2)),tC (eT (bc h2)),tC (bc h2),tF]).to (by simp only [wk,D.int.injEq,fm];first|rfl|exact mW h2|exact mX h2)
def kS (Ua:Int):Prop:= ∀(c z s o:Bool),aP Z9 97 ([ao Ua,fD true c z s o]) (.aL [ax (ee Ua c z s o),av 0])
theorem zE:kS 2:=by
 intro c z s o
 exact (re (d:= .aL [ax !c==false,av 0]) [aO,tT,tT,tF,tF,tT]).to (by (try cases c)<;>(try cases z)<;>(try cases s)<;>(try cases o)<;>first|(simp [wk,bf,ee];done)|rfl|exact ⟨rfl,rfl,trivial⟩)
def kR (Ua:Int):Prop:= ∀(c z s o:Bool),aP Z9 97 ([ao Ua,fD false c z s o]) (.aL [ax false,av 20])
theorem wM:kR 2:=by
 intro c z s o
 exact (re (d:= .aL [ax false,av 20]) [aO,tT,tT,tF,tT]).to (by simp [wk,bf])
theorem zD:kS 3:=by
 intro c z s o
 exact (re (d:= .aL [ax !c==true,av 0]) [aO,tF,tT,tT,tF,tF,tT]).to (by (try cases c)<;>(try cases z)<;>(try cases s)<;>(try cases o)<;>first|(simp [wk,bf,ee];done)|rfl|exact ⟨rfl,rfl,trivial⟩)
theorem wL:kR 3:=by
 intro c z s o
 exact (re (d:= .aL [ax false,av 20]) [aO,tF,tT,tT,tF,tT]).to (by simp [wk,bf])
theorem zA:kS 4:=by
 intro c z s o
 exact (re (d:= .aL [ax !z==false,av 0]) ([aO]++cr 8 140)).to (by (try cases c)<;>(try cases z)<;>(try cases s)<;>(try cases o)<;>first|(simp [wk,bf,ee];done)|rfl|exact ⟨rfl,rfl,trivial⟩)
theorem wK:kR 4:=by
 intro c z s o
 exact (re (d:= .aL [ax false,av 20]) [aO,tF,tF,tT,tT,tF,tT]).to (by simp [wk,bf])
theorem zz:kS 5:=by
 intro c z s o
 exact (re (d:= .aL [ax !z==true,av 0]) ([aO]++cr 9 280)).to (by (try cases c)<;>(try cases z)<;>(try cases s)<;>(try cases o)<;>first|(simp [wk,bf,ee];done)|rfl|exact ⟨rfl,rfl,trivial⟩)
theorem wJ:kR 5:=by
 intro c z s o
 exact (re (d:= .aL [ax false,av 20]) [aO,tF,tF,tF,tT,tT,tF,tT]).to (by simp [wk,bf])
theorem zy:kS 6:=by
 intro c z s o
 cases c
 ·exact (re (d:= .aL [ax !z==false,av 0]) ([aO]++cr 14 7216)).to (by (try cases c)<;>(try cases z)<;>(try cases s)<;>(try cases o)<;>first|(simp [wk,bf,ee];done)|rfl|exact ⟨rfl,rfl,trivial⟩)
 exact (re (d:= .aL [ax true,av 0]) ([aO]++cr 14 9264)).to (by (try cases c)<;>(try cases z)<;>(try cases s)<;>(try cases o)<;>first|(simp [wk,bf,ee];done)|rfl|exact ⟨rfl,rfl,trivial⟩)
theorem wH:kR 6:=by
 intro c z s o
 exact (re (d:= .aL [ax false,av 20]) ([aO]++cr 8 176)).to (by simp [wk,bf])
theorem zx:kS 7:=by
 intro c z s o
 cases c
 ·exact (re (d:= .aL [ax !z==true,av 0]) ([aO]++cr 15 14432)).to (by (try cases c)<;>(try cases z)<;>(try cases s)<;>(try cases o)<;>first|(simp [wk,bf,ee];done)|rfl|exact ⟨rfl,rfl,trivial⟩)
 exact (re (d:= .aL [ax false,av 0]) ([aO]++cr 15 18528)).to (by (try cases c)<;>(try cases z)<;>(try cases s)<;>(try cases o)<;>first|(simp [wk,bf,ee];done)|rfl|exact ⟨rfl,rfl,trivial⟩)
theorem wG:kR 7:=by
 intro c z s o
 exact (re (d:= .aL [ax false,av 20]) ([aO]++cr 9 352)).to (by simp [wk,bf])
theorem wQ:kS 12:=by
 intro c z s o
 exact (re (d:= .aL [ax !(!s==o)==false,av 0]) ([aO]++cr 14 8384)).to (by (try cases c)<;>(try cases z)<;>(try cases s)<;>(try cases o)<;>first|(simp [wk,bf,ee];done)|rfl|exact ⟨rfl,rfl,trivial⟩)
theorem ug:kR 12:=by
 intro c z s o
 exact (re (d:= .aL [ax false,av 20]) ([aO]++cr 10 704)).to (by simp [wk,bf])
theorem wP:kS 13:=by
 intro c z s o
 exact (re (d:= .aL [ax !(!s==o)==true,av 0]) ([aO]++cr 15 16768)).to (by (try cases c)<;>(try cases z)<;>(try cases s)<;>(try cases o)<;>first|(simp [wk,bf,ee];done)|rfl|exact ⟨rfl,rfl,trivial⟩)
theorem uf:kR 13:=by
 intro c z s o
 exact (re (d:= .aL [ax false,av 20]) ([aO]++cr 11 1408)).to (by simp [wk,bf])
theorem wO:kS 14:=by
 intro c z s o
 cases z
 ·exact (re (d:= .aL [ax !(!s==o)==false,av 0]) ([aO]++Z7 8 tF++(cr 14 7939))).to (by (try cases c)<;>(try cases z)<;>(try cases s)<;>(try cases o)<;>first|(simp [wk,bf,ee];done)|rfl|exact ⟨rfl,rfl,trivial⟩)
 exact (re (d:= .aL [ax true,av 0]) ([aO]++Z7 8 tF++ [tT,tT]++Z7 11 tF++ [tT])).to (by (try cases c)<;>(try cases z)<;>(try cases s)<;>(try cases o)<;>first|(simp [wk,bf,ee];done)|rfl|exact ⟨rfl,rfl,trivial⟩)
theorem ue:kR 14:=by
 intro c z s o
 exact (re (d:= .aL [ax false,av 20]) ([aO]++Z7 8 tF++ [tT,tT,tF,tT])).to (by simp [wk,bf])
theorem wN:kS 15:=by
 intro c z s o
 cases z
 ·exact (re (d:= .aL [ax !(!s==o)==true,av 0]) ([aO]++Z7 9 tF++(cr 13 3969))).to (by (try cases c)<;>(try cases z)<;>(try cases s)<;>(try cases o)<;>first|(simp [wk,bf,ee];done)|rfl|exact ⟨rfl,rfl,trivial⟩)
 exact (re (d:= .aL [ax false,av 0]) ([aO]++Z7 9 tF++ [tT]++Z7 11 tF++ [tT])).to (by (try cases c)<;>(try cases z)<;>(try cases s)<;>(try cases o)<;>first|(simp [wk,bf,ee];done)|rfl|exact ⟨rfl,rfl,trivial⟩)
theorem ud:kR 15:=by
 intro c z s o
 exact (re (d:= .aL [ax false,av 20]) ([aO]++Z7 9 tF++ [tT,tF,tT])).to (by simp [wk,bf])
theorem B0 (v w:Int) (hw:bG w=true):aP Z9 59 [au v,ao w] (au (eV v w)):=by
 rcases dW hw with rfl|rfl
 ·exact kv v
 ·exact zt v
theorem vB {cc:Int} (h:kO cc=true):cc=2∨cc=3∨cc=4∨cc=5∨cc=6∨cc=7∨cc=12∨cc=13∨cc=14∨cc=15:=by
 simp only [kO,bS] at h;omega
theorem qs (cc:Int) (c z s o:Bool) (h:kO cc=true):aP Z9 97 [ao cc,fD true c z s o] (.aL [ax (ee cc c z s o),av 0]):=by
 rcases vB h with rfl|rfl|rfl|rfl|rfl|rfl|rfl|rfl|rfl|rfl
 ·exact zE c z s o
 ·exact zD c z s o
 ·exact zA c z s o
 ·exact zz c z s o
 ·exact zy c z s o
 ·exact zx c z s o
 ·exact wQ c z s o
 ·exact wP c z s o
 ·exact wO c z s o
 ·exact wN c z s o
theorem qt (cc:Int) (c z s o:Bool) (h:kO cc=true):aP Z9 97 [ao cc,fD false c z s o] (.aL [ax false,av 20]):=by
 rcases vB h with rfl|rfl|rfl|rfl|rfl|rfl|rfl|rfl|rfl|rfl
 ·exact wM c z s o
 ·exact wL c z s o
 ·exact wK c z s o
 ·exact wJ c z s o
 ·exact wH c z s o
 ·exact wG c z s o
 ·exact ug c z s o
 ·exact uf c z s o
 ·exact ue c z s o
 ·exact ud c z s o
theorem dF (r m:Int) (r0:0≤r) (r1:r≤15) (m0:0≤m) (m1:m≤15) (wide al:Bool) (hn:bP wide r m al=true):aP Z9 67 ([ax wide,ao r,ao m,ax al]) (.aY .tight 1 [aC (cV wide r m)]):=by
 cases wide
 ·rcases cf (decide (r<8)) with h0|h0
  ·rcases cf (decide (m<8)) with h1|h1
   ·cases al
    ·exact (yU (d:= .aY .tight 0 []) [tF,tC (dg 7 h0),tC (dg 7 h1),tT,tT,tT,tT]).to (by (simp only [wk,bf,cB,D.int.injEq,D.aY.injEq,aaI,fm,ey,bo,aN,cV,true_or];(try simp only [bS,cI,bP,aax,aaV] at*);first|omega|(simp;omega)|(exfalso;simp at*;omega)))
    exact (yU (d:= .aY .tight 1 [aC 64]) [tF,tC (dg 7 h0),tC (dg 7 h1),tT,tT,tT,tF]).to (by (simp only [wk,bf,cB,D.int.injEq,D.aY.injEq,aaI,fm,ey,bo,aN,cV,true_or];(try simp only [bS,cI,bP,aax,aaV] at*);first|omega|(simp;omega)|(exfalso;simp at*;omega)))
   exact (yU (d:= .aY .tight 1 [aC 65]) [tF,tC (dg 7 h0),tC (dg 7 h1),tF,tF,tF,tF]).to (by (simp only [wk,bf,cB,D.int.injEq,D.aY.injEq,aaI,fm,ey,bo,aN,cV,true_or];(try simp only [bS,cI,bP,aax,aaV] at*);first|omega|(simp;omega)|(exfalso;simp at*;omega)))
  rcases cf (decide (m<8)) with h2|h2
  ·exact (yU (d:= .aY .tight 1 [aC 68]) [tF,tC (dg 7 h0),tC (dg 7 h2),tF,tF,tF,tF]).to (by (simp only [wk,bf,cB,D.int.injEq,D.aY.injEq,aaI,fm,ey,bo,aN,cV,true_or];(try simp only [bS,cI,bP,aax,aaV] at*);first|omega|(simp;omega)|(exfalso;simp at*;omega)))
  exact (yU (d:= .aY .tight 1 [aC 69]) [tF,tC (dg 7 h0),tC (dg 7 h2),tF,tF,tF,tF]).to (by (simp only [wk,bf,cB,D.int.injEq,D.aY.injEq,aaI,fm,ey,bo,aN,cV,true_or];(try simp only [bS,cI,bP,aax,aaV] at*);first|omega|(simp;omega)|(exfalso;simp at*;omega)))
 rcases cf (decide (r<8)) with h3|h3
 ·rcases cf (decide (m<8)) with h4|h4
  ·exact (yU (d:= .aY .tight 1 [aC 72]) [tT,tC (dg 7 h3),tC (dg 7 h4),tF,tF,tF,tF]).to (by (simp only [wk,bf,cB,D.int.injEq,D.aY.injEq,aaI,fm,ey,bo,aN,cV,true_or];(try simp only [bS,cI,bP,aax,aaV] at*);first|omega|(simp;omega)|(exfalso;simp at*;omega)))
  exact (yU (d:= .aY .tight 1 [aC 73]) [tT,tC (dg 7 h3),tC (dg 7 h4),tF,tF,tF,tF]).to (by (simp only [wk,bf,cB,D.int.injEq,D.aY.injEq,aaI,fm,ey,bo,aN,cV,true_or];(try simp only [bS,cI,bP,aax,aaV] at*);first|omega|(simp;omega)|(exfalso;simp at*;omega)))
 rcases cf (decide (m<8)) with h5|h5
 ·exact (yU (d:= .aY .tight 1 [aC 76]) [tT,tC (dg 7 h3),tC (dg 7 h5),tF,tF,tF,tF]).to (by (simp only [wk,bf,cB,D.int.injEq,D.aY.injEq,aaI,fm,ey,bo,aN,cV,true_or];(try simp only [bS,cI,bP,aax,aaV] at*);first|omega|(simp;omega)|(exfalso;simp at*;omega)))
 exact (yU (d:= .aY .tight 1 [aC 77]) [tT,tC (dg 7 h3),tC (dg 7 h5),tF,tF,tF,tF]).to (by (simp only [wk,bf,cB,D.int.injEq,D.aY.injEq,aaI,fm,ey,bo,aN,cV,true_or];(try simp only [bS,cI,bP,aax,aaV] at*);first|omega|(simp;omega)|(exfalso;simp at*;omega)))
theorem cU (r m:Int) (r0:0≤r) (r1:r≤15) (m0:0≤m) (m1:m≤15) (wide al:Bool) (hn:bP wide r m al=false):aP Z9 67 ([ax wide,ao r,ao m,ax al]) (.aY .tight 1 []):=by
 cases wide
 ·rcases cf (decide (r<8)) with h0|h0
  ·rcases cf (decide (m<8)) with h1|h1
   ·cases al
    ·exact (yU (d:= .aY .tight 0 []) [tF,tC (dg 7 h0),tC (dg 7 h1),tT,tT,tT,tT]).to (by (simp [wk,bf,cB];done))
    exact (yU (d:= .aY .tight 1 [aC 64]) [tF,tC (dg 7 h0),tC (dg 7 h1),tT,tT,tT,tF]).to (by (exfalso;simp [bP] at*;done))
   exact (yU (d:= .aY .tight 1 [aC 65]) [tF,tC (dg 7 h0),tC (dg 7 h1),tF,tF,tF,tF]).to (by (simp only [wk,bf,cB,D.int.injEq,D.aY.injEq,aaI,fm,ey,bo,aN,cV,true_or];(try simp only [bS,cI,bP,aax,aaV] at*);first|omega|(simp;omega)|(exfalso;simp at*;omega)))
  rcases cf (decide (m<8)) with h2|h2
  ·exact (yU (d:= .aY .tight 1 [aC 68]) [tF,tC (dg 7 h0),tC (dg 7 h2),tF,tF,tF,tF]).to (by (simp only [wk,bf,cB,D.int.injEq,D.aY.injEq,aaI,fm,ey,bo,aN,cV,true_or];(try simp only [bS,cI,bP,aax,aaV] at*);first|omega|(simp;omega)|(exfalso;simp at*;omega)))
  exact (yU (d:= .aY .tight 1 [aC 69]) [tF,tC (dg 7 h0),tC (dg 7 h2),tF,tF,tF,tF]).to (by (simp only [wk,bf,cB,D.int.injEq,D.aY.injEq,aaI,fm,ey,bo,aN,cV,true_or];(try simp only [bS,cI,bP,aax,aaV] at*);first|omega|(simp;omega)|(exfalso;simp at*;omega)))
 rcases cf (decide (r<8)) with h3|h3
 ·rcases cf (decide (m<8)) with h4|h4
  ·exact (yU (d:= .aY .tight 1 [aC 72]) [tT,tC (dg 7 h3),tC (dg 7 h4),tF,tF,tF,tF]).to (by (exfalso;simp [bP] at*;done))
  exact (yU (d:= .aY .tight 1 [aC 73]) [tT,tC (dg 7 h3),tC (dg 7 h4),tF,tF,tF,tF]).to (by (simp only [wk,bf,cB,D.int.injEq,D.aY.injEq,aaI,fm,ey,bo,aN,cV,true_or];(try simp only [bS,cI,bP,aax,aaV] at*);first|omega|(simp;omega)|(exfalso;simp at*;omega)))
 rcases cf (decide (m<8)) with h5|h5
 ·exact (yU (d:= .aY .tight 1 [aC 76]) [tT,tC (dg 7 h3),tC (dg 7 h5),tF,tF,tF,tF]).to (by (simp only [wk,bf,cB,D.int.injEq,D.aY.injEq,aaI,fm,ey,bo,aN,cV,true_or];(try simp only [bS,cI,bP,aax,aaV] at*);first|omega|(simp;omega)|(exfalso;simp at*;omega)))
 exact (yU (d:= .aY .tight 1 [aC 77]) [tT,tC (dg 7 h3),tC (dg 7 h5),tF,tF,tF,tF]).to (by (simp only [wk,bf,cB,D.int.injEq,D.aY.injEq,aaI,fm,ey,bo,aN,cV,true_or];(try simp only [bS,cI,bP,aax,aaV] at*);first|omega|(simp;omega)|(exfalso;simp at*;omega)))
theorem gN (r b af:Int) (r0:0≤r) (r1:r≤15) (m0:0≤b) (m1:b≤15) (h0: -2147483648≤af) (h1:af≤2147483647) (hb:decide (b%8=4)=true):aP Z9 70 ([ao r,ao b,av af]) (aZ 1 [aC (128+8*(r%8)+b%8),aC 36,aC (af%256),aC (af / 256%256),aC (af / 65536%256),aC (af / 16777216%256)]):=by
 have c0:= @dQ af
 exact (SI (d:= .aY (.fresh 1) 1 [aC (abz.wrap abz.u8 (abz.i64.wrap (abz.i64.wrap (128+abz.i64.wrap (8*abz.i64.wrap (abz.wrap abz.i8 (↑(aab (Z8 (8:Nat) r&&&Z8 (8:Nat) 7)):Int))))+abz.i64.wrap (abz.wrap abz.i8 (↑(aab (Z8 (8:Nat) b&&&Z8 (8:Nat) 7)):Int))))),aC 36,aC (af%256),aC (af / 256%256),aC (af / 65536%256),aC (af / 16777216%256)]) [tC (cK 4 true (eq_of_beq (@NM b hb))),bH 2,aw c0,bH 6]).to (by simp only [wk,bf,cB,D.int.injEq,D.aY.injEq,aaI,fm,ey,gv,bo,dk,aN,bN,true_or];(simp;omega))
theorem gM (r b af:Int) (r0:0≤r) (r1:r≤15) (m0:0≤b) (m1:b≤15) (h0: -2147483648≤af) (h1:af≤2147483647) (hb:decide (b%8=4)=false):aP Z9 70 ([ao r,ao b,av af]) (aZ 1 [aC (128+8*(r%8)+b%8),aC (af%256),aC (af / 256%256),aC (af / 65536%256),aC (af / 16777216%256)]):=by
 have c0:= @dQ af
 exact (SI (d:= .aY (.fresh 1) 1 [aC (abz.wrap abz.u8 (abz.i64.wrap (abz.i64.wrap (128+abz.i64.wrap (8*abz.i64.wrap (abz.wrap abz.i8 (↑(aab (Z8 (8:Nat) r&&&Z8 (8:Nat) 7)):Int))))+abz.i64.wrap (abz.wrap abz.i8 (↑(aab (Z8 (8:Nat) b&&&Z8 (8:Nat) 7)):Int))))),aC (af%256),aC (af / 256%256),aC (af / 65536%256),aC (af / 16777216%256)]) [tC (@NN b hb),aw c0,bH 5]).to (by simp only [wk,bf,cB,D.int.injEq,D.aY.injEq,aaI,fm,ey,gv,bo,dk,aN,bN,true_or];(simp;omega))
def jq (Ua:Int):Prop:= ∀(w ab ae aa af aj cc:Int) (d0:0≤ab) (d1:ab≤15) (s0:0≤ae) (s1:ae≤15) (b0:0≤aa) (b1:aa≤15) (p0: -2147483648≤af) (p1:af≤2147483647) (i0: -2147483648≤aj) (i1:aj≤2147483647) (c0:0≤cc) (c1:cc≤15) (hm:bC Ua w ab ae aa af aj cc=true),aP Z9 42 ([xD Ua w ab ae aa af aj cc]) (.aL [aZ 1 (bD (aD Ua w ab ae aa af aj cc)),av 0])
theorem AA:jq 0:=by
 intro w ab ae aa af aj cc d0 d1 s0 s1 b0 b1 p0 p1 i0 i1 c0 c1 hm
 have c0:= @a8 0 w ab ae aa af aj cc
 rw [hm] at c0
 have c1:= @aG 0
 rcases cf (bP (w==64) ae ab false) with h2|h2
 ·have c3:= @dF ae ab s0 s1 d0 d1 (w==64) false h2
  generalize g5:cV (w==64) ae ab=r4 at c3
  have c6:= @bh ae ab s0 s1 d0 d1
  generalize g8:bk ae ab=r7 at c6
  exact (gj (d:= .aL [.aY (.fresh 1) 1 [aC r4,aC 137,aC r7],av 0]) [aw c0,tF,aO,tT,tF,aw c1,tT,aw c3,aw c6,bH 3]).to (by (subst_vars;(try simp only [aV] at*);(try simp only [cz] at h);(try simp only [bS,cI] at*);simp_all [wk,bf,cB,aD,show aA 0=1 from rfl,bD,bl,bq,aW,bo,aN,ba,bI];done))
 have c9:= @cU ae ab s0 s1 d0 d1 (w==64) false h2
 have T7:= @bh ae ab s0 s1 d0 d1
 generalize g12:bk ae ab=Un at T7
 exact (gj (d:= .aL [.aY (.fresh 1) 1 [aC 137,aC Un],av 0]) [aw c0,tF,aO,tT,tF,aw c1,tT,aw c9,aw T7,bH 2]).to (by (subst_vars;(try simp only [aV] at*);(try simp only [cz] at h);(try simp only [bS,cI] at*);simp_all [wk,bf,cB,aD,show aA 0=1 from rfl,bD,bl,bq,aW,bo,aN,ba,bI];done))
theorem Ax:jq 2:=by
 intro w ab ae aa af aj cc d0 d1 s0 s1 b0 b1 p0 p1 i0 i1 c0 c1 hm
 have c0:= @a8 2 w ab ae aa af aj cc
 rw [hm] at c0
 have c1:= @aG 2
 rcases cf (bP (w==64) ae ab false) with h2|h2
 ·have c3:= @dF ae ab s0 s1 d0 d1 (w==64) false h2
  generalize g5:cV (w==64) ae ab=r4 at c3
  have c6:= @bh ae ab s0 s1 d0 d1
  generalize g8:bk ae ab=r7 at c6
  exact (gj (d:= .aL [.aY (.fresh 1) 1 [aC r4,aC 1,aC r7],av 0]) [aw c0,tF,aO,tF,tT,tF,aw c1,tT,aw c3,aw c6,bH 3]).to (by (subst_vars;(try simp only [aV] at*);(try simp only [cz] at h);(try simp only [bS,cI] at*);simp_all [wk,bf,cB,aD,show aA 2=1 from rfl,bD,bl,bq,aW,bo,aN,ba,bI];done))
 have c9:= @cU ae ab s0 s1 d0 d1 (w==64) false h2
 have T7:= @bh ae ab s0 s1 d0 d1
 generalize g12:bk ae ab=Un at T7
 exact (gj (d:= .aL [.aY (.fresh 1) 1 [aC 1,aC Un],av 0]) [aw c0,tF,aO,tF,tT,tF,aw c1,tT,aw c9,aw T7,bH 2]).to (by (subst_vars;(try simp only [aV] at*);(try simp only [cz] at h);(try simp only [bS,cI] at*);simp_all [wk,bf,cB,aD,show aA 2=1 from rfl,bD,bl,bq,aW,bo,aN,ba,bI];done))
theorem Aw:jq 3:=by
 intro w ab ae aa af aj cc d0 d1 s0 s1 b0 b1 p0 p1 i0 i1 c0 c1 hm
 have c0:= @a8 3 w ab ae aa af aj cc
 rw [hm] at c0
 have c1:= @aG 3
 rcases cf (bP (w==64) ae ab false) with h2|h2
 ·have c3:= @dF ae ab s0 s1 d0 d1 (w==64) false h2
  generalize g5:cV (w==64) ae ab=r4 at c3
  have c6:= @bh ae ab s0 s1 d0 d1
  generalize g8:bk ae ab=r7 at c6
  exact (gj (d:= .aL [.aY (.fresh 1) 1 [aC r4,aC 9,aC r7],av 0]) [aw c0,tF,aO,tF,tF,tT,tF,aw c1,tT,aw c3,aw c6,bH 3]).to (by (subst_vars;(try simp only [aV] at*);(try simp only [cz] at h);(try simp only [bS,cI] at*);simp_all [wk,bf,cB,aD,show aA 3=1 from rfl,bD,bl,bq,aW,bo,aN,ba,bI];done))
 have c9:= @cU ae ab s0 s1 d0 d1 (w==64) false h2
 have T7:= @bh ae ab s0 s1 d0 d1
 generalize g12:bk ae ab=Un at T7
 exact (gj (d:= .aL [.aY (.fresh 1) 1 [aC 9,aC Un],av 0]) [aw c0,tF,aO,tF,tF,tT,tF,aw c1,tT,aw c9,aw T7,bH 2]).to (by (subst_vars;(try simp only [aV] at*);(try simp only [cz] at h);(try simp only [bS,cI] at*);simp_all [wk,bf,cB,aD,show aA 3=1 from rfl,bD,bl,bq,aW,bo,aN,ba,bI];done))
theorem Av:jq 4:=by
 intro w ab ae aa af aj cc d0 d1 s0 s1 b0 b1 p0 p1 i0 i1 c0 c1 hm
 have c0:= @a8 4 w ab ae aa af aj cc
 rw [hm] at c0
 have c1:= @aG 4
 rcases cf (bP (w==64) ae ab false) with h2|h2
 ·have c3:= @dF ae ab s0 s1 d0 d1 (w==64) false h2
  generalize g5:cV (w==64) ae ab=r4 at c3
  have c6:= @bh ae ab s0 s1 d0 d1
  generalize g8:bk ae ab=r7 at c6
  exact (gj (d:= .aL [.aY (.fresh 1) 1 [aC r4,aC 33,aC r7],av 0]) [aw c0,tF,aO,tF,tF,tF,tT,tF,aw c1,tT,aw c3,aw c6,bH 3]).to (by (subst_vars;(try simp only [aV] at*);(try simp only [cz] at h);(try simp only [bS,cI] at*);simp_all [wk,bf,cB,aD,show aA 4=1 from rfl,bD,bl,bq,aW,bo,aN,ba,bI];done))
 have c9:= @cU ae ab s0 s1 d0 d1 (w==64) false h2
 have T7:= @bh ae ab s0 s1 d0 d1
 generalize g12:bk ae ab=Un at T7
 exact (gj (d:= .aL [.aY (.fresh 1) 1 [aC 33,aC Un],av 0]) [aw c0,tF,aO,tF,tF,tF,tT,tF,aw c1,tT,aw c9,aw T7,bH 2]).to (by (subst_vars;(try simp only [aV] at*);(try simp only [cz] at h);(try simp only [bS,cI] at*);simp_all [wk,bf,cB,aD,show aA 4=1 from rfl,bD,bl,bq,aW,bo,aN,ba,bI];done))
theorem Au:jq 5:=by
 intro w ab ae aa af aj cc d0 d1 s0 s1 b0 b1 p0 p1 i0 i1 c0 c1 hm
 have c0:= @a8 5 w ab ae aa af aj cc
 rw [hm] at c0
 have c1:= @aG 5
 rcases cf (bP (w==64) ae ab false) with h2|h2
 ·have c3:= @dF ae ab s0 s1 d0 d1 (w==64) false h2
  generalize g5:cV (w==64) ae ab=r4 at c3
  have c6:= @bh ae ab s0 s1 d0 d1
  generalize g8:bk ae ab=r7 at c6
  exact (gj (d:= .aL [.aY (.fresh 1) 1 [aC r4,aC 41,aC r7],av 0]) [aw c0,tF,aO,tF,tF,tF,tF,tT,tF,aw c1,tT,aw c3,aw c6,bH 3]).to (by (subst_vars;(try simp only [aV] at*);(try simp only [cz] at h);(try simp only [bS,cI] at*);simp_all [wk,bf,cB,aD,show aA 5=1 from rfl,bD,bl,bq,aW,bo,aN,ba,bI];done))
 have c9:= @cU ae ab s0 s1 d0 d1 (w==64) false h2
 have T7:= @bh ae ab s0 s1 d0 d1
 generalize g12:bk ae ab=Un at T7
 exact (gj (d:= .aL [.aY (.fresh 1) 1 [aC 41,aC Un],av 0]) [aw c0,tF,aO,tF,tF,tF,tF,tT,tF,aw c1,tT,aw c9,aw T7,bH 2]).to (by (subst_vars;(try simp only [aV] at*);(try simp only [cz] at h);(try simp only [bS,cI] at*);simp_all [wk,bf,cB,aD,show aA 5=1 from rfl,bD,bl,bq,aW,bo,aN,ba,bI];done))
theorem Ar:jq 6:=by
 intro w ab ae aa af aj cc d0 d1 s0 s1 b0 b1 p0 p1 i0 i1 c0 c1 hm
 have c0:= @a8 6 w ab ae aa af aj cc
 rw [hm] at c0
 have c1:= @aG 6
 let E1:EL:= [aw c0,tF,aO,tF,tF,tF,tF,tF,tT,tF,aw c1,tT]
 rcases cf (bP (w==64) ae ab false) with h2|h2
 ·have c3:= @dF ae ab s0 s1 d0 d1 (w==64) false h2
  generalize g5:cV (w==64) ae ab=r4 at c3
  have c6:= @bh ae ab s0 s1 d0 d1
  generalize g8:bk ae ab=r7 at c6
  exact (gj (d:= .aL [.aY (.fresh 1) 1 [aC r4,aC 49,aC r7],av 0]) (E1++ [aw c3,aw c6,bH 3])).to (by clear E1;(subst_vars;(try simp only [aV] at*);(try simp only [cz] at h);(try simp only [bS,cI] at*);simp_all [wk,bf,cB,aD,show aA 6=1 from rfl,bD,bl,bq,aW,bo,aN,ba,bI];done))
 have c9:= @cU ae ab s0 s1 d0 d1 (w==64) false h2
 have T7:= @bh ae ab s0 s1 d0 d1
 generalize g12:bk ae ab=Un at T7
 exact (gj (d:= .aL [.aY (.fresh 1) 1 [aC 49,aC Un],av 0]) (E1++ [aw c9,aw T7,bH 2])).to (by clear E1;(subst_vars;(try simp only [aV] at*);(try simp only [cz] at h);(try simp only [bS,cI] at*);simp_all [wk,bf,cB,aD,show aA 6=1 from rfl,bD,bl,bq,aW,bo,aN,ba,bI];done))
theorem Aq:jq 7:=by
 intro w ab ae aa af aj cc d0 d1 s0 s1 b0 b1 p0 p1 i0 i1 c0 c1 hm
 have c0:= @a8 7 w ab ae aa af aj cc
 rw [hm] at c0
 have c1:= @aG 7
 let E1:EL:=([aw c0,tF,aO]++cr 8 64++ [aw c1,tT])
 rcases cf (bP (w==64) ae ab false) with h2|h2
 ·have c3:= @dF ae ab s0 s1 d0 d1 (w==64) false h2
  generalize g5:cV (w==64) ae ab=r4 at c3
  have c6:= @bh ae ab s0 s1 d0 d1
  generalize g8:bk ae ab=r7 at c6
  exact (gj (d:= .aL [.aY (.fresh 1) 1 [aC r4,aC 57,aC r7],av 0]) (E1++ [aw c3,aw c6,bH 3])).to (by clear E1;(subst_vars;(try simp only [aV] at*);(try simp only [cz] at h);(try simp only [bS,cI] at*);simp_all [wk,bf,cB,aD,show aA 7=1 from rfl,bD,bl,bq,aW,bo,aN,ba,bI];done))
 have c9:= @cU ae ab s0 s1 d0 d1 (w==64) false h2
 have T7:= @bh ae ab s0 s1 d0 d1
 generalize g12:bk ae ab=Un at T7
 exact (gj (d:= .aL [.aY (.fresh 1) 1 [aC 57,aC Un],av 0]) (E1++ [aw c9,aw T7,bH 2])).to (by clear E1;(subst_vars;(try simp only [aV] at*);(try simp only [cz] at h);(try simp only [bS,cI] at*);simp_all [wk,bf,cB,aD,show aA 7=1 from rfl,bD,bl,bq,aW,bo,aN,ba,bI];done))
theorem Ap:jq 8:=by
 intro w ab ae aa af aj cc d0 d1 s0 s1 b0 b1 p0 p1 i0 i1 c0 c1 hm
 have c0:= @a8 8 w ab ae aa af aj cc
 rw [hm] at c0
 have c1:= @aG 8
 let E1:EL:=([aw c0,tF,aO]++cr 9 128++ [aw c1,tT])
 rcases cf (bP (w==64) ae ab false) with h2|h2
 ·have c3:= @dF ae ab s0 s1 d0 d1 (w==64) false h2
  generalize g5:cV (w==64) ae ab=r4 at c3
  have c6:= @bh ae ab s0 s1 d0 d1
  generalize g8:bk ae ab=r7 at c6
  exact (gj (d:= .aL [.aY (.fresh 1) 1 [aC r4,aC 133,aC r7],av 0]) (E1++ [aw c3,aw c6,bH 3])).to (by clear E1;(subst_vars;(try simp only [aV] at*);(try simp only [cz] at h);(try simp only [bS,cI] at*);simp_all [wk,bf,cB,aD,show aA 8=1 from rfl,bD,bl,bq,aW,bo,aN,ba,bI];done))
 have c9:= @cU ae ab s0 s1 d0 d1 (w==64) false h2
 have T7:= @bh ae ab s0 s1 d0 d1
 generalize g12:bk ae ab=Un at T7
 exact (gj (d:= .aL [.aY (.fresh 1) 1 [aC 133,aC Un],av 0]) (E1++ [aw c9,aw T7,bH 2])).to (by clear E1;(subst_vars;(try simp only [aV] at*);(try simp only [cz] at h);(try simp only [bS,cI] at*);simp_all [wk,bf,cB,aD,show aA 8=1 from rfl,bD,bl,bq,aW,bo,aN,ba,bI];done))
theorem xx:jq 16:=by
 intro w ab ae aa af aj cc d0 d1 s0 s1 b0 b1 p0 p1 i0 i1 c0 c1 hm
 have c0:= @a8 16 w ab ae aa af aj cc
 rw [hm] at c0
 rcases cf (bP (w==64) ab ae false) with h1|h1
 ·have c2:= @dF ab ae d0 d1 s0 s1 (w==64) false h1
  generalize g4:cV (w==64) ab ae=r3 at c2
  have c5:= @bh ab ae d0 d1 s0 s1
  generalize g7:bk ab ae=r6 at c5
  exact (gj (d:= .aL [.aY (.fresh 1) 1 [aC r3,aC 15,aC 175,aC r6],av 0]) ([aw c0,tF,aO]++Z7 23 tF++ [tT,aw c2,aw c5,bH 4])).to (by (subst_vars;(try simp only [aV] at*);(try simp only [cz] at h);(try simp only [bS,cI] at*);simp_all [wk,bf,cB,aD,show aA 16=2 from rfl,bD,bl,bq,aW,bo,aN,ba,bI];done))
 have c8:= @cU ab ae d0 d1 s0 s1 (w==64) false h1
 have c9:= @bh ab ae d0 d1 s0 s1
 generalize g11:bk ab ae=UC at c9
 exact (gj (d:= .aL [.aY (.fresh 1) 1 [aC 15,aC 175,aC UC],av 0]) ([aw c0,tF,aO]++Z7 23 tF++ [tT,aw c8,aw c9,bH 3])).to (by (subst_vars;(try simp only [aV] at*);(try simp only [cz] at h);(try simp only [bS,cI] at*);simp_all [wk,bf,cB,aD,show aA 16=2 from rfl,bD,bl,bq,aW,bo,aN,ba,bI];done))
theorem xm:jq 25:=by
 intro w ab ae aa af aj cc d0 d1 s0 s1 b0 b1 p0 p1 i0 i1 c0 c1 hm
 have c0:= @a8 25 w ab ae aa af aj cc
 rw [hm] at c0
 have c1:= @aG 25
 have c2:= @aG 25
 have c3:= @aG 25
 have c4:= @aG 25
 let E1:EL:=([aw c0,tF,aO]++Z7 24 tF++ [aw c1,tF,tF,aw c2,tF,aw c3,tF,aw c4,tF,tT])
 rcases cf (bP (w==64) ab ae false) with h5|h5
 ·have c6:= @dF ab ae d0 d1 s0 s1 (w==64) false h5
  generalize g8:cV (w==64) ab ae=r7 at c6
  have c9:= @bh ab ae d0 d1 s0 s1
  generalize g11:bk ab ae=UC at c9
  exact (gj (d:= .aL [.aY (.fresh 1) 1 [aC r7,aC 15,aC (abz.wrap abz.u8 (abz.i64.wrap (64+abz.wrap abz.i64 cc))),aC UC],av 0]) (E1++ [aw c6,aw c9,bH 4])).to (by clear E1;(subst_vars;(try simp only [aV] at*);(try simp only [cz] at h);(try simp only [bS,cI] at*);simp_all [wk,bf,cB,aD,show aA 25=6 from rfl,bD,bl,bq,aW,bo,aN];omega))
 have Uc:= @cU ab ae d0 d1 s0 s1 (w==64) false h5
 have Uh:= @bh ab ae d0 d1 s0 s1
 generalize g15:bk ab ae=UD at Uh
 exact (gj (d:= .aL [.aY (.fresh 1) 1 [aC 15,aC (abz.wrap abz.u8 (abz.i64.wrap (64+abz.wrap abz.i64 cc))),aC UD],av 0]) (E1++ [aw Uc,aw Uh,bH 3])).to (by clear E1;(subst_vars;(try simp only [aV] at*);(try simp only [cz] at h);(try simp only [bS,cI] at*);simp_all [wk,bf,cB,aD,show aA 25=6 from rfl,bD,bl,bq,aW,bo,aN];omega))
theorem Ay (w ab ae aa af aj cc:Int) (d0:0≤ab) (d1:ab≤15) (s0:0≤ae) (s1:ae≤15) (b0:0≤aa) (b1:aa≤15) (p0: -2147483648≤af) (p1:af≤2147483647) (i0: -2147483648≤aj) (i1:aj≤2147483647) (c0:0≤cc) (c1:cc≤15) (hw:w=32∨w=64) (hm:bC 1 w ab ae aa af aj cc=true):aP Z9 42 ([xD 1 w ab ae aa af aj cc]) (.aL [aZ 1 (bD (aD 1 w ab ae aa af aj cc)),av 0]):=by
 have c0:= @a8 1 w ab ae aa af aj cc
 rw [hm] at c0
 have c1:= @aG 1
 let E1:EL:=([aw c0,tF,aO]++Z7 24 tF++ [aw c1,tF,tT])
 rcases cf (bP (w==64) 0 ab false) with h2|h2
 ·have c3:= @dF 0 ab (by decide) (by decide) d0 d1 (w==64) false h2
  generalize g5:cV (w==64) 0 ab=r4 at c3
  by_cases h6:w=64
  ·subst h6
   have c7:= @bh 0 ab (by decide) (by decide) d0 d1
   generalize g9:bk 0 ab=r8 at c7
   have T7:= @dQ aj
   exact (gj (d:= .aL [.aY (.fresh 1) 1 [aC r4,aC 199,aC r8,aC (aj%256),aC (aj / 256%256),aC (aj / 65536%256),aC (aj / 16777216%256)],av 0]) (E1++ [aw c3,tT,aw c7,bH 3,aw T7,bH 7])).to (by clear E1;((try simp only [gv]);subst_vars;(try simp only [aV] at*);(try simp only [cz] at h);(try simp only [bS,cI] at*);simp_all [wk,bf,cB,aD,show aA 1=3 from rfl,bD,bl,bq,aW,bo,aN,dk,ba,bI];done))
  have Uz:= @dQ aj
  exact (gj (d:= .aL [.aY (.fresh 1) 1 [aC r4,aC (abz.wrap abz.u8 (abz.i64.wrap (184+abz.i64.wrap (abz.wrap abz.i8 (↑(aab (Z8 (8:Nat) ab&&&Z8 (8:Nat) 7)):Int))))),aC (aj%256),aC (aj / 256%256),aC (aj / 65536%256),aC (aj / 16777216%256)],av 0]) (E1++ [aw c3,tC (bc h6),bH 2,aw Uz,bH 6])).to (by clear E1;((try simp only [gv]);subst_vars;(try simp only [aV] at*);(try simp only [cz] at h);(try simp only [bS,cI] at*);simp_all [wk,bf,cB,aD,show aA 1=3 from rfl,bD,bl,bq,aW,bo,aN,dk];omega))
 have Uc:= @cU 0 ab (by decide) (by decide) d0 d1 (w==64) false h2
 by_cases h13:w=64
 ·subst h13
  have UP:= @bh 0 ab (by decide) (by decide) d0 d1
  generalize g16:bk 0 ab=V6 at UP
  have XF:= @dQ aj
  exact (gj (d:= .aL [.aY (.fresh 1) 1 [aC 199,aC V6,aC (aj%256),aC (aj / 256%256),aC (aj / 65536%256),aC (aj / 16777216%256)],av 0]) (E1++ [aw Uc,tT,aw UP,bH 2,aw XF,bH 6])).to (by clear E1;((try simp only [gv]);subst_vars;(try simp only [aV] at*);(try simp only [cz] at h);(try simp only [bS,cI] at*);simp_all [wk,bf,cB,aD,show aA 1=3 from rfl,bD,bl,bq,aW,bo,aN,dk,ba,bI];done))
 have Xd:= @dQ aj
 exact (gj (d:= .aL [.aY (.fresh 1) 1 [aC (abz.wrap abz.u8 (abz.i64.wrap (184+abz.i64.wrap (abz.wrap abz.i8 (↑(aab (Z8 (8:Nat) ab&&&Z8 (8:Nat) 7)):Int))))),aC (aj%256),aC (aj / 256%256),aC (aj / 65536%256),aC (aj / 16777216%256)],av 0]) (E1++ [aw Uc,tC (bc h13),bH 1,aw Xd,bH 5])).to (by clear E1;((try simp only [gv]);subst_vars;(try simp only [aV] at*);(try simp only [cz] at h);(try simp only [bS,cI] at*);simp_all [wk,bf,cB,aD,show aA 1=3 from rfl,bD,bl,bq,aW,bo,aN,dk];omega))
def lZ (Ua:Int):Prop:= ∀(w ab ae aa af aj cc:Int) (d0:0≤ab) (d1:ab≤15) (s0:0≤ae) (s1:ae≤15) (b0:0≤aa) (b1:aa≤15) (p0: -2147483648≤af) (p1:af≤2147483647) (i0: -2147483648≤aj) (i1:aj≤2147483647) (c0:0≤cc) (c1:cc≤15) (hm:bC Ua w ab ae aa af aj cc=true),aP Z9 42 ([xD Ua w ab ae aa af aj cc]) (.aL [aZ 1 (bD (aD Ua w ab ae aa af aj cc)),av 0])
theorem Ao:lZ 9:=by
 intro w ab ae aa af aj cc d0 d1 s0 s1 b0 b1 p0 p1 i0 i1 c0 c1 hm
 have c0:= @a8 9 w ab ae aa af aj cc
 rw [hm] at c0
 have c1:= @aG 9
 have c2:= @aG 9
 let E1:EL:=([aw c0,tF,aO]++Z7 8 tF++ [tT,tT,tF,aw c1,tF,tF,aw c2,tT])
 rcases cf (bP (w==64) 0 ab false) with h3|h3
 ·have c4:= @dF 0 ab (by decide) (by decide) d0 d1 (w==64) false h3
  generalize g6:cV (w==64) 0 ab=r5 at c4
  have c7:= @bh 0 ab (by decide) (by decide) d0 d1
  generalize g9:bk 0 ab=r8 at c7
  have T7:= @dQ aj
  exact (gj (d:= .aL [.aY (.fresh 1) 1 [aC r5,aC 129,aC r8,aC (aj%256),aC (aj / 256%256),aC (aj / 65536%256),aC (aj / 16777216%256)],av 0]) (E1++ [aw c4,tF,bH 2,aw c7,bH 3,aw T7,bH 7])).to (by clear E1;((try simp only [gv]);subst_vars;(try simp only [aV] at*);(try simp only [cz] at h);(try simp only [bS,cI] at*);simp_all [wk,bf,cB,aD,show aA 9=3 from rfl,bD,bl,bq,aW,bo,aN,dk,ba,bI];done))
 have Uz:= @cU 0 ab (by decide) (by decide) d0 d1 (w==64) false h3
 have Uc:= @bh 0 ab (by decide) (by decide) d0 d1
 generalize g14:bk 0 ab=Vc at Uc
 have U5:= @dQ aj
 exact (gj (d:= .aL [.aY (.fresh 1) 1 [aC 129,aC Vc,aC (aj%256),aC (aj / 256%256),aC (aj / 65536%256),aC (aj / 16777216%256)],av 0]) (E1++ [aw Uz,tF,bH 1,aw Uc,bH 2,aw U5,bH 6])).to (by clear E1;((try simp only [gv]);subst_vars;(try simp only [aV] at*);(try simp only [cz] at h);(try simp only [bS,cI] at*);simp_all [wk,bf,cB,aD,show aA 9=3 from rfl,bD,bl,bq,aW,bo,aN,dk,ba,bI];done))
theorem xG:lZ 10:=by
 intro w ab ae aa af aj cc d0 d1 s0 s1 b0 b1 p0 p1 i0 i1 c0 c1 hm
 have c0:= @a8 10 w ab ae aa af aj cc
 rw [hm] at c0
 have c1:= @aG 10
 have c2:= @aG 10
 let E1:EL:=([aw c0,tF,aO]++Z7 10 tF++ [tT,tF,aw c1,tF,tF,aw c2,tT])
 rcases cf (bP (w==64) 0 ab false) with h3|h3
 ·have c4:= @dF 0 ab (by decide) (by decide) d0 d1 (w==64) false h3
  generalize g6:cV (w==64) 0 ab=r5 at c4
  have c7:= @bh 1 ab (by decide) (by decide) d0 d1
  generalize g9:bk 1 ab=r8 at c7
  have T7:= @dQ aj
  exact (gj (d:= .aL [.aY (.fresh 1) 1 [aC r5,aC 129,aC r8,aC (aj%256),aC (aj / 256%256),aC (aj / 65536%256),aC (aj / 16777216%256)],av 0]) (E1++ [aw c4,tF,bH 2,aw c7,bH 3,aw T7,bH 7])).to (by clear E1;((try simp only [gv]);subst_vars;(try simp only [aV] at*);(try simp only [cz] at h);(try simp only [bS,cI] at*);simp_all [wk,bf,cB,aD,show aA 10=3 from rfl,bD,bl,bq,aW,bo,aN,dk,ba,bI];done))
 have Uz:= @cU 0 ab (by decide) (by decide) d0 d1 (w==64) false h3
 have Uc:= @bh 1 ab (by decide) (by decide) d0 d1
 generalize g14:bk 1 ab=Vc at Uc
 have U5:= @dQ aj
 exact (gj (d:= .aL [.aY (.fresh 1) 1 [aC 129,aC Vc,aC (aj%256),aC (aj / 256%256),aC (aj / 65536%256),aC (aj / 16777216%256)],av 0]) (E1++ [aw Uz,tF,bH 1,aw Uc,bH 2,aw U5,bH 6])).to (by clear E1;((try simp only [gv]);subst_vars;(try simp only [aV] at*);(try simp only [cz] at h);(try simp only [bS,cI] at*);simp_all [wk,bf,cB,aD,show aA 10=3 from rfl,bD,bl,bq,aW,bo,aN,dk,ba,bI];done))
theorem xF:lZ 11:=by
 intro w ab ae aa af aj cc d0 d1 s0 s1 b0 b1 p0 p1 i0 i1 c0 c1 hm
 have c0:= @a8 11 w ab ae aa af aj cc
 rw [hm] at c0
 have c1:= @aG 11
 have c2:= @aG 11
 let E1:EL:=([aw c0,tF,aO]++Z7 11 tF++ [tT,tT,tF,aw c1,tF,tF,aw c2,tT])
 rcases cf (bP (w==64) 0 ab false) with h3|h3
 ·have c4:= @dF 0 ab (by decide) (by decide) d0 d1 (w==64) false h3
  generalize g6:cV (w==64) 0 ab=r5 at c4
  have c7:= @bh 4 ab (by decide) (by decide) d0 d1
  generalize g9:bk 4 ab=r8 at c7
  have T7:= @dQ aj
  exact (gj (d:= .aL [.aY (.fresh 1) 1 [aC r5,aC 129,aC r8,aC (aj%256),aC (aj / 256%256),aC (aj / 65536%256),aC (aj / 16777216%256)],av 0]) (E1++ [aw c4,tF,bH 2,aw c7,bH 3,aw T7,bH 7])).to (by clear E1;((try simp only [gv]);subst_vars;(try simp only [aV] at*);(try simp only [cz] at h);(try simp only [bS,cI] at*);simp_all [wk,bf,cB,aD,show aA 11=3 from rfl,bD,bl,bq,aW,bo,aN,dk,ba,bI];done))
 have Uz:= @cU 0 ab (by decide) (by decide) d0 d1 (w==64) false h3
 have Uc:= @bh 4 ab (by decide) (by decide) d0 d1
 generalize g14:bk 4 ab=Vc at Uc
 have U5:= @dQ aj
 exact (gj (d:= .aL [.aY (.fresh 1) 1 [aC 129,aC Vc,aC (aj%256),aC (aj / 256%256),aC (aj / 65536%256),aC (aj / 16777216%256)],av 0]) (E1++ [aw Uz,tF,bH 1,aw Uc,bH 2,aw U5,bH 6])).to (by clear E1;((try simp only [gv]);subst_vars;(try simp only [aV] at*);(try simp only [cz] at h);(try simp only [bS,cI] at*);simp_all [wk,bf,cB,aD,show aA 11=3 from rfl,bD,bl,bq,aW,bo,aN,dk,ba,bI];done))
theorem xE:lZ 12:=by
 intro w ab ae aa af aj cc d0 d1 s0 s1 b0 b1 p0 p1 i0 i1 c0 c1 hm
 have c0:= @a8 12 w ab ae aa af aj cc
 rw [hm] at c0
 have c1:= @aG 12
 have c2:= @aG 12
 let E1:EL:=([aw c0,tF,aO]++Z7 14 tF++ [tT,tT,tF,aw c1,tF,tF,aw c2,tT])
 rcases cf (bP (w==64) 0 ab false) with h3|h3
 ·have c4:= @dF 0 ab (by decide) (by decide) d0 d1 (w==64) false h3
  generalize g6:cV (w==64) 0 ab=r5 at c4
  have c7:= @bh 5 ab (by decide) (by decide) d0 d1
  generalize g9:bk 5 ab=r8 at c7
  have T7:= @dQ aj
  exact (gj (d:= .aL [.aY (.fresh 1) 1 [aC r5,aC 129,aC r8,aC (aj%256),aC (aj / 256%256),aC (aj / 65536%256),aC (aj / 16777216%256)],av 0]) (E1++ [aw c4,tF,bH 2,aw c7,bH 3,aw T7,bH 7])).to (by clear E1;((try simp only [gv]);subst_vars;(try simp only [aV] at*);(try simp only [cz] at h);(try simp only [bS,cI] at*);simp_all [wk,bf,cB,aD,show aA 12=3 from rfl,bD,bl,bq,aW,bo,aN,dk,ba,bI];done))
 have Uz:= @cU 0 ab (by decide) (by decide) d0 d1 (w==64) false h3
 have Uc:= @bh 5 ab (by decide) (by decide) d0 d1
 generalize g14:bk 5 ab=Vc at Uc
 have U5:= @dQ aj
 exact (gj (d:= .aL [.aY (.fresh 1) 1 [aC 129,aC Vc,aC (aj%256),aC (aj / 256%256),aC (aj / 65536%256),aC (aj / 16777216%256)],av 0]) (E1++ [aw Uz,tF,bH 1,aw Uc,bH 2,aw U5,bH 6])).to (by clear E1;((try simp only [gv]);subst_vars;(try simp only [aV] at*);(try simp only [cz] at h);(try simp only [bS,cI] at*);simp_all [wk,bf,cB,aD,show aA 12=3 from rfl,bD,bl,bq,aW,bo,aN,dk,ba,bI];done))
theorem xA:lZ 13:=by
 intro w ab ae aa af aj cc d0 d1 s0 s1 b0 b1 p0 p1 i0 i1 c0 c1 hm
 have c0:= @a8 13 w ab ae aa af aj cc
 rw [hm] at c0
 have c1:= @aG 13
 have c2:= @aG 13
 let E1:EL:=([aw c0,tF,aO]++Z7 17 tF++ [tT,tT,tF,aw c1,tF,tF,aw c2,tT])
 rcases cf (bP (w==64) 0 ab false) with h3|h3
 ·have c4:= @dF 0 ab (by decide) (by decide) d0 d1 (w==64) false h3
  generalize g6:cV (w==64) 0 ab=r5 at c4
  have c7:= @bh 6 ab (by decide) (by decide) d0 d1
  generalize g9:bk 6 ab=r8 at c7
  have T7:= @dQ aj
  exact (gj (d:= .aL [.aY (.fresh 1) 1 [aC r5,aC 129,aC r8,aC (aj%256),aC (aj / 256%256),aC (aj / 65536%256),aC (aj / 16777216%256)],av 0]) (E1++ [aw c4,tF,bH 2,aw c7,bH 3,aw T7,bH 7])).to (by clear E1;((try simp only [gv]);subst_vars;(try simp only [aV] at*);(try simp only [cz] at h);(try simp only [bS,cI] at*);simp_all [wk,bf,cB,aD,show aA 13=3 from rfl,bD,bl,bq,aW,bo,aN,dk,ba,bI];done))
 have Uz:= @cU 0 ab (by decide) (by decide) d0 d1 (w==64) false h3
 have Uc:= @bh 6 ab (by decide) (by decide) d0 d1
 generalize g14:bk 6 ab=Vc at Uc
 have U5:= @dQ aj
 exact (gj (d:= .aL [.aY (.fresh 1) 1 [aC 129,aC Vc,aC (aj%256),aC (aj / 256%256),aC (aj / 65536%256),aC (aj / 16777216%256)],av 0]) (E1++ [aw Uz,tF,bH 1,aw Uc,bH 2,aw U5,bH 6])).to (by clear E1;((try simp only [gv]);subst_vars;(try simp only [aV] at*);(try simp only [cz] at h);(try simp only [bS,cI] at*);simp_all [wk,bf,cB,aD,show aA 13=3 from rfl,bD,bl,bq,aW,bo,aN,dk,ba,bI];done))
theorem xz:lZ 14:=by
 intro w ab ae aa af aj cc d0 d1 s0 s1 b0 b1 p0 p1 i0 i1 c0 c1 hm
 have c0:= @a8 14 w ab ae aa af aj cc
 rw [hm] at c0
 have c1:= @aG 14
 have c2:= @aG 14
 let E1:EL:=([aw c0,tF,aO]++Z7 19 tF++ [tT,tT,tF,aw c1,tF,tF,aw c2,tT])
 rcases cf (bP (w==64) 0 ab false) with h3|h3
 ·have c4:= @dF 0 ab (by decide) (by decide) d0 d1 (w==64) false h3
  generalize g6:cV (w==64) 0 ab=r5 at c4
  have c7:= @bh 7 ab (by decide) (by decide) d0 d1
  generalize g9:bk 7 ab=r8 at c7
  have T7:= @dQ aj
  exact (gj (d:= .aL [.aY (.fresh 1) 1 [aC r5,aC 129,aC r8,aC (aj%256),aC (aj / 256%256),aC (aj / 65536%256),aC (aj / 16777216%256)],av 0]) (E1++ [aw c4,tF,bH 2,aw c7,bH 3,aw T7,bH 7])).to (by clear E1;((try simp only [gv]);subst_vars;(try simp only [aV] at*);(try simp only [cz] at h);(try simp only [bS,cI] at*);simp_all [wk,bf,cB,aD,show aA 14=3 from rfl,bD,bl,bq,aW,bo,aN,dk,ba,bI];done))
 have Uz:= @cU 0 ab (by decide) (by decide) d0 d1 (w==64) false h3
 have Uc:= @bh 7 ab (by decide) (by decide) d0 d1
 generalize g14:bk 7 ab=Vc at Uc
 have U5:= @dQ aj
 exact (gj (d:= .aL [.aY (.fresh 1) 1 [aC 129,aC Vc,aC (aj%256),aC (aj / 256%256),aC (aj / 65536%256),aC (aj / 16777216%256)],av 0]) (E1++ [aw Uz,tF,bH 1,aw Uc,bH 2,aw U5,bH 6])).to (by clear E1;((try simp only [gv]);subst_vars;(try simp only [aV] at*);(try simp only [cz] at h);(try simp only [bS,cI] at*);simp_all [wk,bf,cB,aD,show aA 14=3 from rfl,bD,bl,bq,aW,bo,aN,dk,ba,bI];done))
theorem xy:lZ 15:=by
 intro w ab ae aa af aj cc d0 d1 s0 s1 b0 b1 p0 p1 i0 i1 c0 c1 hm
 have c0:= @a8 15 w ab ae aa af aj cc
 rw [hm] at c0
 have c1:= @aG 15
 have c2:= @aG 15
 let E1:EL:=([aw c0,tF,aO]++Z7 9 tF++ [tT,tF,aw c1,tF,tF,aw c2,tT])
 rcases cf (bP (w==64) 0 ab false) with h3|h3
 ·have c4:= @dF 0 ab (by decide) (by decide) d0 d1 (w==64) false h3
  generalize g6:cV (w==64) 0 ab=r5 at c4
  have c7:= @bh 0 ab (by decide) (by decide) d0 d1
  generalize g9:bk 0 ab=r8 at c7
  have T7:= @dQ aj
  exact (gj (d:= .aL [.aY (.fresh 1) 1 [aC r5,aC 247,aC r8,aC (aj%256),aC (aj / 256%256),aC (aj / 65536%256),aC (aj / 16777216%256)],av 0]) (E1++ [aw c4,tT,bH 2,aw c7,bH 3,aw T7,bH 7])).to (by clear E1;((try simp only [gv]);subst_vars;(try simp only [aV] at*);(try simp only [cz] at h);(try simp only [bS,cI] at*);simp_all [wk,bf,cB,aD,show aA 15=3 from rfl,bD,bl,bq,aW,bo,aN,dk,ba,bI];done))
 have Uz:= @cU 0 ab (by decide) (by decide) d0 d1 (w==64) false h3
 have Uc:= @bh 0 ab (by decide) (by decide) d0 d1
 generalize g14:bk 0 ab=Vc at Uc
 have U5:= @dQ aj
 exact (gj (d:= .aL [.aY (.fresh 1) 1 [aC 247,aC Vc,aC (aj%256),aC (aj / 256%256),aC (aj / 65536%256),aC (aj / 16777216%256)],av 0]) (E1++ [aw Uz,tT,bH 1,aw Uc,bH 2,aw U5,bH 6])).to (by clear E1;((try simp only [gv]);subst_vars;(try simp only [aV] at*);(try simp only [cz] at h);(try simp only [bS,cI] at*);simp_all [wk,bf,cB,aD,show aA 15=3 from rfl,bD,bl,bq,aW,bo,aN,dk,ba,bI];done))
end Go.Proofs.YtbfpahigdpigpaaGreat
