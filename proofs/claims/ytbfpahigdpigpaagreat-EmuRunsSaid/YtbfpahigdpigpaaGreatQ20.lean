import Derived.Test.YtbfpahigdpigpaaGreatQ11
import Derived.Test.YtbfpahigdpigpaaGreatQ12
import Derived.Test.YtbfpahigdpigpaaGreatQ19
open List renaming replicate→Z7,length→aaa,length_append→aap,length_cons→aaw,length_nil→aaC,drop_zero→aa0,length_replicate→aa4,take_of_length_le→abd
open Go.Proofs.Tryz renaming prog→Z9,f16→aaE
open Int renaming lt_add_one_of_le→aac,toNat→aal
open Go renaming IntKind→abz
/- Contracts and plain laws that a statement's proof leans on (texts merged:RSM,EC1,EC2,ECC,ECD,PQA,ECF,EM16,EM18,EM19,RRA). -/
set_option linter.unusedVariables false
set_option linter.unusedSimpArgs false
set_option maxRecDepth 100000
set_option maxHeartbeats 8000000
namespace Go.Proofs.YtbfpahigdpigpaaGreat
open Go Go.Ev
theorem Gq (p:List Et) (en r0 l1:Int) (cx:List Int) (ho:tZ p) (hb:(fe p).length≤1099511627776) (bx:(bD cx).all isByte=true) (lx:(bD cx).length≤256) (hc:cO (bD cx)=some (bD cx)):aP Z9 18 ([.agg [ao en,au r0,aZ 1 (bD cx),aZ 3 (fe p),av l1],.agg [ao en,au r0,aZ 1 (bD cx),aZ 3 (fe p),av l1]]) (ax true):=by
 have c0:= @Bu (p) ho hb
 exact (aP.ai (d:= .bool (l1==l1)) mixed Tryz.func18 (by kernel_rfl) ([tC (eT (beq_self_eq_true (en))),tC (eT (beq_self_eq_true (en))),tC (eT (beq_self_eq_true (en))),tC (eT (beq_self_eq_true (en))),tC (eT (beq_self_eq_true (en))),tC (beq_self_eq_true (en)),tC (eT (beq_self_eq_true (r0))),tC (eT (beq_self_eq_true (r0))),tC (eT (beq_self_eq_true (r0))),tC (v:=true) bx,tC (eT (beq_self_eq_true (r0))),tC (eT (beq_self_eq_true (r0))),tC (eT (beq_self_eq_true (r0))),tC (v:=true) bx,tC (eT (beq_self_eq_true (r0))),tC (beq_self_eq_true (r0))]++ [tC (eT (beq_self_eq_true (ByteArray.toList (gC (bD cx))))),tC (eT (beq_self_eq_true (ByteArray.toList (gC (bD cx))))),tC (eT (beq_self_eq_true (ByteArray.toList (gC (bD cx))))),tC (eT (beq_self_eq_true (ByteArray.toList (gC (bD cx))))),tC (eT (beq_self_eq_true (ByteArray.toList (gC (bD cx))))),aO,tC (eT (beq_self_eq_true ((↑(aaa (fe p)):Int)))),tC (eT (beq_self_eq_true ((↑(aaa (fe p)):Int)))),tC (eT (beq_self_eq_true ((↑(aaa (fe p)):Int)))),aw c0,tC (beq_self_eq_true ((↑(aaa (fe p)):Int))),tC (beq_self_eq_true (ByteArray.toList (gC (bD cx)))),tT,tT,tT,tT]++ [tT,tT])).to (by simp [wk])
theorem BU:aP Z9 18 ([.agg [ao 0,au 0,.aY .tight 0 [],.aY .tight 0 [],av 0],.agg [ao 0,au 0,.aY .tight 0 [],.aY .tight 0 [],av 0]]) (ax true):=(aP.ai (d:= .bool true) mixed Tryz.func18 (by kernel_rfl) ((cr 16 65535)++ [tT,tT,tT,tT,tT,aO,tT,tT,tT,aO,tF,.go 64,tF,tT,tT,tT]++ [tT,tT,tT,tT,tT])).to (by simp [wk])
theorem OZ (S cc cx fr st an tr:List D) (m:aq) (left en:Int) (nc nx:Nat) (hS:∀c∈S,c.clean=true) (Uu:∀c∈cc,c.clean=true) (W1:∀c∈cx,c.clean=true) (U1:∀c∈fr,c.clean=true) (T5:∀c∈st,c.clean=true) (h:left≤0):aB Z9 (cq Tryz.f45 0) ⟨[],[5,6,16,17,18,20,1000000,1000009,1000012,1000013,1000014],[(1016024,3)]⟩ 21 pT [ay S,aF,aF,aF,aF,
 .lp .ready
  (let y:=
   let y:=
    let y:=(eA 5);
    cF::cF::cF::cF::y;
   let y:=cF::cF::cF::cF::cF::y;
   cF::cF::cF::cF::y;
  let y:=
   let y:=cF::cF::cF::cF::cF::y;
   .ptr false 0 0::cF::cF::cF::y;
  let y:=cF::cF::cF::cF::cF::y;
  cF::cF::cF::cF::y)
  #[18,19] (dv aaE 0) (du aaE 0),
 .box (ML 9 12 13 14 nc nx),aF,aF,ay cc,aF,aF,ay cx,ay fr,ay st,aF,ay (uZ 6 21 m an tr 0 en),ay [av left],ay [.ptr false 16 0],aF,ay [.ptr false 17 0],.dD 0 3] (Ex.exit 0) kU ((pZ (p6 (dv aaE 0) (du aaE 0)) (dM S) left (dM cc) (dM cx) (dM fr) (dM st) (uZ 6 21 m an tr 0 en) nc nx 0 [])):=aB.ai mixed [tC (dg 0 (b8 (aac h))),.cl _ hS,.cl _ Uu,.cl _ W1,.cl _ U1,.cl _ T5] (by kernel_rfl)
theorem OY (S cc cx fr st an tr:List D) (m:aq) (left en:Int) (nc nx:Nat) (hS:∀c∈S,c.clean=true) (Uu:∀c∈cc,c.clean=true) (W1:∀c∈cx,c.clean=true) (U1:∀c∈fr,c.clean=true) (T5:∀c∈st,c.clean=true) (at_:Int) (a0: -1≤at_) (a1:at_≤16384) (lS:S.length=16386) (UO UI UG Vz Vw:List D) (m2:aq) (VV:Int) (dd:List Ob) (Vp:∀c∈UO,c.clean=true) (Vn:∀c∈UI,c.clean=true) (Vj:∀c∈UG,c.clean=true) (h:0<left) (ho:ak Z9 46 [.ptr false 16 0] (pZ (p6 (dv aaE 0) (du aaE 0)) S left cc cx fr st (uZ 6 21 m an tr 0 en) nc nx 0 []) (av at_) (pZ (p6 (dv aaE 0) (du aaE 0)) S left cc cx fr st (uZ 6 21 m an tr 0 en) nc nx 0 [])) (hs:ak Z9 47 [.ptr false 16 0] (pZ (p6 (dv aaE 0) (du aaE 0)) (S.set (0+aal (abz.i64.wrap (at_+1))*1) (ax true)) (abz.i64.wrap (left - 1)) cc cx fr st (uZ 6 21 m an tr 0 en) nc nx 0 []) (ax true) (pZ (p6 (dv aaE 0) (du aaE 0)) (S.set (0+aal (abz.i64.wrap (at_+1))*1) (ax true)) (abz.i64.wrap (left - 1)) cc UO UI UG (uZ 6 21 m2 Vz Vw 0 VV) nc nx 0 dd)):aB Z9 (cq Tryz.f45 0) ⟨[0,1,3],[5,6,16,17,18,20,1000000,1000009,1000012,1000013,1000014],[(1016024,3)]⟩ 21 pT [ay S,aF,aF,aF,aF,
 .lp .ready
  (let y:=
   let y:=
    let y:=(eA 5);
    cF::cF::cF::cF::y;
   let y:=cF::cF::cF::cF::cF::y;
   cF::cF::cF::cF::y;
  let y:=
   let y:=cF::cF::cF::cF::cF::y;
   .ptr false 0 0::cF::cF::cF::y;
  let y:=cF::cF::cF::cF::cF::y;
  cF::cF::cF::cF::y)
  #[18,19] (dv aaE 0) (du aaE 0),
 .box (ML 9 12 13 14 nc nx),aF,aF,ay cc,aF,aF,ay cx,ay fr,ay st,aF,ay (uZ 6 21 m an tr 0 en),ay [av left],ay [.ptr false 16 0],aF,ay [.ptr false 17 0],.dD 0 3] .norm pT ((pZ (p6 (dv aaE 0) (du aaE 0)) (dM (List.set S (0+aal (abz.i64.wrap (at_+1))*1) (ax true))) (abz.i64.wrap (left - 1)) (dM cc) (dM UO) (dM UI) (dM UG) (uZ 6 21 m2 Vz Vw 0 VV) nc nx 0 [])):=aB.ai mixed [tC (dg 0 (bF (by omega:¬left<1))),.aH _ _ _ _ _ ho,.aU (pP (p6 (dv aaE 0) (du aaE 0)) S left cc cx fr st (uZ 6 21 m an tr 0 en) nc nx),aO,.cX (decide (0≤abz.i64.wrap (at_+1)∧abz.i64.wrap (at_+1)<(↑16386:Int))) true (by ((try simp only [eZ] at*);(try unfold dy at*);omega)),.ej _ _ _ _ (@na (S) (0+aal (abz.i64.wrap (at_+1))*1) (ax true) (by ((try simp only [eZ] at*);(try unfold dy at*);omega))),.raw,tF,.aH _ _ _ _ _ hs,tF,.cl (S.set (0+aal (abz.i64.wrap (at_+1))*1) (ax true)) (D8 hS rfl),.cl _ Uu,.cl _ Vp,.cl _ Vn,.cl _ Vj] (by kernel_rfl)
theorem OX (S cc cx fr st an tr:List D) (m:aq) (left en:Int) (nc nx:Nat) (hS:∀c∈S,c.clean=true) (Uu:∀c∈cc,c.clean=true) (W1:∀c∈cx,c.clean=true) (U1:∀c∈fr,c.clean=true) (T5:∀c∈st,c.clean=true) (at_:Int) (a0: -1≤at_) (a1:at_≤16384) (lS:S.length=16386) (UO UI UG Vz Vw:List D) (m2:aq) (VV:Int) (dd:List Ob) (Vp:∀c∈UO,c.clean=true) (Vn:∀c∈UI,c.clean=true) (Vj:∀c∈UG,c.clean=true) (h:0<left) (ho:ak Z9 46 [.ptr false 16 0] (pZ (p6 (dv aaE 0) (du aaE 0)) S left cc cx fr st (uZ 6 21 m an tr 0 en) nc nx 0 []) (av at_) (pZ (p6 (dv aaE 0) (du aaE 0)) S left cc cx fr st (uZ 6 21 m an tr 0 en) nc nx 0 [])) (hs:ak Z9 47 [.ptr false 16 0] (pZ (p6 (dv aaE 0) (du aaE 0)) (S.set (0+aal (abz.i64.wrap (at_+1))*1) (ax true)) (abz.i64.wrap (left - 1)) cc cx fr st (uZ 6 21 m an tr 0 en) nc nx 0 []) (ax true) (pZ (p6 (dv aaE 0) (du aaE 0)) (S.set (0+aal (abz.i64.wrap (at_+1))*1) (ax true)) (abz.i64.wrap (left - 1)) cc UO UI UG (uZ 6 21 m2 Vz Vw 1 VV) nc nx 1 dd)):aB Z9 (cq Tryz.f45 0) ⟨[0,1,3],[5,6,16,17,18,20,1000000,1000009,1000012,1000013,1000014],[(1016024,3)]⟩ 21 pT [ay S,aF,aF,aF,aF,
 .lp .ready
  (let y:=
   let y:=
    let y:=(eA 5);
    cF::cF::cF::cF::y;
   let y:=cF::cF::cF::cF::cF::y;
   cF::cF::cF::cF::y;
  let y:=
   let y:=cF::cF::cF::cF::cF::y;
   .ptr false 0 0::cF::cF::cF::y;
  let y:=cF::cF::cF::cF::cF::y;
  cF::cF::cF::cF::y)
  #[18,19] (dv aaE 0) (du aaE 0),
 .box (ML 9 12 13 14 nc nx),aF,aF,ay cc,aF,aF,ay cx,ay fr,ay st,aF,ay (uZ 6 21 m an tr 0 en),ay [av left],ay [.ptr false 16 0],aF,ay [.ptr false 17 0],.dD 0 3] .norm pT ((pZ (p6 (dv aaE 0) (du aaE 0)) (dM (List.set S (0+aal (abz.i64.wrap (at_+1))*1) (ax true))) (abz.i64.wrap (left - 1)) (dM cc) (dM UO) (dM UI) (dM UG) (uZ 6 21 m2 Vz Vw 0 VV) nc nx 0 [])):=aB.ai mixed [tC (dg 0 (bF (by omega:¬left<1))),.aH _ _ _ _ _ ho,.aU (pP (p6 (dv aaE 0) (du aaE 0)) S left cc cx fr st (uZ 6 21 m an tr 0 en) nc nx),aO,.cX (decide (0≤abz.i64.wrap (at_+1)∧abz.i64.wrap (at_+1)<(↑16386:Int))) true (by ((try simp only [eZ] at*);(try unfold dy at*);omega)),.ej _ _ _ _ (@na (S) (0+aal (abz.i64.wrap (at_+1))*1) (ax true) (by ((try simp only [eZ] at*);(try unfold dy at*);omega))),.raw,tF,.aH _ _ _ _ _ hs,tF,.cl (S.set (0+aal (abz.i64.wrap (at_+1))*1) (ax true)) (D8 hS rfl),.cl _ Uu,.cl _ Vp,.cl _ Vn,.cl _ Vj] (by kernel_rfl)
theorem Qw (S cc cx fr st an tr:List D) (m:aq) (left en:Int) (nc nx:Nat) (hS:∀c∈S,c.clean=true) (Uu:∀c∈cc,c.clean=true) (W1:∀c∈cx,c.clean=true) (U1:∀c∈fr,c.clean=true) (T5:∀c∈st,c.clean=true) (at_:Int) (a0: -1≤at_) (a1:at_≤16384) (lS:S.length=16386) (UO UI UG Vz Vw:List D) (m2:aq) (VV:Int) (dd:List Ob) (Vp:∀c∈UO,c.clean=true) (Vn:∀c∈UI,c.clean=true) (Vj:∀c∈UG,c.clean=true) (h:0<left) (ho:ak Z9 46 [.ptr false 16 0] (pZ (p6 (dv aaE 0) (du aaE 0)) S left cc cx fr st (uZ 6 21 m an tr 0 en) nc nx 0 []) (av at_) (pZ (p6 (dv aaE 0) (du aaE 0)) S left cc cx fr st (uZ 6 21 m an tr 0 en) nc nx 0 [])) (hs:ak Z9 47 [.ptr false 16 0] (pZ (p6 (dv aaE 0) (du aaE 0)) (S.set (0+aal (abz.i64.wrap (at_+1))*1) (ax true)) (abz.i64.wrap (left - 1)) cc cx fr st (uZ 6 21 m an tr 0 en) nc nx 0 []) (ax false) (pZ (p6 (dv aaE 0) (du aaE 0)) (S.set (0+aal (abz.i64.wrap (at_+1))*1) (ax true)) (abz.i64.wrap (left - 1)) cc UO UI UG (uZ 6 21 m2 Vz Vw 0 VV) nc nx 0 dd)):aB Z9 (cq Tryz.f45 0) ⟨[],[5,6,16,17,18,20,1000000,1000009,1000012,1000013,1000014],[(1016024,3)]⟩ 21 pT [ay S,aF,aF,aF,aF,
 .lp .ready
  (let y:=
   let y:=
    let y:=(eA 5);
    cF::cF::cF::cF::y;
   let y:=cF::cF::cF::cF::cF::y;
   cF::cF::cF::cF::y;
  let y:=
   let y:=cF::cF::cF::cF::cF::y;
   .ptr false 0 0::cF::cF::cF::y;
  let y:=cF::cF::cF::cF::cF::y;
  cF::cF::cF::cF::y)
  #[18,19] (dv aaE 0) (du aaE 0),
 .box (ML 9 12 13 14 nc nx),aF,aF,ay cc,aF,aF,ay cx,ay fr,ay st,aF,ay (uZ 6 21 m an tr 0 en),ay [av left],ay [.ptr false 16 0],aF,ay [.ptr false 17 0],.dD 0 3] (Ex.ret) kU ((pZ (p6 (dv aaE 0) (du aaE 0)) (dM (List.set S (0+aal (abz.i64.wrap (at_+1))*1) (ax true))) (abz.i64.wrap (left - 1)) (dM cc) (dM UO) (dM UI) (dM UG) (uZ 6 21 m2 Vz Vw 0 VV) nc nx 0 [])):=aB.ai mixed [tC (dg 0 (bF (by omega:¬left<1))),.aH _ _ _ _ _ ho,.aU (pP (p6 (dv aaE 0) (du aaE 0)) S left cc cx fr st (uZ 6 21 m an tr 0 en) nc nx),aO,.cX (decide (0≤abz.i64.wrap (at_+1)∧abz.i64.wrap (at_+1)<(↑16386:Int))) true (by ((try simp only [eZ] at*);(try unfold dy at*);omega)),.ej _ _ _ _ (@na (S) (0+aal (abz.i64.wrap (at_+1))*1) (ax true) (by ((try simp only [eZ] at*);(try unfold dy at*);omega))),.raw,tF,.aH _ _ _ _ _ hs,tT,.cl (S.set (0+aal (abz.i64.wrap (at_+1))*1) (ax true)) (D8 hS rfl),.cl _ Uu,.cl _ Vp,.cl _ Vn,.cl _ Vj] (by kernel_rfl)
theorem OW (S out:List D) (k:Nat) (lS:S.length=16386) (hS:∀c∈S,c.clean=true) (hk:16386≤k):aB Z9 (cq aaE 0) ⟨[8],[],[(8,1)]⟩ 22 (eA 8++ [.aY (.tok 22 0) 1 out]++eA 14++ [.agg S,av (↑k:Int)]++eA 11) [aF,aF,aF,aF,aF,aF,aF,aF,aF,aF,aF,aF,aF,aF,aF,aF,aF,aF,aF,aF,aF,aF,.dD 0 1] (.exit 2) (eA 8++ [.aY (.tok 22 0) 1 out]++eA 27) ([aF,aF,aF,aF,aF,aF,aF,aF,aF,aF,aF,aF,aF,aF,aF,aF,aF,aF,aF,aF,aF,aF,.dD 0 1]):=(aB.ai (sp:=⟨[8],[],[(8,1)]⟩) (n0:=22) (ex:=Ex.exit (2:Nat)) (t':=(eA 8++ [.aY (.tok 22 0) 1 out]++eA 27)) (s':= [aF,aF,aF,aF,aF,aF,aF,aF,aF,aF,aF,aF,aF,aF,aF,aF,aF,aF,aF,aF,aF,aF,.dD 0 1]) mixed [tC (by ((try simp only [aap,aaw,aaC,aN,bS,cI,cz,ki,fO] at*);omega):(decide ((↑k:Int)<(16386:Int)))=false)]).cast (by first|rfl|(rw [show abz.i64.wrap ((k:Int)+1)=((k+1:Nat):Int) by rw [aN];omega])) (by first|rfl|(rw [show abz.i64.wrap ((k:Int)+1)=((k+1:Nat):Int) by rw [aN];omega]))
theorem Qu (S out:List D) (k:Nat) (lS:S.length=16386) (hS:∀c∈S,c.clean=true) (hk:k<16386) (hx:S[k*1]? =some (ax false)):aB Z9 (cq aaE 0) ⟨[8,24,1000023],[],[(8,1)]⟩ 22 (eA 8++ [.aY (.tok 22 0) 1 out]++eA 14++ [.agg S,av (↑k:Int)]++eA 11) [aF,aF,aF,aF,aF,aF,aF,aF,aF,aF,aF,aF,aF,aF,aF,aF,aF,aF,aF,aF,aF,aF,.dD 0 1] .norm (eA 8++ [.aY (.tok 22 0) 1 out]++eA 14++ [.agg (List.map D.bg S),av (↑(k+(1:Nat)):Int)]++eA 11) ([aF,aF,aF,aF,aF,aF,aF,aF,aF,aF,aF,aF,aF,aF,aF,aF,aF,aF,aF,aF,aF,aF,.dD 0 1]):=(aB.ai (sp:=⟨[8,24,1000023],[],[(8,1)]⟩) (n0:=22) (ex:=Ex.norm) (t':=(eA 8++ [.aY (.tok 22 0) 1 out]++eA 14++ [.agg (List.map D.bg S),av (abz.i64.wrap ((↑k:Int)+(1:Int)))]++eA 11)) (s':= [aF,aF,aF,aF,aF,aF,aF,aF,aF,aF,aF,aF,aF,aF,aF,aF,aF,aF,aF,aF,aF,aF,.dD 0 1]) mixed [tC (by ((try simp only [aap,aaw,aaC,aN,bS,cI,cz,ki,fO] at*);omega):(decide ((↑k:Int)<(16386:Int)))=true),.cX (decide ((0:Int)≤(↑k:Int)∧(↑k:Int)<(↑(16386:Nat):Int))) true (by ((try simp only [aap,aaw,aaC,aN,bS,cI,cz,ki,fO] at*);omega)),.get _ _ _ hx,tF,.cl (S) (by exact hS)]).cast (by first|rfl|(rw [show abz.i64.wrap ((k:Int)+1)=((k+1:Nat):Int) by rw [aN];omega])) (by first|rfl|(rw [show abz.i64.wrap ((k:Int)+1)=((k+1:Nat):Int) by rw [aN];omega]))
theorem OV (S out:List D) (k:Nat) (lS:S.length=16386) (hS:∀c∈S,c.clean=true) (hk:k<16386) (hx:S[k*1]? =some (ax true)) (ho:out.length≤16386):aB Z9 (cq aaE 0) ⟨[8,24,1000023],[],[(8,1)]⟩ 22 (eA 8++ [.aY (.tok 22 0) 1 out]++eA 14++ [.agg S,av (↑k:Int)]++eA 11) [aF,aF,aF,aF,aF,aF,aF,aF,aF,aF,aF,aF,aF,aF,aF,aF,aF,aF,aF,aF,aF,aF,.dD 0 1] .norm (eA 8++ [.aY (.tok 22 0) 1 (out++ [av (abz.i64.wrap ((↑k:Int) - (1:Int)))])]++eA 14++ [.agg (List.map D.bg S),av (↑(k+(1:Nat)):Int)]++eA 11) ([aF,aF,aF,aF,aF,aF,aF,aF,aF,aF,aF,aF,aF,aF,aF,aF,aF,aF,aF,aF,aF,aF,.dD 0 1]):=(aB.ai (sp:=⟨[8,24,1000023],[],[(8,1)]⟩) (n0:=22) (ex:=Ex.norm) (t':=(eA 8++ [.aY (.tok 22 0) 1 (out++ [av (abz.i64.wrap ((↑k:Int) - (1:Int)))])]++eA 14++ [.agg (List.map D.bg S),av (abz.i64.wrap ((↑k:Int)+(1:Int)))]++eA 11)) (s':= [aF,aF,aF,aF,aF,aF,aF,aF,aF,aF,aF,aF,aF,aF,aF,aF,aF,aF,aF,aF,aF,aF,.dD 0 1]) mixed [tC (by ((try simp only [aap,aaw,aaC,aN,bS,cI,cz,ki,fO] at*);omega):(decide ((↑k:Int)<(16386:Int)))=true),.cX (decide ((0:Int)≤(↑k:Int)∧(↑k:Int)<(↑(16386:Nat):Int))) true (by ((try simp only [aap,aaw,aaC,aN,bS,cI,cz,ki,fO] at*);omega)),.get _ _ _ hx,tT,.len (aaa out+(1:Nat)) ((2147483648:Nat)) (by first|decide|omega|(simp;omega)),.cl (S) (by exact hS)]).cast (by first|rfl|(rw [show abz.i64.wrap ((k:Int)+1)=((k+1:Nat):Int) by rw [aN];omega])) (by first|rfl|(rw [show abz.i64.wrap ((k:Int)+1)=((k+1:Nat):Int) by rw [aN];omega]))
abbrev pX (lp:Ob) (l:List Bool) (left:Int) (cb:List Int) (nx:Nat) (e:kp):List Ob:=pS (ay (jw l)) lp (ay [av left]) e.m (bD cb) (bD e.cx) (bD e.fr) (bD e.st) (wD e.an) (fe e.tr) e.en cb.length nx 0 []
theorem O6 (pc:Int):KB pc=nD pc:=rfl
theorem yr (l:List Bool):dM (jw l)=jw l:=gE l
theorem uR (cb:List Int) (hb:dr cb) (hc:cb.length≤16384) (nx:Nat) (VU:nx≤256):∀(f:Nat) (e:kp) (l:List Bool),e.en=0→l.length=16386→e.cx.length=nx→e.fr.length=64→e.st.length=264→e.tr.length+f≤100000→
  bL Z9 (cq Tryz.f45 0) 21 pT (pX (p6 (dv aaE 0) (du aaE 0)) l (f:Int) cb nx e) (FI (iA cb f e).1) kU (pX (p6 (dv aaE 0) (du aaE 0)) (jI (nA cb f e) l) ((iA cb f e).2:Int) cb nx (iA cb f e).1)
 |0,e,l,h0,hl,hx,hf,hs,ht=>by
  have:=OZ (jw l) (bD cb) (bD e.cx) (bD e.fr) (bD e.st) (wD e.an) (fe e.tr) e.m ((0:Nat):Int) e.en cb.length nx (fF _) (a7 _) (a7 _) (a7 _) (a7 _) (Int.le_refl _)
  rw [yr,jG,jG,jG,jG] at this
  rw [iA,FI,if_pos h0]
  exact bL.last this (fun h=>by cases h)
 |f+1,e,l,h0,hl,hx,hf,hs,ht=>by
  have hw:abz.i64.wrap (((f+1:Nat):Int) - 1)=(f:Int):=by rw [aN];omega
  have hk:(jw l).set (0+aal (abz.i64.wrap (nD e.m.pc+1))*1) (ax true)=jw (l.set (kB (nD e.m.pc)) true):=by rw [Nat.zero_add,Nat.mul_one];exact EJ _ _
  have WV:(l.set (kB (nD e.m.pc)) true).length=16386:=by rw [List.length_set];exact hl
  obtain ⟨a0,a1⟩:=Kz e.m.pc
  have ho:=KA (ay (jw l)) (p6 (dv aaE 0) (du aaE 0)) (ay [av ((f+1:Nat):Int)]) cb e.cx e.fr e.st (wD e.an) (fe e.tr) e.m e.en cb.length nx
  rw [O6] at ho
  obtain ⟨v,dd,hv,hS⟩:=Gj (ay (jw (l.set (kB (nD e.m.pc)) true))) (p6 (dv aaE 0) (du aaE 0)) (ay [av (f:Int)]) cb hb hc nx VU e hx hf hs (by omega)
  have Wh:=wj cb e
  have Uy:=qQ cb e
  rw [iA,nA]
  have lS:(jw l).length=16386:=by rw [rq];exact hl
  cases T5:bu cb e with
  |mk e2 b=>
   rw [T5] at hS hv Wh Uy
   simp only at hS hv Wh Uy
   rw [← hk,← hw] at hS
   cases b with
   |true=>
    obtain ⟨t,WZ,hl3⟩:=Uy.tr
    have ih:=uR cb hb hc nx VU f e2 (l.set (kB (nD e.m.pc)) true) (Wh.1 rfl) WV (Uy.cx.trans hx) (Uy.fr.trans hf) (Uy.st.trans hs) (by rw [WZ,aap];omega)
    rw [jI]
    rcases hv with rfl|⟨rfl,_⟩
    ·have:=OY (jw l) (bD cb) (bD e.cx) (bD e.fr) (bD e.st) (wD e.an) (fe e.tr) e.m ((f+1:Nat):Int) e.en cb.length nx (fF _) (a7 _) (a7 _) (a7 _) (a7 _) (nD e.m.pc) a0 a1 lS (bD e2.cx) (bD e2.fr) (bD e2.st) (wD e2.an) (fe e2.tr) e2.m e2.en dd (a7 _) (a7 _) (a7 _) (by omega) ho hS
     rw [hk,yr,jG,jG,jG,jG,hw] at this
     exact bL.iw this ih
    ·have:=OX (jw l) (bD cb) (bD e.cx) (bD e.fr) (bD e.st) (wD e.an) (fe e.tr) e.m ((f+1:Nat):Int) e.en cb.length nx (fF _) (a7 _) (a7 _) (a7 _) (a7 _) (nD e.m.pc) a0 a1 lS (bD e2.cx) (bD e2.fr) (bD e2.st) (wD e2.an) (fe e2.tr) e2.m e2.en dd (a7 _) (a7 _) (a7 _) (by omega) ho hS
     rw [hk,yr,jG,jG,jG,jG,hw] at this
     exact bL.iw this ih
   |false=>
    rcases hv with rfl|⟨_,h⟩
    ·have:=Qw (jw l) (bD cb) (bD e.cx) (bD e.fr) (bD e.st) (wD e.an) (fe e.tr) e.m ((f+1:Nat):Int) e.en cb.length nx (fF _) (a7 _) (a7 _) (a7 _) (a7 _) (nD e.m.pc) a0 a1 lS (bD e2.cx) (bD e2.fr) (bD e2.st) (wD e2.an) (fe e2.tr) e2.m e2.en dd (a7 _) (a7 _) (a7 _) (by omega) ho hS
     rw [hk,yr,jG,jG,jG,jG,hw] at this
     simp only [FI,jI]
     rw [if_neg (Wh.2 rfl)]
     exact bL.last this (fun h=>by cases h)
    ·cases h
abbrev pO:List Ob:= [aF,aF,aF,aF,aF,aF,aF,aF,aF,aF,aF,aF,aF,aF,aF,aF,aF,aF,aF,aF,aF,aF,.dD 0 1]
abbrev Ti (k:Int) (o:List Int) (l:List Bool):List D:=(eA 8++ [.aY (.tok 22 0) 1 (iD o)]++eA 14++ [.agg (jw l),av k]++eA 11)
abbrev RT (o:List Int):List D:=(eA 8++ [.aY (.tok 22 0) 1 (iD o)]++eA 27)
theorem pQ (l:List Bool) (hl:l.length=16386):∀(n k:Nat) (o:List Int),n+k=16386→o.length≤k→bL Z9 (cq aaE 0) 22 (Ti (k:Int) o l) pO (.exit 2) (RT (o++mF k (l.drop k))) pO
 |0,k,o,hk,_=>by
  rw [List.drop_of_length_le (by omega),mF,List.append_nil]
  exact bL.last (OW (jw l) (iD o) k (by rw [rq];exact hl) (fF _) (by omega)) (by simp)
 |n+1,k,o,hk,ho=>by
  have T1:k<l.length:=by omega
  have hx:l[k]? =some l[k]:=by simp
  have hd:l.drop k=l[k]::l.drop (k+1):=(List.getElem_cons_drop ..).symm
  have lS:(jw l).length=16386:=by rw [rq];exact hl
  rw [hd]
  cases hb:l[k] with
  |true=>
   rw [hb] at hx
   have:=OV (jw l) (iD o) k lS (fF _) (by omega) (by rw [Nat.mul_one];exact wu hx) (by rw [p7];omega)
   have ih:=pQ l hl n (k+1) (o++ [(k:Int) - 1]) (by omega) (by simp;omega)
   rw [gE,show abz.i64.wrap ((k:Int) - 1)=(k:Int) - 1 by rw [aN];omega,show iD o++ [D.int .i64 ((k:Int) - 1)]=iD (o++ [(k:Int) - 1]) by rw [KX];rfl] at this
   rw [List.append_assoc] at ih
   rw [mF]
   exact bL.iw this ih
  |false=>
   rw [hb] at hx
   have:=Qu (jw l) (iD o) k lS (fF _) (by omega) (by rw [Nat.mul_one];exact wu hx)
   rw [gE] at this
   rw [mF]
   exact bL.iw this (pQ l hl n (k+1) o (by omega) (by omega))
abbrev S4 (S:List D) (lp:Ob) (cc cx:List D) (an:List D) (f:Int):List Ob:= [ay S,aF,aF,aF,aF,lp,ay (ML 9 12 13 14 cc.length cx.length),aF,aF,ay (cc.map D.bg),aF,aF,ay (cx.map D.bg),ay ((Z7 64 (gh (Value.int abz.u8 0))).map D.bg),ay ((Z7 264 (gh (Value.int abz.u8 0))).map D.bg),aF,ay [au 0,au 0,au 0,au 0,au 4194560,au 0,au 0,au 0,au 0,au 0,au 0,au 0,au 0,au 0,au 0,au 0,ax false,ax false,ax false,ax false,ax false,au 1048576,.ptr false 6 0,aZ 1 an,.aY (.tok 21 0) 3 [],ao 0],ay [av f],ay [.ptr false 16 0],aF,ay [.ptr false 17 0],.dD 0 3]
abbrev qX (lp:Ob) (S:List D) (left:Int) (cb:List Int) (nx:Nat) (e:kp):List Ob:=pS (ay S) lp (ay [av left]) e.m (bD cb) (bD e.cx) (bD e.fr) (bD e.st) (wD e.an) (fe e.tr) e.en cb.length nx 0 []
theorem Qe (n:Nat):(Z7 n (gh (Value.bool false))).map D.bg=jw (Z7 n false):=by
 rw [jw,List.map_replicate,List.map_replicate];rfl
theorem Qx (l0:List Bool) (hl:l0.length=16386) (cb cx an:List Int) (f:Nat) (E:kp) (lf:Nat) (UZ:List Int) (hb:dr cb) (lc:(bD cb).length≤16384) (lx:(bD cx).length≤256) (hf:f≤100000) (hR:iA cb f (qj cx an)=(E,lf)) (hV:nA cb f (qj cx an)=UZ):
  b5 Z9 21 (.loop (cq Tryz.f45 0)) pT (S4 (jw l0) (p6 (dv aaE 0) (du aaE 0)) (bD cb) (bD cx) (wD an) (f:Int)) (FI E) kU (qX (p6 (dv aaE 0) (du aaE 0)) (jw (jI UZ l0)) (lf:Int) cb cx.length E):=by
 have:=uR cb hb (by rw [aQ] at lc;exact lc) cx.length (by rw [aQ] at lx;exact lx) f (qj cx an) l0 rfl hl rfl rfl rfl (by show 0+f≤100000;omega)
 rw [hR,hV] at this
 unfold S4
 rw [GF,GF,cj,cj,aQ,aQ]
 exact b5.eK (by simp) this
theorem Qv (UZ:List Int):b5 Z9 22 (.loop (cq aaE 0)) (eA 8++ [.aY (.tok 22 0) 1 []]++eA 14++ [.agg (((PW UZ).drop 0|>.take 16386).map D.bg),av 0]++eA 11) pO (.exit 2) (RT (xJ UZ)) pO:=by
 have:=pQ (jI UZ (Z7 16386 false)) (by rw [mZ,aa4]) 16386 0 [] rfl (Nat.le_refl _)
 rw [aa0,abd (by rw [wx];exact Nat.le_refl _),← wy,gE]
 exact b5.eK (by simp) this
theorem S6 (n:Nat):∀c∈Z7 n (ax false),c.clean=true:=fun c h=>by rw [List.eq_of_mem_replicate h];rfl
theorem TJ (v:List Int):∀c∈List.take 16386 (List.drop 0 (PW v)),c.clean=true:=fun c h=>by
 rw [aa0,abd (by rw [wx];exact Nat.le_refl _),← wy] at h
 exact fF _ c h
theorem Kh:∀(n k:Nat),mF k (Z7 n false)= []
 |0,_=>rfl
 |n+1,k=>by rw [List.replicate_succ,mF];exact Kh n (k+1)
theorem RS:b5 Z9 22 (.loop (cq aaE 0)) (eA 8++ [.aY (.tok 22 0) 1 []]++eA 14++ [.agg (((Z7 16386 (gh (Value.bool false))).drop 0|>.take 16386).map D.bg),av 0]++eA 11) pO (.exit 2) (RT []) pO:=by
 have:=Qv []
 rw [aa0,abd (by rw [wx];exact Nat.le_refl _),← wy,gE] at this
 rw [aa0,abd (by rw [aa4];exact Nat.le_refl _),Qe]
 have e:xJ []= []:=Kh 16386 0
 rw [e] at this
 exact this
theorem Ff (pre:List Ob) (cb cx:List Int) (an:List D) (f:Int) (h:f<0∨640064<f∨256<(bD cx).length∨16384<(bD cb).length):ak Z9 23 [aZ 1 (bD cb),aZ 1 (bD cx),aZ 1 an,av f] pre (.aL [.fW,av 2]) (pre++Z7 9 .dead):=by
 have e:pJ [] pre []=pre:=by rw [pJ,oK];simp
 have e9:pJ [] pre [aF,aF,aF,aF,aF,aF,aF,aF,aF]=pre++Z7 9 .dead:=by rw [pJ,oK];rfl
 have lift:∀ {s},ak Z9 23 [aZ 1 (bD cb),aZ 1 (bD cx),aZ 1 an,av f] [] (.aL [.fW,av 2]) s→ak Z9 23 [aZ 1 (bD cb),aZ 1 (bD cx),aZ 1 an,av f] pre (.aL [.fW,av 2]) (pJ [] pre s):=fun h=>h.rn [] pre rfl .nil (fun _ h=>by cases h) e
 by_cases h2:256<(bD cx).length
 ·have:=pad 9 (lift (CN cb cx an f (eu _) (eu _) (cD _) (cD _) h2))
  rw [e] at this
  exact this
 by_cases h3:16384<(bD cb).length
 ·have:=pad 9 (lift (CP cb cx an f (eu _) (eu _) (cD _) (cD _) (by omega) h3))
  rw [e] at this
  exact this
 rw [← e9]
 by_cases h0:f<0
 ·exact lift (CO cb cx an f (eu _) (eu _) (cD _) (cD _) (by omega) (by omega) h0)
 ·exact lift (CQ cb cx an f (eu _) (eu _) (cD _) (cD _) (by omega) (by omega) (by omega))
theorem Qc (cb cx:List Int) (an:List D) (f:Int) (h:f<0∨640064<f∨256<(bD cx).length∨16384<(bD cb).length):aP Z9 10 [aZ 1 (bD cb),aZ 1 (bD cx),aZ 1 an,av f] (.aL [.agg [ao 0,au 0,.aY .tight 0 [],.aY .tight 0 [],av 0],av 2]):=by
 have hO:=Ff [ay [ao 0,au 0,.aY .tight 0 [],.aY .tight 0 [],av 0]] cb cx an f h
 exact aP.ai mixed Tryz.func10 (by kernel_rfl) [.aH _ _ _ _ _ hO,tT] (by kernel_rfl)
theorem Qt (cb cx:List Int) (an:List D) (f:Int) (h:f<0∨640064<f∨256<(bD cx).length∨16384<(bD cb).length):aP Z9 16 [aZ 1 (bD cb),aZ 1 (bD cx),aZ 1 an,av f] (aZ 1 []):=by
 have hO:=pad 7 (Ff [ay (Z7 16386 (ax false)),ay [aZ 1 (bD cb)],ay [aZ 1 (bD cx)],ay [aZ 1 an],ay [av f],p6 (dv aaE 0) (du aaE 0)] cb cx an f h)
 exact (aP.ai (d:= .aY (.fresh 1) 1 []) mixed Tryz.func16 (by kernel_rfl) [aO,.NR [9],.aH _ _ _ _ _ hO,tT,.head ⟨[8,24,1000023],[],[(8,1)]⟩ _ _ _ _ _ _ _ RS,.cl _ (S6 16386)]).to (by simp [wk,bf,cB])
theorem RR (cb cx an:List Int) (f:Nat) (E:kp) (lf:Nat) (UZ:List Int) (hb:dr cb) (lc:(bD cb).length≤16384) (lx:(bD cx).length≤256) (hf:f≤100000) (hR:iA cb f (qj cx an)=(E,lf)) (hV:nA cb f (qj cx an)=UZ):aP Z9 16 [aZ 1 (bD cb),aZ 1 (bD cx),aZ 1 (wD an),av (f:Int)] (aZ 1 (iD (xJ UZ))):=by
 have hO:=Fg [ay (Z7 16386 (ax false)),ay [aZ 1 (bD cb)],ay [aZ 1 (bD cx)],ay [aZ 1 (wD an)],ay [av f],p6 (dv aaE 0) (du aaE 0)] 6 rfl cb cx (wD an) f (eu _) (eu _) (cD _) (cD _) lc lx (by omega) (by omega)
 have c0:=Qx (Z7 16386 false) (aa4 ..) cb cx an f E lf UZ hb lc lx hf hR hV
 rw [← Qe,wy] at c0
 have c1:=Qv UZ
 have hz:∀n,∀c∈Z7 n (gh (Value.int abz.u8 0)),c.clean=true:=fun n c h=>by rw [List.eq_of_mem_replicate h];rfl
 obtain ⟨ex,hx,hc⟩:∃ex,FI E=ex∧(ex= .exit 0∨ex= .ret):=by
  unfold FI
  split
  ·exact ⟨_,rfl,.inl rfl⟩
  ·exact ⟨_,rfl,.inr rfl⟩
 rw [hx] at c0
 have cT:=TJ UZ
 clear hR hV hx
 rcases hc with rfl|rfl<;>exact (aP.ai (d:= .aY (.fresh 1) 1 (iD (xJ UZ))) mixed Tryz.func16 (by kernel_rfl) [aO,.NR [9],.aH _ _ _ _ _ hO,tF,aO,aO,.head ⟨[0,1,3],[5,6,16,17,18,20,1000000,1000009,1000012,1000013,1000014],[(1016024,3)]⟩ _ _ _ _ _ _ _ c0,.cl _ (S6 16386),.cl _ (a7 cb),.cl _ (a7 cx),.cl _ (hz 64),.cl _ (hz 264),.head ⟨[8,24,1000023],[],[(8,1)]⟩ _ _ _ _ _ _ _ c1,.cl _ cT]).to (by simp [wk,bf,cB])
theorem Ll:aP Z9 19 ([]) (.agg [au 0,au 0,au 0,au 0,au 4194560,au 0,au 0,au 0,au 0,au 0,au 0,au 0,au 0,au 0,au 0,au 0,ax false,ax false,ax false,ax false,ax false,au 1048576]):=(aP.ai (d:= .agg [au 0,au 0,au 0,au 0,au 4194560,au 0,au 0,au 0,au 0,au 0,au 0,au 0,au 0,au 0,au 0,au 0,ax false,ax false,ax false,ax false,ax false,au 1048576]) mixed Tryz.func19 (by kernel_rfl) []).to (by simp [wk,bf])
theorem D9:aP Z9 22 ([aZ 8 [xD 1 32 0 0 0 0 5 0,xD 30 0 0 0 0 0 0 0]]) (.aY (.fresh 1) 1 [aC 184,aC 5,aC 0,aC 0,aC 0,aC 195]):=by
 have c0:= @jP ((1:Int)) ((32:Int)) ((0:Int)) ((0:Int)) ((0:Int)) ((0:Int)) ((5:Int)) ((0:Int)) (by first|rfl|decide)
 have c1:= @jP ((30:Int)) ((0:Int)) ((0:Int)) ((0:Int)) ((0:Int)) ((0:Int)) ((0:Int)) ((0:Int)) (by first|rfl|decide)
 exact (aP.ai (d:= .aY (.fresh 1) 1 [aC 184,aC 5,aC 0,aC 0,aC 0,aC 195]) mixed Tryz.func22 (by kernel_rfl) [.go 64,tT,tT,aw c0,tF,.len ((5:Nat)) ((2147483648:Nat)) (by first|decide|omega|(simp;omega)),tT,tT,aw c1,tF,.len ((6:Nat)) ((2147483648:Nat)) (by first|decide|omega|(simp;omega)),tF]).to (by simp [wk,bf,cB])
theorem BK:aP Z9 9 ([]) (ax true):=by
 have c0:=aP.args (as':= [.aY .tight 8 [(xD 1 32 0 0 0 0 5 0),(xD 30 0 0 0 0 0 0 0)]]) (@D9) (by simp [bf,wk,cB])
 have c1:= @JD
 have c2:= @JC
 exact (aP.ai (d:= .bool true) mixed Tryz.func9 (by kernel_rfl) (([aw c0,aw c1,aw c2]++cr 13 8191)++ [tT,tT,tT,tT,tT,tT,tT,aO,tT,tT,tT,tT])).to (by first|(simp [wk];done)|(simp [wk];assumption))
theorem MU (cb cx an:List Int) (f:Int) (h:2000<((bD cb).length:Int)) (h2:((bD cb).length:Int)≤16384):aP Z9 8 ([aZ 1 (bD cb),aZ 1 (bD cx),aZ 1 (wD an),av f]) (ax true):=(aP.ai (d:= .bool true) mixed Tryz.func8 (by kernel_rfl) (Z7 3 (tC (eT (dg 2000 (bF (by omega:¬(↑(aaa (bD cb)):Int)<2001)))))++ [tC (dg 2000 (bF (by omega:¬(↑(aaa (bD cb)):Int)<2001)))]++Z7 3 (tC (eF (eH 16384 (b8 (aac h2)))))++([tC (eH 16384 (b8 (aac h2)))]++cr 8 136)++ [tF,tF,tF,tF,tT])).to (by first|(simp [wk];done)|(simp [wk];assumption))
theorem MX (cb cx an:List Int) (f:Int) (h:20000<((bD cb).length:Int)):aP Z9 8 ([aZ 1 (bD cb),aZ 1 (bD cx),aZ 1 (wD an),av f]) (ax true):=(aP.ai (d:= .bool true) mixed Tryz.func8 (by kernel_rfl) (Z7 3 (tC (eT (dg 2000 (lu 2001 (bF (by omega:¬(↑(aaa (bD cb)):Int)<20001))))))++ [tC (dg 2000 (lu 2001 (bF (by omega:¬(↑(aaa (bD cb)):Int)<20001))))]++Z7 3 (tC (eF (eH 16384 (lu 16385 (bF (by omega:¬(↑(aaa (bD cb)):Int)<20001))))))++ [tC (eH 16384 (lu 16385 (bF (by omega:¬(↑(aaa (bD cb)):Int)<20001))))]++Z7 3 (tC (eF (dg 20000 (bF (by omega:¬(↑(aaa (bD cb)):Int)<20001)))))++ [tC (dg 20000 (bF (by omega:¬(↑(aaa (bD cb)):Int)<20001))),tF,tF,tF,tT]++ [tF,tF,tF,tF,tT])).to (by first|(simp [wk];done)|(simp [wk];assumption))
theorem MS (cb cx an:List Int) (f:Int) (h:((bD cb).length:Int)≤2000) (hx:400<((bD cx).length:Int)):aP Z9 8 ([aZ 1 (bD cb),aZ 1 (bD cx),aZ 1 (wD an),av f]) (ax true):=(aP.ai (d:= .bool true) mixed Tryz.func8 (by kernel_rfl) (Z7 3 (tC (eT (dg 2000 (b8 (aac h)))))++ [tC (dg 2000 (b8 (aac h))),tT,tT,tT,tF]++Z7 3 (tC (eF (dg 20000 (BG 20001 (b8 (aac h))))))++ [tC (dg 20000 (BG 20001 (b8 (aac h))))]++Z7 3 (tC (eF (dg 400 (bF (by omega:¬(↑(aaa (bD cx)):Int)<401)))))++ [tC (dg 400 (bF (by omega:¬(↑(aaa (bD cx)):Int)<401)))]++ [tF,tF,tF,tF,tT])).to (by first|(simp [wk];done)|(simp [wk];assumption))
theorem MY (cb cx an:List Int) (f:Int) (h:((bD cb).length:Int)≤2000) (hx:((bD cx).length:Int)≤400) (ha:400<((wD an).length:Int)):aP Z9 8 ([aZ 1 (bD cb),aZ 1 (bD cx),aZ 1 (wD an),av f]) (ax true):=(aP.ai (d:= .bool true) mixed Tryz.func8 (by kernel_rfl) (Z7 3 (tC (eT (dg 2000 (b8 (aac h)))))++ [tC (dg 2000 (b8 (aac h))),tT,tT,tT,tF]++Z7 3 (tC (eF (dg 20000 (BG 20001 (b8 (aac h))))))++ [tC (dg 20000 (BG 20001 (b8 (aac h))))]++Z7 3 (tC (eF (dg 400 (b8 (aac hx)))))++ [tC (dg 400 (b8 (aac hx)))]++Z7 4 (tC (eF (dg 400 (bF (by omega:¬(↑(aaa (wD an)):Int)<401)))))++ [tC (dg 400 (bF (by omega:¬(↑(aaa (wD an)):Int)<401)))])).to (by first|(simp [wk];done)|(simp [wk];assumption))
theorem MW (cb cx an:List Int) (f:Int) (h:((bD cb).length:Int)≤2000) (hx:((bD cx).length:Int)≤400) (ha:((wD an).length:Int)≤400) (hf:3000<f) (hg:f≤640064):aP Z9 8 ([aZ 1 (bD cb),aZ 1 (bD cx),aZ 1 (wD an),av f]) (ax true):=(aP.ai (d:= .bool (decide (f≤640064))) mixed Tryz.func8 (by kernel_rfl) (Z7 3 (tC (eT (dg 2000 (b8 (aac h)))))++ [tC (dg 2000 (b8 (aac h))),tT,tT,tT,tF]++Z7 3 (tC (eF (dg 20000 (BG 20001 (b8 (aac h))))))++ [tC (dg 20000 (BG 20001 (b8 (aac h))))]++Z7 3 (tC (eF (dg 400 (b8 (aac hx)))))++ [tC (dg 400 (b8 (aac hx)))]++Z7 3 (tC (eF (dg 400 (b8 (aac ha)))))++Z7 2 (tC (eT (dg 3000 (bF (by omega:¬f<3001)))))++ [tC (eF (dg 400 (b8 (aac ha)))),tC (dg 3000 (bF (by omega:¬f<3001))),tC (dg 400 (b8 (aac ha)))])).to (by first|(simp [wk];done)|(simp [wk];assumption))
theorem K2 (cb cx an:List Int) (f:Int) (h:((bD cb).length:Int)≤2000) (hx:((bD cx).length:Int)≤400) (ha:((wD an).length:Int)≤400) (hf:f≤3000):aP Z9 8 ([aZ 1 (bD cb),aZ 1 (bD cx),aZ 1 (wD an),av f]) (ax false):=(aP.ai (d:= .bool false) mixed Tryz.func8 (by kernel_rfl) (Z7 3 (tC (eT (dg 2000 (b8 (aac h)))))++ [tC (dg 2000 (b8 (aac h))),tT,tT,tT,tF]++Z7 3 (tC (eF (dg 20000 (BG 20001 (b8 (aac h))))))++ [tC (dg 20000 (BG 20001 (b8 (aac h))))]++Z7 3 (tC (eF (dg 400 (b8 (aac hx)))))++ [tC (dg 400 (b8 (aac hx)))]++Z7 3 (tC (eF (dg 400 (b8 (aac ha)))))++Z7 2 (tC (eT (dg 3000 (b8 (aac hf)))))++ [tC (eF (dg 400 (b8 (aac ha)))),tC (dg 3000 (b8 (aac hf))),tC (dg 400 (b8 (aac ha)))])).to (by first|(simp [wk];done)|(simp [wk];assumption))
theorem K1 (cb cx an:List Int) (f:Int) (h:((bD cb).length:Int)≤2000) (hx:((bD cx).length:Int)≤400) (ha:((wD an).length:Int)≤400) (hg:640064<f):aP Z9 8 ([aZ 1 (bD cb),aZ 1 (bD cx),aZ 1 (wD an),av f]) (ax false):=(aP.ai (d:= .bool (decide (f≤640064))) mixed Tryz.func8 (by kernel_rfl) (Z7 3 (tC (eT (dg 2000 (b8 (aac h)))))++ [tC (dg 2000 (b8 (aac h))),tT,tT,tT,tF]++Z7 3 (tC (eF (dg 20000 (BG 20001 (b8 (aac h))))))++ [tC (dg 20000 (BG 20001 (b8 (aac h))))]++Z7 3 (tC (eF (dg 400 (b8 (aac hx)))))++ [tC (dg 400 (b8 (aac hx)))]++Z7 3 (tC (eF (dg 400 (b8 (aac ha)))))++Z7 2 (tC (eT (dg 3000 (lu 3001 (bF (by omega:¬f<640065))))))++ [tC (eF (dg 400 (b8 (aac ha)))),tC (dg 3000 (lu 3001 (bF (by omega:¬f<640065)))),tC (dg 400 (b8 (aac ha)))])).to (by first|(simp [wk];done)|(simp [wk];assumption))
theorem K0 (cb cx an:List Int) (f:Int) (h:16384<((bD cb).length:Int)) (h2:((bD cb).length:Int)≤20000) (hx:400<((bD cx).length:Int)):aP Z9 8 ([aZ 1 (bD cb),aZ 1 (bD cx),aZ 1 (wD an),av f]) (ax true):=(aP.ai (d:= .bool true) mixed Tryz.func8 (by kernel_rfl) (Z7 3 (tC (eT (dg 2000 (lu 2001 (bF (by omega:¬(↑(aaa (bD cb)):Int)<16385))))))++ [tC (dg 2000 (lu 2001 (bF (by omega:¬(↑(aaa (bD cb)):Int)<16385))))]++Z7 3 (tC (eF (eH 16384 (bF (by omega:¬(↑(aaa (bD cb)):Int)<16385)))))++ [tC (eH 16384 (bF (by omega:¬(↑(aaa (bD cb)):Int)<16385)))]++Z7 3 (tC (eF (dg 20000 (b8 (aac h2)))))++ [tC (dg 20000 (b8 (aac h2)))]++Z7 3 (tC (eF (dg 400 (bF (by omega:¬(↑(aaa (bD cx)):Int)<401)))))++ [tC (dg 400 (bF (by omega:¬(↑(aaa (bD cx)):Int)<401)))]++ [tF,tF,tF,tF,tT])).to (by first|(simp [wk];done)|(simp [wk];assumption))
theorem K4 (cb cx an:List Int) (f:Int) (h:16384<((bD cb).length:Int)) (h2:((bD cb).length:Int)≤20000) (hx:((bD cx).length:Int)≤400) (ha:400<((wD an).length:Int)):aP Z9 8 ([aZ 1 (bD cb),aZ 1 (bD cx),aZ 1 (wD an),av f]) (ax true):=(aP.ai (d:= .bool true) mixed Tryz.func8 (by kernel_rfl) (Z7 3 (tC (eT (dg 2000 (lu 2001 (bF (by omega:¬(↑(aaa (bD cb)):Int)<16385))))))++ [tC (dg 2000 (lu 2001 (bF (by omega:¬(↑(aaa (bD cb)):Int)<16385))))]++Z7 3 (tC (eF (eH 16384 (bF (by omega:¬(↑(aaa (bD cb)):Int)<16385)))))++ [tC (eH 16384 (bF (by omega:¬(↑(aaa (bD cb)):Int)<16385)))]++Z7 3 (tC (eF (dg 20000 (b8 (aac h2)))))++ [tC (dg 20000 (b8 (aac h2)))]++Z7 3 (tC (eF (dg 400 (b8 (aac hx)))))++ [tC (dg 400 (b8 (aac hx)))]++Z7 4 (tC (eF (dg 400 (bF (by omega:¬(↑(aaa (wD an)):Int)<401)))))++ [tC (dg 400 (bF (by omega:¬(↑(aaa (wD an)):Int)<401)))])).to (by first|(simp [wk];done)|(simp [wk];assumption))
theorem K3 (cb cx an:List Int) (f:Int) (h:16384<((bD cb).length:Int)) (h2:((bD cb).length:Int)≤20000) (hx:((bD cx).length:Int)≤400) (ha:((wD an).length:Int)≤400) (hf:3000<f) (hg:f≤640064):aP Z9 8 ([aZ 1 (bD cb),aZ 1 (bD cx),aZ 1 (wD an),av f]) (ax true):=(aP.ai (d:= .bool (decide (f≤640064))) mixed Tryz.func8 (by kernel_rfl) (Z7 3 (tC (eT (dg 2000 (lu 2001 (bF (by omega:¬(↑(aaa (bD cb)):Int)<16385))))))++ [tC (dg 2000 (lu 2001 (bF (by omega:¬(↑(aaa (bD cb)):Int)<16385))))]++Z7 3 (tC (eF (eH 16384 (bF (by omega:¬(↑(aaa (bD cb)):Int)<16385)))))++ [tC (eH 16384 (bF (by omega:¬(↑(aaa (bD cb)):Int)<16385)))]++Z7 3 (tC (eF (dg 20000 (b8 (aac h2)))))++ [tC (dg 20000 (b8 (aac h2)))]++Z7 3 (tC (eF (dg 400 (b8 (aac hx)))))++ [tC (dg 400 (b8 (aac hx)))]++Z7 3 (tC (eF (dg 400 (b8 (aac ha)))))++Z7 2 (tC (eT (dg 3000 (bF (by omega:¬f<3001)))))++ [tC (eF (dg 400 (b8 (aac ha)))),tC (dg 3000 (bF (by omega:¬f<3001))),tC (dg 400 (b8 (aac ha)))])).to (by first|(simp [wk];done)|(simp [wk];assumption))
theorem HF (cb cx an:List Int) (f:Int) (h:16384<((bD cb).length:Int)) (h2:((bD cb).length:Int)≤20000) (hx:((bD cx).length:Int)≤400) (ha:((wD an).length:Int)≤400) (hf:f≤3000):aP Z9 8 ([aZ 1 (bD cb),aZ 1 (bD cx),aZ 1 (wD an),av f]) (ax false):=(aP.ai (d:= .bool false) mixed Tryz.func8 (by kernel_rfl) (Z7 3 (tC (eT (dg 2000 (lu 2001 (bF (by omega:¬(↑(aaa (bD cb)):Int)<16385))))))++ [tC (dg 2000 (lu 2001 (bF (by omega:¬(↑(aaa (bD cb)):Int)<16385))))]++Z7 3 (tC (eF (eH 16384 (bF (by omega:¬(↑(aaa (bD cb)):Int)<16385)))))++ [tC (eH 16384 (bF (by omega:¬(↑(aaa (bD cb)):Int)<16385)))]++Z7 3 (tC (eF (dg 20000 (b8 (aac h2)))))++ [tC (dg 20000 (b8 (aac h2)))]++Z7 3 (tC (eF (dg 400 (b8 (aac hx)))))++ [tC (dg 400 (b8 (aac hx)))]++Z7 3 (tC (eF (dg 400 (b8 (aac ha)))))++Z7 2 (tC (eT (dg 3000 (b8 (aac hf)))))++ [tC (eF (dg 400 (b8 (aac ha)))),tC (dg 3000 (b8 (aac hf))),tC (dg 400 (b8 (aac ha)))])).to (by first|(simp [wk];done)|(simp [wk];assumption))
theorem HE (cb cx an:List Int) (f:Int) (h:16384<((bD cb).length:Int)) (h2:((bD cb).length:Int)≤20000) (hx:((bD cx).length:Int)≤400) (ha:((wD an).length:Int)≤400) (hg:640064<f):aP Z9 8 ([aZ 1 (bD cb),aZ 1 (bD cx),aZ 1 (wD an),av f]) (ax false):=(aP.ai (d:= .bool (decide (f≤640064))) mixed Tryz.func8 (by kernel_rfl) (Z7 3 (tC (eT (dg 2000 (lu 2001 (bF (by omega:¬(↑(aaa (bD cb)):Int)<16385))))))++ [tC (dg 2000 (lu 2001 (bF (by omega:¬(↑(aaa (bD cb)):Int)<16385))))]++Z7 3 (tC (eF (eH 16384 (bF (by omega:¬(↑(aaa (bD cb)):Int)<16385)))))++ [tC (eH 16384 (bF (by omega:¬(↑(aaa (bD cb)):Int)<16385)))]++Z7 3 (tC (eF (dg 20000 (b8 (aac h2)))))++ [tC (dg 20000 (b8 (aac h2)))]++Z7 3 (tC (eF (dg 400 (b8 (aac hx)))))++ [tC (dg 400 (b8 (aac hx)))]++Z7 3 (tC (eF (dg 400 (b8 (aac ha)))))++Z7 2 (tC (eT (dg 3000 (lu 3001 (bF (by omega:¬f<640065))))))++ [tC (eF (dg 400 (b8 (aac ha)))),tC (dg 3000 (lu 3001 (bF (by omega:¬f<640065)))),tC (dg 400 (b8 (aac ha)))])).to (by first|(simp [wk];done)|(simp [wk];assumption))
theorem NF (m:aq) (n:Nat):(mS m n).length≤5:=by unfold mS;rw [List.length_take];simp;omega
theorem Mi (cb:List Int) (e:kp) (h:tZ e.tr):tZ (bu cb e).1.tr:=by
 have z:∀e2:kp,e2.tr=e.tr→tZ e2.tr:=fun e2 h1=>by rw [h1];exact h
 unfold bu
 split
 ·split
  ·exact z _ rfl
  ·split
   ·split
    ·split
     ·exact z _ rfl
     ·intro x hx
      simp only [List.mem_append,List.mem_singleton] at hx
      rcases hx with hx|rfl
      ·exact h x hx
      ·exact NF _ _
    ·exact z _ rfl
   ·split
    ·split<;>exact z _ rfl
    ·split
     ·split<;>exact z _ rfl
     ·split
      ·split
       ·exact z _ rfl
       ·split<;>exact z _ rfl
      ·split<;>exact z _ rfl
 ·exact z _ rfl
theorem JF (cb:List Int):∀(f:Nat) (e:kp),tZ e.tr→tZ (iA cb f e).1.tr
 |0,e,h=>h
 |f+1,e,h=>by
  have hs:=Mi cb e h
  rw [iA]
  cases T5:bu cb e with
  |mk e2 b=>
   rw [T5] at hs
   cases b with
   |true=>exact JF cb f e2 hs
   |false=>exact hs
abbrev TQ (g:Int):Int:=Int.tmod (abz.i64.wrap (Int.tmod g 1001+1001)) 1001
abbrev LX (k r0:Int) (c p:List D) (l:Int):List D:= [ao k,au r0,aZ 1 c,aZ 3 p,av l]
abbrev PX (o:List D):List Ob:= [aF,aF,ay o,aF,ay o,aF,aF]
abbrev Rl (e:Int) (l:List D) (i:Int):List D:=(eA 9++ [.ptr false 2 0,av e,.ptr false 4 0,av e,aZ 1 l,aZ 1 l,av i]++eA 68)
abbrev SC (e:Int):List D:=(eA 9++ [.ptr false 2 0,av e,.ptr false 4 0,av e]++eA 71)
abbrev SS:HS:=⟨[9,10,11,12,13,14,15],[2,4],[]⟩
theorem Ok (k r0 ol e:Int) (c p l:List D) (i:Nat) (h:l.length≤i):aB Z9 (cq Tryz.f5 0) ⟨[9,10,11,12],[2,4],[]⟩ 7 (Rl e l i) (PX (LX k r0 c p ol)) (.exit 0) (SC e) (PX (LX k r0 c p ol)):=
 aB.ai mixed [tC (bF (by omega):decide ((i:Int)<(l.length:Int))=false)] (by kernel_rfl)
theorem Qa (k r0 ol e:Int) (c p l:List D) (i:Nat) (h:i<l.length) (v:Int) (hv:l[i]? =some (av v)):aB Z9 (cq Tryz.f5 0) SS 7 (Rl e l i) (PX (LX k r0 c p ol)) .norm (Rl e l (abz.i64.wrap ((i:Int)+1))) (PX (LX k r0 c p ol)):=
 aB.ai mixed [tC (b8 (by omega):decide ((i:Int)<(l.length:Int))=true),tT,.get _ _ _ hv,tT,.get _ _ _ hv,tC (nt (beq_self_eq_true v))] (by kernel_rfl)
theorem uJ (k r0 ol e:Int) (c p:List D) (l:List Int) (hl:l.length≤100000):∀(n i:Nat),n+i=l.length→
  bL Z9 (cq Tryz.f5 0) 7 (Rl e (iD l) i) (PX (LX k r0 c p ol)) (.exit 0) (SC e) (PX (LX k r0 c p ol))
 |0,i,hk=>bL.last (Ok k r0 ol e c p (iD l) i (by rw [p7];omega)) (fun h=>by cases h)
 |n+1,i,hk=>by
  have hw:abz.i64.wrap ((i:Int)+1)=((i+1:Nat):Int):=by rw [aN];omega
  have:=Qa k r0 ol e c p (iD l) i (by rw [p7];omega) _ (KW (List.getElem?_eq_getElem (show i<l.length by omega)))
  rw [hw] at this
  exact bL.iw this (uJ k r0 ol e c p l hl n (i+1) (by omega))
section
variable (cb cx an:List D) (f e:Int) (wk:aP Z9 9 [] (ax true))
abbrev aR (cb cx an:List D) (f:Int):List D:= [aZ 1 cb,aZ 1 cx,aZ 1 an,av f]
include wk
theorem RL (hg:aP Z9 8 (aR cb cx an f) (ax true)):aP Z9 5 (aR cb cx an f) (ax true):=
 aP.ai mixed Tryz.func5 (by kernel_rfl) [aw hg,tT,aw wk] (by kernel_rfl)
variable (hg:aP Z9 8 (aR cb cx an f) (ax false))
include hg
theorem RJ (k r0 ol:Int) (c p:List D) (l:List Int) (hl:l.length≤100000) (h1:aP Z9 10 (aR cb cx an f) (.aL [.agg (LX k r0 c p ol),av e])) (h2:aP Z9 15 (aR cb cx an f) (.aL [.agg (LX k r0 c p ol),av e])) (h3:aP Z9 16 (aR cb cx an f) (aZ 1 (iD l))) (h4:aP Z9 17 (aR cb cx an f) (aZ 1 (iD l))) (h5:aP Z9 18 [.agg (LX k r0 c p ol),.agg (LX k r0 c p ol)] (ax true)):aP Z9 5 (aR cb cx an f) (ax true):=by
 have c0:=b5.eK (by simp) (uJ k r0 ol e c p l hl l.length 0 rfl)
 have q:(((iD l).length:Int) !=((iD l).length:Int))=false:=by simp
 have u:=beq_self_eq_true e
 exact aP.ai mixed Tryz.func5 (by kernel_rfl) [aw hg,tF,aw h1,aw h2,aw h3,aw h4,tC q,.head SS _ _ _ _ _ _ _ c0,aw h5,tT,tT,tT,tT,tC (eT u),aw Ll,tC (eT u),aw Gx,tC (eT u),.flat _ _ pt,tC u,tT,aw wk,tT] (by kernel_rfl)
theorem RK (h1:aP Z9 10 (aR cb cx an f) (.aL [.agg [ao 0,au 0,.aY .tight 0 [],.aY .tight 0 [],av 0],av 2])) (h2:aP Z9 15 (aR cb cx an f) (.aL [.agg [ao 0,au 0,.aY .tight 0 [],.aY .tight 0 [],av 0],av 2])) (h3:aP Z9 16 (aR cb cx an f) (aZ 1 [])) (h4:aP Z9 17 (aR cb cx an f) (aZ 1 [])):aP Z9 5 (aR cb cx an f) (ax true):=
 aP.ai mixed Tryz.func5 (by kernel_rfl) [aw hg,tF,aw h1,aw h2,aw h3,aw h4,tF,.go 64,tF,aw BU,tT,tT,tT,tT,tT,aw Ll,tT,aw Gx,tT,.flat _ _ pt,tT,tT,aw wk,tT] (by kernel_rfl)
end
theorem JE (cb cx an:List Int) (hb:dr cb) (f:Int):aP Z9 5 [aZ 1 (bD cb),aZ 1 (bD cx),aZ 1 (wD an),av f] (ax true):=by
 have W:=BK
 have G:=fun h=>RL (bD cb) (bD cx) (wD an) f W h
 have X:aP Z9 8 (aR (bD cb) (bD cx) (wD an) f) (ax false)→(f<0∨640064<f∨256<(bD cx).length∨16384<(bD cb).length)→aP Z9 5 (aR (bD cb) (bD cx) (wD an) f) (ax true):=fun hg h=>by
  have hs:=Ov cb cx an f h
  have h2:=PB _ _ _ _ hs
  have h4:=PC _ _ _ _ hs
  exact RK _ _ _ f W hg (Qc cb cx (wD an) f h) h2 (Qt cb cx (wD an) f h) h4
 by_cases h1:2000<((bD cb).length:Int)
 ·by_cases h2:((bD cb).length:Int)≤16384
  ·exact G (MU cb cx an f h1 h2)
  by_cases h3:20000<((bD cb).length:Int)
  ·exact G (MX cb cx an f h3)
  by_cases hx:400<((bD cx).length:Int)
  ·exact G (K0 cb cx an f (by omega) (by omega) hx)
  by_cases ha:400<((wD an).length:Int)
  ·exact G (K4 cb cx an f (by omega) (by omega) (by omega) ha)
  by_cases hf:f≤3000
  ·exact X (HF cb cx an f (by omega) (by omega) (by omega) (by omega) hf) (by omega)
  by_cases hg:f≤640064
  ·exact G (K3 cb cx an f (by omega) (by omega) (by omega) (by omega) (by omega) hg)
  ·exact X (HE cb cx an f (by omega) (by omega) (by omega) (by omega) (by omega)) (by omega)
 have Xe:((bD cb).length:Int)≤2000:=by omega
 by_cases hx:400<((bD cx).length:Int)
 ·exact G (MS cb cx an f Xe hx)
 by_cases ha:400<((wD an).length:Int)
 ·exact G (MY cb cx an f Xe (by omega) ha)
 by_cases hf:f≤3000
 case neg=>
  by_cases hg:f≤640064
  ·exact G (MW cb cx an f Xe (by omega) (by omega) (by omega) hg)
  ·exact X (K1 cb cx an f Xe (by omega) (by omega) (by omega)) (by omega)
 have Gn:=K2 cb cx an f Xe (by omega) (by omega) hf
 by_cases lx:(bD cx).length≤256
 case neg=>exact X Gn (by omega)
 by_cases f0:0≤f
 case neg=>exact X Gn (by omega)
 obtain ⟨n,rfl⟩:=Int.eq_ofNat_of_zero_le f0
 have lc:(bD cb).length≤16384:=by omega
 have ZN:cb.length≤16384:=by rw [aQ] at lc;exact lc
 have YV:cx.length≤256:=by rw [aQ] at lx;exact lx
 have R1:=wz cb cx an n hb ZN YV (by omega)
 have hv:=I5 cb n (qj cx an)
 have hl:=EA cb n (qj cx an)
 have ht:=JF cb n (qj cx an) (fun e h=>by cases h)
 have hn:=oI cb n (qj cx an)
 generalize hV:nA cb n (qj cx an)=UZ at hv hl
 cases hR:iA cb n (qj cx an) with
 |mk E lf=>
 rw [hR] at R1 hl ht hn
 simp only at hl ht hn
 have hs:=Gg cb cx an n E lf UZ _ hb ZN YV (by omega) hR hV rfl
 have hh:(fe E.tr).length≤1099511627776:=by
  have:=hn.2
  simp only [fe,List.length_map]
  have e:(qj cx an).tr.length=0:=rfl
  omega
 have h5:=Gq E.tr E.en (EW E) lf E.cx ht hh (cD _) (by rw [aQ,hn.1];exact YV) (eu _)
 have hll:(xJ UZ).length≤16386:=by
  have:=xI (jI UZ (Z7 16386 false)) 0
  rw [mZ,aa4] at this
  exact this
 have h4:=Nl _ _ _ _ UZ n _ _ _ _ _ hv (by omega) hs
 have h2:=Nk _ _ _ _ _ _ _ _ _ _ _ hs
 exact RJ _ _ _ n 0 W Gn _ _ _ _ _ (xJ UZ) (by omega) R1 h2 (RR cb cx an n E lf UZ hb lc lx (by omega) hR hV) h4 h5
end Go.Proofs.YtbfpahigdpigpaaGreat
