import Derived.Test.YtbfpahigdpigpaaGreatV12
import Derived.Test.YtbfpahigdpigpaaGreatV15
import Derived.Test.YtbfpahigdpigpaaGreatV17
import Derived.Test.YtbfpahigdpigpaaGreatV20
open List renaming replicate→Zx,length→ZA,range→ZL,eq_nil_of_length_eq_zero→aaQ
open Go.Proofs.Tryz renaming prog→Zy,f4→aam
open Int renaming lt_add_one_of_le→ZC
/- Contracts and plain laws that a statement's proof leans on (texts merged:EM17,DPE,EM16,EM18,EED). -/
set_option linter.unusedVariables false
set_option linter.unusedSimpArgs false
set_option maxRecDepth 100000
set_option maxHeartbeats 8000000
namespace Go.Proofs.YtbfpahigdpigpaaGreat
open Go Go.Ev
abbrev JA (cb cx an:List Int) (f:Nat):mu×Nat:=ko cb f (qP cx an)
def EJ (e:mu):Int:=if e.en=1 then e.m.q0 else 0
abbrev Q4 (r:mu×Nat):D:= .aL [.agg [ak r.1.en,av (EJ r.1),bj 1 (bD r.1.cx),bj 3 (iq r.1.tr),aq (r.2:Int)],aq 0]
theorem Ey (cb cx an:List Int) (f:Nat) (hb:dx cb) (lc:cb.length≤16384) (lx:cx.length≤256) (hf:f≤100000):
  aQ Zy 10 [bj 1 (bD cb),bj 1 (bD cx),bj 1 (wD an),aq (f:Int)] (Q4 (ko cb f (qP cx an))):=by
 have hl:=(qW cb f (qP cx an)).1
 cases hR':ko cb f (qP cx an) with
 |mk E lf=>
 rw [hR'] at hl
 have Us:E.cx.length=cx.length:=hl
 have Zt:(bD cb).length≤16384:=by rw [aG];exact lc
 have Y7:(bD cx).length≤256:=by rw [aG];exact lx
 have lE:(bD E.cx).length≤256:=by rw [aG,Us];exact lx
 have hO:=EU [aA [ak 0,av 0,.bc .tight 0 [],.bc .tight 0 [],aq 0]] 1 rfl cb cx (wD an) f (eR _) (eR _) (cL _) (cL _) Zt Y7 (by omega) (by omega)
 have c0:=P2 cb cx an f E lf hb Zt Y7 hf hR'
 have hC:=Nx (aA [ak 0,av 0,.bc .tight 0 [],.bc .tight 0 [],aq lf]) (aA (bD cb)) (aA (bD E.fr)) (aA (bD E.st)) (aA (uC E.m (wD E.an) (iq E.tr) 0 E.en)) (aA [.ptr false 11 0]) .dead (aA [.ptr false 0 4]) .dead (.ey 0 3) E.cx (bD cb).length lE (eR _) (cL _)
 have hz:∀n,∀c∈Zx n (hP (Value.int IntKind.u8 0)),c.clean=true:=fun n c h=>by rw [List.eq_of_mem_replicate h];rfl
 have ex:(Oe E= .exit 0∧(E.en==1)=false∧EJ E=0)∨(Oe E= .ret∧(E.en==1)=true∧EJ E=E.m.q0)∨(Oe E= .ret∧(E.en==1)=false∧EJ E=0):=by
  unfold Oe EJ
  by_cases h:E.en=0
  ·exact .inl ⟨if_pos h,by rw [h];rfl,if_neg (by omega)⟩
  by_cases h1:E.en=1
  ·exact .inr (.inl ⟨if_neg h,by rw [h1];rfl,if_pos h1⟩)
  ·exact .inr (.inr ⟨if_neg h,by simpa using h1,if_neg h1⟩)
 unfold Q4
 clear hR'
 rcases ex with ⟨e,g,e2⟩|⟨e,g,e2⟩|⟨e,g,e2⟩<;>rw [e] at c0<;>rw [e2]<;>exact aQ.aj mixed Tryz.func10 (by kernel_rfl) [.aI _ _ _ _ _ hO,tF,aO,.Mp [],.head ⟨[0,1,3],[0,1,11,12,14,15,1000004,1000007,1000008,1000009],[(1011024,3)]⟩ _ _ _ _ _ _ _ c0,.cl _ (bo cb),.cl _ (bo cx),.cl _ (hz 64),.cl _ (hz 264),.aI _ _ _ _ _ hC,.aV [(0,aA [ak 0,av 0,.bc .tight 0 [],.bc .tight 0 [],aq lf]),(11,aA (uC E.m (wD E.an) (iq E.tr) 0 E.en))],tC g] (by kernel_rfl)
theorem Oq:aQ Zy 10 [bj 1 [ay 184,ay 5,ay 0,ay 0,ay 0,ay 195],.bc .tight 0 [],.bc .tight 0 [],aq 9] (.aL [.agg [ak 1,av 5,bj 1 [],bj 3 [],aq 7],aq 0]):=by
 have h:=Ey [184,5,0,0,0,195] [] [] 9 (by simp [dx]) (by decide) (by decide) (by decide)
 have e1:(JA [184,5,0,0,0,195] [] [] 9).1.en=1:=by kernel_rfl
 have e2:(JA [184,5,0,0,0,195] [] [] 9).1.m.q0=5:=by kernel_rfl
 have e3:(JA [184,5,0,0,0,195] [] [] 9).1.cx= []:=by kernel_rfl
 have e4:(JA [184,5,0,0,0,195] [] [] 9).1.tr= []:=by kernel_rfl
 have e5:(JA [184,5,0,0,0,195] [] [] 9).2=7:=by kernel_rfl
 have e6:EJ (JA [184,5,0,0,0,195] [] [] 9).1=5:=by unfold EJ;rw [if_pos e1,e2]
 unfold Q4 at h
 rw [e1,e3,e4,e5,e6] at h
 exact h.args (by simp [wk,a7,cH,bD,wD])
theorem Oo:aQ Zy 10 [.bc .tight 0 [],.bc .tight 0 [],.bc .tight 0 [],aq 9] (.aL [.agg [ak 3,av 0,bj 1 [],bj 3 [],aq 8],aq 0]):=by
 have h:=Ey [] [] [] 9 (by simp [dx]) (by decide) (by decide) (by decide)
 have e1:(JA [] [] [] 9).1.en=3:=by kernel_rfl
 have e3:(JA [] [] [] 9).1.cx= []:=by kernel_rfl
 have e4:(JA [] [] [] 9).1.tr= []:=by kernel_rfl
 have e5:(JA [] [] [] 9).2=8:=by kernel_rfl
 have e6:EJ (JA [] [] [] 9).1=0:=by unfold EJ;rw [e1];rfl
 unfold Q4 at h
 rw [e1,e3,e4,e5,e6] at h
 exact h.args (by simp [wk,a7,cH,bD,wD])
theorem Jz:aQ Zy 10 [bj 1 [ay 184,ay 5,ay 0,ay 0,ay 0,ay 195],.bc .tight 0 [],.bc .tight 0 [],aq 9] (.aL [.agg [ak 1,av 5,bj 1 [],bj 3 [],aq 7],aq 0]):=Oq
theorem Jy:aQ Zy 10 [.bc .tight 0 [],.bc .tight 0 [],.bc .tight 0 [],aq 9] (.aL [.agg [ak 3,av 0,bj 1 [],bj 3 [],aq 8],aq 0]):=Oo
theorem PF (l:List Int):∀d∈bD l,∃k:Int,d= .int .u8 k:=fun d h=>by
 obtain ⟨k,_,rfl⟩:=List.mem_map.1 h
 exact ⟨k,rfl⟩
theorem Mn:aQ Zy 20 [] (.agg [av 0,av 0,av 0,av 0,av 4194560,av 0,av 0,av 0,av 0,av 0,av 0,av 0,av 0,av 0,av 0,av 0,ax false,ax false,ax false,ax false,ax false,av 1048576]):=
 aQ.aj mixed Tryz.func20 (by kernel_rfl) [] (by kernel_rfl)
def rO (cx:List Int):Nat:=if cx.length=0 then 1 else 0
theorem RW (p0:Ob) (cb cx:List Int) (lc:cb.length≤16384) (lx:cx.length≤256):
  ao Zy 28 [bj 1 (bD cx),bj 1 (bD cb),ax true] [p0] (.aL [.ptr false 4 0,aq 0]) [p0,aY,z2 (bD cx) (rO cx),aA (zB 64),aA [bj 1 (bD cb),zq cx.length (rO cx),.dz 3 1 64,.dz 5 1 264],aA (zB 264)]:=by
 have gx:decide (((bD cx).length:Int)>256)=false:=bM (by rw [aG];omega)
 have gc:decide (((bD cb).length:Int)>16384)=false:=bM (by rw [aG];omega)
 have hA:=nq cb (eR _) (cL _) (by rw [aG];exact lc)
 unfold rO
 by_cases h:cx.length=0
 ·rw [if_pos h]
  obtain rfl:cx= []:=aaQ h
  have hB:=nq [] (eR _) (cL _) (by simp [bD])
  exact ao.aj (aV:=ZL 6) mixed [tC (eF gx),tC (eF gx),tC (eF gx),tC gx,tC gc,aw hA,aw hB,tT,.raw,tT,tT,.raw] (by kernel_rfl)
 ·rw [if_neg h]
  have hB:=Gb cx (eR _) (cL _) (by rw [aG];omega) (by rw [aG,Nat.blt_eq];omega)
  rw [aG] at hB
  exact ao.aj (aV:=ZL 6) mixed [tC (eF gx),tC (eF gx),tC (eF gx),tC gx,tC gc,aw hA,.LG _ _ _ _ hB (PF cx),.raw,tT,.raw,tT,tT,.raw] (by kernel_rfl)
abbrev QL (r nx:Nat) (cb:List Int) (e:mu) (k r0:Int):List Ob:= [oR 0,aY,z2 (bD e.cx) r,aA (bD e.fr),aA [bj 1 (bD cb),zq nx r,.dz 3 1 64,.dz 5 1 264],aA (bD e.st),aY,aA (uP e.m (wD e.an) (iq e.tr) 0),aA [ak k,av r0,.bc .tight 0 [],.bc .tight 0 [],aq 0],.ey 0 1,.ey 0 22,.ey 0 3]
abbrev Jb:List Nat:= [1,2,6,3,4,5]
theorem Sa (r nx:Nat) (hr:r=0∨r=1) (cb:List Int) (e:mu) (k r0:Int) (ex:List Ob):
  tZ Jb (QL r nx cb e k r0) (dS .dead (z2 (bD e.cx) r) (q1 nx r) cb e.fr e.st++ex)=QL r nx cb e k r0++ex.map (Ob.rn (gE Jb 12)):=by
 rcases hr with rfl|rfl
 ·show [oR 0,aY,aA (D.jN (gE Jb 12) (bD e.cx)),aA (D.jN (gE Jb 12) (bD e.fr)),aA [bj 1 (bD cb),zq nx 0,.dz 3 1 64,.dz 5 1 264],aA (D.jN (gE Jb 12) (bD e.st)),aY,aA (uP e.m (wD e.an) (iq e.tr) 0),aA [ak k,av r0,.bc .tight 0 [],.bc .tight 0 [],aq 0],.ey 0 1,.ey 0 22,.ey 0 3]++ex.map (Ob.rn (gE Jb 12))=_
  rw [ef,ef,ef]
  rfl
 ·show [oR 0,aY,aY,aA (D.jN (gE Jb 12) (bD e.fr)),aA [bj 1 (bD cb),zq nx 1,.dz 3 1 64,.dz 5 1 264],aA (D.jN (gE Jb 12) (bD e.st)),aY,aA (uP e.m (wD e.an) (iq e.tr) 0),aA [ak k,av r0,.bc .tight 0 [],.bc .tight 0 [],aq 0],.ey 0 1,.ey 0 22,.ey 0 3]++ex.map (Ob.rn (gE Jb 12))=_
  rw [ef,ef]
  rfl
theorem PA (r nx:Nat) (hr:r=0∨r=1) (cb:List Int) (e:mu) (hx:e.cx.length=nx) (h1:r=1→nx=0) (hn:nx≤256) (k r0:Int):ao Zy 30 [.ptr false 4 0] (QL r nx cb e k r0) (bj 1 (bD e.cx)) (QL r nx cb e k r0++ [aY]):=by
 have hq:Bs (q1 nx r) (z2 (bD e.cx) r) e.cx:=by
  rcases hr with rfl|rfl
  ·exact .inl ⟨by rw [hx];rfl,rfl⟩
  ·have:e.cx= []:=aaQ (hx.trans (h1 rfl))
   exact .inr ⟨by rw [this];rfl,this⟩
 have h:=(PB .dead _ _ cb e.cx e.fr e.st hq (by omega)).rn Jb (QL r nx cb e k r0) rfl (by decide) (show ∀x∈Jb,x<12 by decide) (by have:=Sa r nx hr cb e k r0 [];simpa using this)
 rw [Sa r nx hr cb e k r0 [aY]] at h
 exact h
theorem F4 (cb cx an:List Int) (f:Nat) (E:mu) (lf:Nat) (Wm:List Int) (ms:List au) (hb:dx cb) (hc:cb.length≤16384) (hx:cx.length≤256) (hf:f≤100000) (hR:ko cb f (qP cx an)=(E,lf)) (hV:oa cb f (qP cx an)=Wm) (hM:sK cb f (qP cx an)=ms):
  aQ Zy 13 [bj 1 (bD cb),bj 1 (bD cx),bj 1 (wD an),aq f] (.aL [bj 1 (iD Wm),bj 22 (Fh ms),.agg [ak E.en,av (EJ E),bj 1 (bD E.cx),bj 3 (iq E.tr),aq lf],aq 0]):=by
 have hr:rO cx=0∨rO cx=1:=by unfold rO;split<;>simp
 have h1:rO cx=1→cx.length=0:=by unfold rO;split<;>simp_all
 have hE:E.cx.length=cx.length:=by have:=(qW cb f (qP cx an)).1;rw [hR] at this;exact this
 have c0:=RV (rO cx) hr cb cx an f E lf Wm ms hb hc h1 hx hf hR hV hM
 have hN:=RW (oR 0) cb cx hc hx
 have hC:=PA (rO cx) cx.length hr cb E hE h1 hx E.en (EJ E)
 have g0:decide ((f:Int)<0)=false:=bM (by omega)
 have g1:decide ((f:Int)>640064)=false:=bM (by omega)
 have gx:decide (((bD cx).length:Int)>256)=false:=bM (by rw [aG];omega)
 have gc:decide (((bD cb).length:Int)>16384)=false:=bM (by rw [aG];omega)
 have hz:∀n,∀c∈zB n,c.clean=true:=fun n c h=>by rw [List.eq_of_mem_replicate h];rfl
 generalize hmm:Fh ms=mm at c0
 clear hR hV hM hmm
 by_cases he:E.en=1
 ·have hq:(E.en==1)=true:=by rw [he];rfl
  rw [EJ,if_pos he] at hC ⊢
  generalize rO cx=r at hr h1 c0 hN hC
  rcases hr with rfl|rfl
  ·exact (aQ.aj (d:= .aL [.bc (.fresh 1) 1 (iD Wm),.bc (.fresh 22) 22 mm,.agg [ak E.en,av E.m.q0,bj 1 (bD E.cx),bj 3 (iq E.tr),aq lf],aq 0]) mixed Tryz.func13 (by kernel_rfl) [tC (eF g0),tC (eF g0),tC g0,tC (eF g1),tC (eF g1),tC (eF g1),tC g1,tC (eF gx),tC (eF gx),tC (eF gx),tC gx,tC gc,.aI _ _ _ _ _ hN,aw Mn,.head (Pu 0) _ _ _ _ _ _ _ c0,.cl _ (bo cx),.cl _ (hz 64),.cl _ (hz 264),tC hq,.aI _ _ _ _ _ hC]).to (by simp [wk,a7,cH])
  ·exact (aQ.aj (d:= .aL [.bc (.fresh 1) 1 (iD Wm),.bc (.fresh 22) 22 mm,.agg [ak E.en,av E.m.q0,bj 1 (bD E.cx),bj 3 (iq E.tr),aq lf],aq 0]) mixed Tryz.func13 (by kernel_rfl) [tC (eF g0),tC (eF g0),tC g0,tC (eF g1),tC (eF g1),tC (eF g1),tC g1,tC (eF gx),tC (eF gx),tC (eF gx),tC gx,tC gc,.aI _ _ _ _ _ hN,aw Mn,.head (Pu 1) _ _ _ _ _ _ _ c0,.cl _ (hz 64),.cl _ (hz 264),tC hq,.aI _ _ _ _ _ hC]).to (by simp [wk,a7,cH])
 ·have hq:(E.en==1)=false:=by rw [gp];exact he
  rw [EJ,if_neg he] at hC ⊢
  generalize rO cx=r at hr h1 c0 hN hC
  rcases hr with rfl|rfl
  ·exact (aQ.aj (d:= .aL [.bc (.fresh 1) 1 (iD Wm),.bc (.fresh 22) 22 mm,.agg [ak E.en,av 0,bj 1 (bD E.cx),bj 3 (iq E.tr),aq lf],aq 0]) mixed Tryz.func13 (by kernel_rfl) [tC (eF g0),tC (eF g0),tC g0,tC (eF g1),tC (eF g1),tC (eF g1),tC g1,tC (eF gx),tC (eF gx),tC (eF gx),tC gx,tC gc,.aI _ _ _ _ _ hN,aw Mn,.head (Pu 0) _ _ _ _ _ _ _ c0,.cl _ (bo cx),.cl _ (hz 64),.cl _ (hz 264),tC hq,.aI _ _ _ _ _ hC]).to (by simp [wk,a7,cH])
  ·exact (aQ.aj (d:= .aL [.bc (.fresh 1) 1 (iD Wm),.bc (.fresh 22) 22 mm,.agg [ak E.en,av 0,bj 1 (bD E.cx),bj 3 (iq E.tr),aq lf],aq 0]) mixed Tryz.func13 (by kernel_rfl) [tC (eF g0),tC (eF g0),tC g0,tC (eF g1),tC (eF g1),tC (eF g1),tC g1,tC (eF gx),tC (eF gx),tC (eF gx),tC gx,tC gc,.aI _ _ _ _ _ hN,aw Mn,.head (Pu 1) _ _ _ _ _ _ _ c0,.cl _ (hz 64),.cl _ (hz 264),tC hq,.aI _ _ _ _ _ hC]).to (by simp [wk,a7,cH])
theorem DS:aQ Zy 22 ([bj 8 [xD 1 32 0 0 0 0 5 0,xD 30 0 0 0 0 0 0 0]]) (.bc (.fresh 1) 1 [ay 184,ay 5,ay 0,ay 0,ay 0,ay 195]):=by
 have c0:= @j8 ((1:Int)) ((32:Int)) ((0:Int)) ((0:Int)) ((0:Int)) ((0:Int)) ((5:Int)) ((0:Int)) (by first|rfl|decide)
 have c1:= @j8 ((30:Int)) ((0:Int)) ((0:Int)) ((0:Int)) ((0:Int)) ((0:Int)) ((0:Int)) ((0:Int)) (by first|rfl|decide)
 exact (aQ.aj (d:= .bc (.fresh 1) 1 [ay 184,ay 5,ay 0,ay 0,ay 0,ay 195]) mixed Tryz.func22 (by kernel_rfl) [.go 64,tT,tT,aw c0,tF,.len ((5:Nat)) ((2147483648:Nat)) (by first|decide|omega|(simp;omega)),tT,tT,aw c1,tF,.len ((6:Nat)) ((2147483648:Nat)) (by first|decide|omega|(simp;omega)),tF]).to (by simp [wk,a7,cH])
theorem Bv:aQ Zy 9 ([]) (ax true):=by
 have c0:=aQ.args (as':= [.bc .tight 8 [(xD 1 32 0 0 0 0 5 0),(xD 30 0 0 0 0 0 0 0)]]) (@DS) (by simp [a7,wk,cH])
 have c1:= @Jz
 have c2:= @Jy
 exact (aQ.aj (d:= .bool true) mixed Tryz.func9 (by kernel_rfl) (([aw c0,aw c1,aw c2]++cr 13 8191)++ [tT,tT,tT,tT,tT,tT,tT,aO,tT,tT,tT,tT])).to (by first|(simp [wk];done)|(simp [wk];assumption))
theorem M9 (cb cx an:List Int) (f:Int) (h:2000<((bD cb).length:Int)) (h2:((bD cb).length:Int)≤16384):aQ Zy 8 ([bj 1 (bD cb),bj 1 (bD cx),bj 1 (wD an),aq f]) (ax true):=(aQ.aj (d:= .bool true) mixed Tryz.func8 (by kernel_rfl) (Zx 3 (tC (eT (dj 2000 (bM (by omega:¬(↑(ZA (bD cb)):Int)<2001)))))++ [tC (dj 2000 (bM (by omega:¬(↑(ZA (bD cb)):Int)<2001)))]++Zx 3 (tC (eF (eH 16384 (cq (ZC h2)))))++([tC (eH 16384 (cq (ZC h2)))]++cr 8 136)++ [tF,tF,tF,tF,tT])).to (by first|(simp [wk];done)|(simp [wk];assumption))
theorem Nc (cb cx an:List Int) (f:Int) (h:20000<((bD cb).length:Int)):aQ Zy 8 ([bj 1 (bD cb),bj 1 (bD cx),bj 1 (wD an),aq f]) (ax true):=(aQ.aj (d:= .bool true) mixed Tryz.func8 (by kernel_rfl) (Zx 3 (tC (eT (dj 2000 (lz 2001 (bM (by omega:¬(↑(ZA (bD cb)):Int)<20001))))))++ [tC (dj 2000 (lz 2001 (bM (by omega:¬(↑(ZA (bD cb)):Int)<20001))))]++Zx 3 (tC (eF (eH 16384 (lz 16385 (bM (by omega:¬(↑(ZA (bD cb)):Int)<20001))))))++ [tC (eH 16384 (lz 16385 (bM (by omega:¬(↑(ZA (bD cb)):Int)<20001))))]++Zx 3 (tC (eF (dj 20000 (bM (by omega:¬(↑(ZA (bD cb)):Int)<20001)))))++ [tC (dj 20000 (bM (by omega:¬(↑(ZA (bD cb)):Int)<20001))),tF,tF,tF,tT]++ [tF,tF,tF,tF,tT])).to (by first|(simp [wk];done)|(simp [wk];assumption))
theorem M7 (cb cx an:List Int) (f:Int) (h:((bD cb).length:Int)≤2000) (hx:400<((bD cx).length:Int)):aQ Zy 8 ([bj 1 (bD cb),bj 1 (bD cx),bj 1 (wD an),aq f]) (ax true):=(aQ.aj (d:= .bool true) mixed Tryz.func8 (by kernel_rfl) (Zx 3 (tC (eT (dj 2000 (cq (ZC h)))))++ [tC (dj 2000 (cq (ZC h))),tT,tT,tT,tF]++Zx 3 (tC (eF (dj 20000 (ub 20001 (cq (ZC h))))))++ [tC (dj 20000 (ub 20001 (cq (ZC h))))]++Zx 3 (tC (eF (dj 400 (bM (by omega:¬(↑(ZA (bD cx)):Int)<401)))))++ [tC (dj 400 (bM (by omega:¬(↑(ZA (bD cx)):Int)<401)))]++ [tF,tF,tF,tF,tT])).to (by first|(simp [wk];done)|(simp [wk];assumption))
theorem Nd (cb cx an:List Int) (f:Int) (h:((bD cb).length:Int)≤2000) (hx:((bD cx).length:Int)≤400) (ha:400<((wD an).length:Int)):aQ Zy 8 ([bj 1 (bD cb),bj 1 (bD cx),bj 1 (wD an),aq f]) (ax true):=(aQ.aj (d:= .bool true) mixed Tryz.func8 (by kernel_rfl) (Zx 3 (tC (eT (dj 2000 (cq (ZC h)))))++ [tC (dj 2000 (cq (ZC h))),tT,tT,tT,tF]++Zx 3 (tC (eF (dj 20000 (ub 20001 (cq (ZC h))))))++ [tC (dj 20000 (ub 20001 (cq (ZC h))))]++Zx 3 (tC (eF (dj 400 (cq (ZC hx)))))++ [tC (dj 400 (cq (ZC hx)))]++Zx 4 (tC (eF (dj 400 (bM (by omega:¬(↑(ZA (wD an)):Int)<401)))))++ [tC (dj 400 (bM (by omega:¬(↑(ZA (wD an)):Int)<401)))])).to (by first|(simp [wk];done)|(simp [wk];assumption))
theorem Nb (cb cx an:List Int) (f:Int) (h:((bD cb).length:Int)≤2000) (hx:((bD cx).length:Int)≤400) (ha:((wD an).length:Int)≤400) (hf:3000<f) (hg:f≤640064):aQ Zy 8 ([bj 1 (bD cb),bj 1 (bD cx),bj 1 (wD an),aq f]) (ax true):=(aQ.aj (d:= .bool (decide (f≤640064))) mixed Tryz.func8 (by kernel_rfl) (Zx 3 (tC (eT (dj 2000 (cq (ZC h)))))++ [tC (dj 2000 (cq (ZC h))),tT,tT,tT,tF]++Zx 3 (tC (eF (dj 20000 (ub 20001 (cq (ZC h))))))++ [tC (dj 20000 (ub 20001 (cq (ZC h))))]++Zx 3 (tC (eF (dj 400 (cq (ZC hx)))))++ [tC (dj 400 (cq (ZC hx)))]++Zx 3 (tC (eF (dj 400 (cq (ZC ha)))))++Zx 2 (tC (eT (dj 3000 (bM (by omega:¬f<3001)))))++ [tC (eF (dj 400 (cq (ZC ha)))),tC (dj 3000 (bM (by omega:¬f<3001))),tC (dj 400 (cq (ZC ha)))])).to (by first|(simp [wk];done)|(simp [wk];assumption))
theorem K6 (cb cx an:List Int) (f:Int) (h:((bD cb).length:Int)≤2000) (hx:((bD cx).length:Int)≤400) (ha:((wD an).length:Int)≤400) (hf:f≤3000):aQ Zy 8 ([bj 1 (bD cb),bj 1 (bD cx),bj 1 (wD an),aq f]) (ax false):=(aQ.aj (d:= .bool false) mixed Tryz.func8 (by kernel_rfl) (Zx 3 (tC (eT (dj 2000 (cq (ZC h)))))++ [tC (dj 2000 (cq (ZC h))),tT,tT,tT,tF]++Zx 3 (tC (eF (dj 20000 (ub 20001 (cq (ZC h))))))++ [tC (dj 20000 (ub 20001 (cq (ZC h))))]++Zx 3 (tC (eF (dj 400 (cq (ZC hx)))))++ [tC (dj 400 (cq (ZC hx)))]++Zx 3 (tC (eF (dj 400 (cq (ZC ha)))))++Zx 2 (tC (eT (dj 3000 (cq (ZC hf)))))++ [tC (eF (dj 400 (cq (ZC ha)))),tC (dj 3000 (cq (ZC hf))),tC (dj 400 (cq (ZC ha)))])).to (by first|(simp [wk];done)|(simp [wk];assumption))
theorem K5 (cb cx an:List Int) (f:Int) (h:((bD cb).length:Int)≤2000) (hx:((bD cx).length:Int)≤400) (ha:((wD an).length:Int)≤400) (hg:640064<f):aQ Zy 8 ([bj 1 (bD cb),bj 1 (bD cx),bj 1 (wD an),aq f]) (ax false):=(aQ.aj (d:= .bool (decide (f≤640064))) mixed Tryz.func8 (by kernel_rfl) (Zx 3 (tC (eT (dj 2000 (cq (ZC h)))))++ [tC (dj 2000 (cq (ZC h))),tT,tT,tT,tF]++Zx 3 (tC (eF (dj 20000 (ub 20001 (cq (ZC h))))))++ [tC (dj 20000 (ub 20001 (cq (ZC h))))]++Zx 3 (tC (eF (dj 400 (cq (ZC hx)))))++ [tC (dj 400 (cq (ZC hx)))]++Zx 3 (tC (eF (dj 400 (cq (ZC ha)))))++Zx 2 (tC (eT (dj 3000 (lz 3001 (bM (by omega:¬f<640065))))))++ [tC (eF (dj 400 (cq (ZC ha)))),tC (dj 3000 (lz 3001 (bM (by omega:¬f<640065)))),tC (dj 400 (cq (ZC ha)))])).to (by first|(simp [wk];done)|(simp [wk];assumption))
theorem K4 (cb cx an:List Int) (f:Int) (h:16384<((bD cb).length:Int)) (h2:((bD cb).length:Int)≤20000) (hx:400<((bD cx).length:Int)):aQ Zy 8 ([bj 1 (bD cb),bj 1 (bD cx),bj 1 (wD an),aq f]) (ax true):=(aQ.aj (d:= .bool true) mixed Tryz.func8 (by kernel_rfl) (Zx 3 (tC (eT (dj 2000 (lz 2001 (bM (by omega:¬(↑(ZA (bD cb)):Int)<16385))))))++ [tC (dj 2000 (lz 2001 (bM (by omega:¬(↑(ZA (bD cb)):Int)<16385))))]++Zx 3 (tC (eF (eH 16384 (bM (by omega:¬(↑(ZA (bD cb)):Int)<16385)))))++ [tC (eH 16384 (bM (by omega:¬(↑(ZA (bD cb)):Int)<16385)))]++Zx 3 (tC (eF (dj 20000 (cq (ZC h2)))))++ [tC (dj 20000 (cq (ZC h2)))]++Zx 3 (tC (eF (dj 400 (bM (by omega:¬(↑(ZA (bD cx)):Int)<401)))))++ [tC (dj 400 (bM (by omega:¬(↑(ZA (bD cx)):Int)<401)))]++ [tF,tF,tF,tF,tT])).to (by first|(simp [wk];done)|(simp [wk];assumption))
theorem K8 (cb cx an:List Int) (f:Int) (h:16384<((bD cb).length:Int)) (h2:((bD cb).length:Int)≤20000) (hx:((bD cx).length:Int)≤400) (ha:400<((wD an).length:Int)):aQ Zy 8 ([bj 1 (bD cb),bj 1 (bD cx),bj 1 (wD an),aq f]) (ax true):=(aQ.aj (d:= .bool true) mixed Tryz.func8 (by kernel_rfl) (Zx 3 (tC (eT (dj 2000 (lz 2001 (bM (by omega:¬(↑(ZA (bD cb)):Int)<16385))))))++ [tC (dj 2000 (lz 2001 (bM (by omega:¬(↑(ZA (bD cb)):Int)<16385))))]++Zx 3 (tC (eF (eH 16384 (bM (by omega:¬(↑(ZA (bD cb)):Int)<16385)))))++ [tC (eH 16384 (bM (by omega:¬(↑(ZA (bD cb)):Int)<16385)))]++Zx 3 (tC (eF (dj 20000 (cq (ZC h2)))))++ [tC (dj 20000 (cq (ZC h2)))]++Zx 3 (tC (eF (dj 400 (cq (ZC hx)))))++ [tC (dj 400 (cq (ZC hx)))]++Zx 4 (tC (eF (dj 400 (bM (by omega:¬(↑(ZA (wD an)):Int)<401)))))++ [tC (dj 400 (bM (by omega:¬(↑(ZA (wD an)):Int)<401)))])).to (by first|(simp [wk];done)|(simp [wk];assumption))
theorem K7 (cb cx an:List Int) (f:Int) (h:16384<((bD cb).length:Int)) (h2:((bD cb).length:Int)≤20000) (hx:((bD cx).length:Int)≤400) (ha:((wD an).length:Int)≤400) (hf:3000<f) (hg:f≤640064):aQ Zy 8 ([bj 1 (bD cb),bj 1 (bD cx),bj 1 (wD an),aq f]) (ax true):=(aQ.aj (d:= .bool (decide (f≤640064))) mixed Tryz.func8 (by kernel_rfl) (Zx 3 (tC (eT (dj 2000 (lz 2001 (bM (by omega:¬(↑(ZA (bD cb)):Int)<16385))))))++ [tC (dj 2000 (lz 2001 (bM (by omega:¬(↑(ZA (bD cb)):Int)<16385))))]++Zx 3 (tC (eF (eH 16384 (bM (by omega:¬(↑(ZA (bD cb)):Int)<16385)))))++ [tC (eH 16384 (bM (by omega:¬(↑(ZA (bD cb)):Int)<16385)))]++Zx 3 (tC (eF (dj 20000 (cq (ZC h2)))))++ [tC (dj 20000 (cq (ZC h2)))]++Zx 3 (tC (eF (dj 400 (cq (ZC hx)))))++ [tC (dj 400 (cq (ZC hx)))]++Zx 3 (tC (eF (dj 400 (cq (ZC ha)))))++Zx 2 (tC (eT (dj 3000 (bM (by omega:¬f<3001)))))++ [tC (eF (dj 400 (cq (ZC ha)))),tC (dj 3000 (bM (by omega:¬f<3001))),tC (dj 400 (cq (ZC ha)))])).to (by first|(simp [wk];done)|(simp [wk];assumption))
theorem HF (cb cx an:List Int) (f:Int) (h:16384<((bD cb).length:Int)) (h2:((bD cb).length:Int)≤20000) (hx:((bD cx).length:Int)≤400) (ha:((wD an).length:Int)≤400) (hf:f≤3000):aQ Zy 8 ([bj 1 (bD cb),bj 1 (bD cx),bj 1 (wD an),aq f]) (ax false):=(aQ.aj (d:= .bool false) mixed Tryz.func8 (by kernel_rfl) (Zx 3 (tC (eT (dj 2000 (lz 2001 (bM (by omega:¬(↑(ZA (bD cb)):Int)<16385))))))++ [tC (dj 2000 (lz 2001 (bM (by omega:¬(↑(ZA (bD cb)):Int)<16385))))]++Zx 3 (tC (eF (eH 16384 (bM (by omega:¬(↑(ZA (bD cb)):Int)<16385)))))++ [tC (eH 16384 (bM (by omega:¬(↑(ZA (bD cb)):Int)<16385)))]++Zx 3 (tC (eF (dj 20000 (cq (ZC h2)))))++ [tC (dj 20000 (cq (ZC h2)))]++Zx 3 (tC (eF (dj 400 (cq (ZC hx)))))++ [tC (dj 400 (cq (ZC hx)))]++Zx 3 (tC (eF (dj 400 (cq (ZC ha)))))++Zx 2 (tC (eT (dj 3000 (cq (ZC hf)))))++ [tC (eF (dj 400 (cq (ZC ha)))),tC (dj 3000 (cq (ZC hf))),tC (dj 400 (cq (ZC ha)))])).to (by first|(simp [wk];done)|(simp [wk];assumption))
theorem HE (cb cx an:List Int) (f:Int) (h:16384<((bD cb).length:Int)) (h2:((bD cb).length:Int)≤20000) (hx:((bD cx).length:Int)≤400) (ha:((wD an).length:Int)≤400) (hg:640064<f):aQ Zy 8 ([bj 1 (bD cb),bj 1 (bD cx),bj 1 (wD an),aq f]) (ax false):=(aQ.aj (d:= .bool (decide (f≤640064))) mixed Tryz.func8 (by kernel_rfl) (Zx 3 (tC (eT (dj 2000 (lz 2001 (bM (by omega:¬(↑(ZA (bD cb)):Int)<16385))))))++ [tC (dj 2000 (lz 2001 (bM (by omega:¬(↑(ZA (bD cb)):Int)<16385))))]++Zx 3 (tC (eF (eH 16384 (bM (by omega:¬(↑(ZA (bD cb)):Int)<16385)))))++ [tC (eH 16384 (bM (by omega:¬(↑(ZA (bD cb)):Int)<16385)))]++Zx 3 (tC (eF (dj 20000 (cq (ZC h2)))))++ [tC (dj 20000 (cq (ZC h2)))]++Zx 3 (tC (eF (dj 400 (cq (ZC hx)))))++ [tC (dj 400 (cq (ZC hx)))]++Zx 3 (tC (eF (dj 400 (cq (ZC ha)))))++Zx 2 (tC (eT (dj 3000 (lz 3001 (bM (by omega:¬f<640065))))))++ [tC (eF (dj 400 (cq (ZC ha)))),tC (dj 3000 (lz 3001 (bM (by omega:¬f<640065)))),tC (dj 400 (cq (ZC ha)))])).to (by first|(simp [wk];done)|(simp [wk];assumption))
abbrev aE (cb cx an:List Int) (f:Int):List D:= [bj 1 (bD cb),bj 1 (bD cx),bj 1 (wD an),aq f]
abbrev pE (lp:Ob) (lv f:Int) (a b o:D) (cb cx an:List Int):List Ob:= [aA [aq lv],aA [ax false],aY,aY,aA [a],aA [b],match o with| .agg c=> .box c|_=> .dead,aA [bj 1 (bD cb)],aA [bj 1 (bD cx)],aA [bj 1 (wD an)],aA [aq f],aA [aq 0],lp]
abbrev oZ:D:= .agg [ak 0,av 0,.bc .tight 0 [],.bc .tight 0 [],aq 0]
section
variable (cb cx an:List Int) (f lv:Int) (wk:aQ Zy 9 [] (ax true))
include wk
theorem RU (hg:aQ Zy 8 (aE cb cx an f) (ax true)):aQ Zy 4 (aE cb cx an f++ [aq lv]) (ax true):=
 aQ.aj mixed Tryz.func4 (by kernel_rfl) [aw hg,tT,aw wk] (by kernel_rfl)
theorem RT (hg:aQ Zy 8 (aE cb cx an f) (ax false)) (h:f<0∨640064<f∨256<(bD cx).length∨16384<(bD cb).length):aQ Zy 4 (aE cb cx an f++ [aq lv]) (ax true):=by
 have hs:aQ Zy 13 (aE cb cx an f) (.aL [.bc .tight 0 [],.bc .tight 0 [],oZ,aq 2]):=by
  by_cases h0:f<0
  ·have g0:decide (f<0)=true:=cq h0
   exact (aQ.aj mixed Tryz.func13 (by kernel_rfl) ([tC (eF g0),tC (eF g0),tC g0]++cr 9 392) (by kernel_rfl))
  have g0:decide (f<0)=false:=bM h0
  by_cases h1:f>640064
  ·have g1:=cq h1
   exact (aQ.aj mixed Tryz.func13 (by kernel_rfl) [tC (eF g0),tC (eF g0),tC g0,tC (eF g1),tC (eF g1),tC (eF g1),tC g1,tF,tF,tF,tT,tT] (by kernel_rfl))
  have g1:=bM h1
  by_cases h2:((bD cx).length:Int)>256
  ·have g2:=cq h2
   exact (aQ.aj mixed Tryz.func13 (by kernel_rfl) [tC (eF g0),tC (eF g0),tC g0,tC (eF g1),tC (eF g1),tC (eF g1),tC g1,tC (eF g2),tC (eF g2),tC (eF g2),tC g2,tT] (by kernel_rfl))
  have g2:=bM h2
  have g3:decide (((bD cb).length:Int)>16384)=true:=cq (by omega)
  exact (aQ.aj mixed Tryz.func13 (by kernel_rfl) [tC (eF g0),tC (eF g0),tC g0,tC (eF g1),tC (eF g1),tC (eF g1),tC g1,tC (eF g2),tC (eF g2),tC (eF g2),tC g2,tC g3] (by kernel_rfl))
 have hO:∀WU:Ob,ao Zy 23 (aE cb cx an f) (pE WU lv f (.bc .tight 0 []) (.bc .tight 0 []) oZ cb cx an) (.aL [.gA,aq 2]) (pE WU lv f (.bc .tight 0 []) (.bc .tight 0 []) oZ cb cx an++Zx 9 .dead):=fun WU=>by
  by_cases h2:256<(bD cx).length
  ·exact pad 9 ((Cw cb cx (wD an) f (eR _) (eR _) (cL _) (cL _) h2).rn [] (pE WU lv f (.bc .tight 0 []) (.bc .tight 0 []) oZ cb cx an) rfl .nil (fun _ h=>by cases h) rfl)
  by_cases h3:16384<(bD cb).length
  ·exact pad 9 ((Cy cb cx (wD an) f (eR _) (eR _) (cL _) (cL _) (by omega) h3).rn [] (pE WU lv f (.bc .tight 0 []) (.bc .tight 0 []) oZ cb cx an) rfl .nil (fun _ h=>by cases h) rfl)
  by_cases h0:f<0
  ·exact (Cx cb cx (wD an) f (eR _) (eR _) (cL _) (cL _) (by omega) (by omega) h0).rn [] (pE WU lv f (.bc .tight 0 []) (.bc .tight 0 []) oZ cb cx an) rfl .nil (fun _ h=>by cases h) rfl
  ·exact (Cz cb cx (wD an) f (eR _) (eR _) (cL _) (cL _) (by omega) (by omega) (by omega)).rn [] (pE WU lv f (.bc .tight 0 []) (.bc .tight 0 []) oZ cb cx an) rfl .nil (fun _ h=>by cases h) rfl
 have hO:=hO (sP (dP aam 0) (dN aam 0) .ready)
 exact aQ.aj mixed Tryz.func4 (by kernel_rfl) [aw hg,tF,aw hs,tT,aO,tF,.Mp [9,10,11,12,16],.aI _ _ _ _ _ hO,tT,tF,tF,tF,tT,tT,aw wk,tT] (by kernel_rfl)
end
theorem RS (cb cx an:List Int) (f:Nat) (lv:Int) (wk:aQ Zy 9 [] (ax true)) (hb:dx cb) (lc:(bD cb).length≤16384) (lx:(bD cx).length≤256) (hf:f≤100000) (hg:aQ Zy 8 (aE cb cx an f) (ax false)):aQ Zy 4 (aE cb cx an f++ [aq lv]) (ax true):=by
 generalize hV:oa cb f (qP cx an)=V
 generalize hM:sK cb f (qP cx an)=M
 cases hC:DR cb lv f (qP cx an) 0 with
 |mk n k=>
 cases hR:ko cb f (qP cx an) with
 |mk E lf=>
 have hs:=F4 cb cx an f E lf V M hb (by rw [aG] at lc;exact lc) (by rw [aG] at lx;exact lx) hf hR hV hM
 obtain ⟨k2,_,_,hn⟩:=LB cb lv f (qP cx an) 0
 rw [hC,hV] at hn
 rw [hC] at k2
 simp only at hn k2
 have hO:=EU [aA [aq lv],aA [ax false],aY,aY,aA [bj 1 (iD V)],aA [bj 22 (Fh M)],aA [ak E.en,av (EJ E),bj 1 (bD E.cx),bj 3 (iq E.tr),aq lf],aA [bj 1 (bD cb)],aA [bj 1 (bD cx)],aA [bj 1 (wD an)],aA [aq f],aA [aq 0],sP (dP aam 0) (dN aam 0) .ready] 13 rfl cb cx (wD an) f (eR _) (eR _) (cL _) (cL _) lc lx (by omega) (by omega)
 have c0:=RE (RQ k) (RC k) lv V M cb cx an f n k hb lc lx hf hV hM hC rfl rfl
 have hz:∀n,∀c∈zB n,c.clean=true:=fun n c h=>by rw [List.eq_of_mem_replicate h];rfl
 clear hV hM hC hR
 have hl:(iD V).length=V.length:=KW V
 by_cases q:n=V.length
 ·have hq:((n:Int)==((iD V).length:Int))=true:=by rw [cF];omega
  have:k=0∨k=1∨k=2:=by omega
  rcases this with rfl|rfl|rfl<;>exact aQ.aj mixed Tryz.func4 (by kernel_rfl) [aw hg,tF,aw hs,tF,aO,tF,.Mp [9,10,11,12,16],.aI _ _ _ _ _ hO,tF,aO,aO,.head RN _ _ _ _ _ _ _ c0,.cl _ (bo cb),.cl _ (bo cx),.cl _ (hz 64),.cl _ (hz 264),tC (eF hq),tC (eF hq),tC (eF hq),tC hq,tT,aw wk,tT] (by kernel_rfl)
 ·have hq:((n:Int)==((iD V).length:Int))=false:=by rw [gp];omega
  have hv:((n:Int)==lv)=true:=by rw [cF];omega
  have:k=0∨k=1∨k=2:=by omega
  rcases this with rfl|rfl|rfl<;>exact aQ.aj mixed Tryz.func4 (by kernel_rfl) [aw hg,tF,aw hs,tF,aO,tF,.Mp [9,10,11,12,16],.aI _ _ _ _ _ hO,tF,aO,aO,.head RN _ _ _ _ _ _ _ c0,.cl _ (bo cb),.cl _ (bo cx),.cl _ (hz 64),.cl _ (hz 264),tC (eF hq),tC (eF hq),tC (eF hq),tC hq,tC (eT hv),aw wk,tC hv] (by kernel_rfl)
theorem Lr (cb cx an:List Int) (hb:dx cb) (f lv:Int):aQ Zy 4 [bj 1 (bD cb),bj 1 (bD cx),bj 1 (wD an),aq f,aq lv] (ax true):=by
 have W:=Bv
 have G:=fun h=>RU cb cx an f lv W h
 have X:=fun h=>RT cb cx an f lv W h
 by_cases h1:2000<((bD cb).length:Int)
 ·by_cases h2:((bD cb).length:Int)≤16384
  ·exact G (M9 cb cx an f h1 h2)
  by_cases h3:20000<((bD cb).length:Int)
  ·exact G (Nc cb cx an f h3)
  by_cases hx:400<((bD cx).length:Int)
  ·exact G (K4 cb cx an f (by omega) (by omega) hx)
  by_cases ha:400<((wD an).length:Int)
  ·exact G (K8 cb cx an f (by omega) (by omega) (by omega) ha)
  by_cases hf:f≤3000
  ·exact X (HF cb cx an f (by omega) (by omega) (by omega) (by omega) hf) (by omega)
  by_cases hg:f≤640064
  ·exact G (K7 cb cx an f (by omega) (by omega) (by omega) (by omega) (by omega) hg)
  ·exact X (HE cb cx an f (by omega) (by omega) (by omega) (by omega) (by omega)) (by omega)
 have WT:((bD cb).length:Int)≤2000:=by omega
 by_cases hx:400<((bD cx).length:Int)
 ·exact G (M7 cb cx an f WT hx)
 by_cases ha:400<((wD an).length:Int)
 ·exact G (Nd cb cx an f WT (by omega) ha)
 by_cases hf:f≤3000
 case neg=>
  by_cases hg:f≤640064
  ·exact G (Nb cb cx an f WT (by omega) (by omega) (by omega) hg)
  ·exact X (K5 cb cx an f WT (by omega) (by omega) (by omega)) (by omega)
 have Gn:=K6 cb cx an f WT (by omega) (by omega) hf
 by_cases lx:(bD cx).length≤256
 case neg=>exact X Gn (by omega)
 by_cases f0:0≤f
 case neg=>exact X Gn (by omega)
 obtain ⟨n,rfl⟩:=Int.eq_ofNat_of_zero_le f0
 exact RS cb cx an n lv W hb (by omega) lx (by omega) Gn
end Go.Proofs.YtbfpahigdpigpaaGreat
