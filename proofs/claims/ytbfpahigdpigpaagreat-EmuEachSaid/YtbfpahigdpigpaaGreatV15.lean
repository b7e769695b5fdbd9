import Derived.Test.YtbfpahigdpigpaaGreatV08
import Derived.Test.YtbfpahigdpigpaaGreatV10
import Derived.Test.YtbfpahigdpigpaaGreatV11
import Derived.Test.YtbfpahigdpigpaaGreatV13
import Derived.Test.YtbfpahigdpigpaaGreatV14
open BitVec renaming ofInt→Zw,toNat→Zz
open List renaming replicate→Zx,length→ZA,range→ZL
open Go.Proofs.Tryz renaming prog→Zy,f10→aae,f4→aam
open Bool renaming eq_iff_iff→ZB,or_eq_true→ZV,or_eq_false_iff→aaj
open And renaming intro→ZI
open Int renaming toNat→ZJ,fdiv_eq_ediv_of_nonneg→Z9,fdiv→aad
open True renaming intro→ZX
open List.cons renaming injEq→Z6
open Go renaming IntKind→aaY
/- Contracts and plain laws that a statement's proof leans on (texts merged:EEA,EM9,EM9B,DSA,DPA,DPB,DST,MdT,ZR0,ZR1,ZR2,ZR3,MdRd,XQS,ZR4,ZR4A,XR1). -/
set_option linter.unusedVariables false
set_option linter.unusedSimpArgs false
set_option maxRecDepth 100000
set_option maxHeartbeats 8000000
namespace Go.Proofs.YtbfpahigdpigpaaGreat
open Go Go.Ev
abbrev sP (ga gb:Code) (k:Lk):Ob:= .lp k (un 9++(.ptr false 0 0:: .ptr false 1 0:: .ptr false 4 0:: .ptr false 5 0::(un 3++(.ptr false 11 0::un 67)))) #[45,46] ga gb
abbrev vS (lv:Int) (vs ms:List D) (n:Int) (lp:Ob) (left:Int) (m:au) (cc cx fr st an tr:List D) (en:Int) (nc nx v:Nat) (dd:List Ob):List Ob:= .box [aq lv]::aA [ax false]::aY::aY::aA [bj 1 vs]::aA [bj 22 ms]::aY::aY::aY::aY::aY::aA [aq n]::lp::aA (Pb 16 19 20 21 nc nx)::aY::aY::aA cc::aY::aY::aA cx::aA fr::aA st::aY::aA (uZ 13 28 m an tr v en)::aA [aq left]::aA [.ptr false 23 0]::aY::aA [.ptr false 24 0]:: .ey v 3::dd
abbrev vO (lv:Int) (vs:List D) (n:Int) (lp:Ob):List Ob:= .box [aq lv]::aA [ax false]::aY::aY::aA [bj 1 vs]::aY::aY::aY::aY::aY::aY::aA [aq n]::lp::Zx 15 .dead
abbrev Bp:List Nat:= [2,13,14,15,16,17,18,19,20,21,22,23,3,6,7,8,28]
theorem Rm (lv:Int) (vs ms:List D) (n:Int) (lp:Ob) (left:Int) (ex:List Ob) (m0 m:au) (c0 x0 f0 s0 a0 t0:List D) (e0 en:Int) (n0 y0 v0 nc nx v:Nat) (cb cx fr st:List Int) (an tr:List D) (dd:List Ob) (hl:ex.length≤1):
  tZ Bp (vS lv vs ms n lp left m0 c0 x0 f0 s0 a0 t0 e0 n0 y0 v0 ex) (aY::aA (uX nc nx)::aY::aY::aA (bD cb)::aY::aY::aA (bD cx)::aA (bD fr)::aA (bD st)::aY::aA (uC m an tr v en)::aY::aY::aY::aY:: .ey v 3::dd)=vS lv vs ms n lp left m (bD cb) (bD cx) (bD fr) (bD st) an tr en nc nx v (ex++dd.map (Ob.rn (gE Bp (29+ex.length)))):=by
 match ex,hl with
 | [],_=>
  show vS lv vs ms n lp left m (D.jN (gE Bp 29) (bD cb)) (D.jN (gE Bp 29) (bD cx)) (D.jN (gE Bp 29) (bD fr)) (D.jN (gE Bp 29) (bD st)) an tr en nc nx v (dd.map (Ob.rn (gE Bp 29)))=_
  rw [ef,ef,ef,ef]
  rfl
 | [x],_=>
  show vS lv vs ms n lp left m (D.jN (gE Bp 30) (bD cb)) (D.jN (gE Bp 30) (bD cx)) (D.jN (gE Bp 30) (bD fr)) (D.jN (gE Bp 30) (bD st)) an tr en nc nx v (x::dd.map (Ob.rn (gE Bp 30)))=_
  rw [ef,ef,ef,ef]
  rfl
theorem F7 (lv:Int) (vs ms:List D) (n:Int) (lp:Ob) (left:Int) (x:Ob) (cb:List Int) (hb:dx cb) (hc:cb.length≤16384) (nx:Nat) (Vf:nx≤256) (e:mu) (hx:e.cx.length=nx) (hf:e.fr.length=64) (hs:e.st.length=264) (ht:e.tr.length≤100000):
  ∃(v:Nat) (dd:List Ob),(v=0∨v=1∧(bF cb e).2=true)∧ao Zy 47 [.ptr false 23 0] (vS lv vs ms n lp left e.m (bD cb) (bD e.cx) (bD e.fr) (bD e.st) (wD e.an) (iq e.tr) e.en cb.length nx 0 [x]) (ax (bF cb e).2) (vS lv vs ms n lp left (bF cb e).1.m (bD cb) (bD (bF cb e).1.cx) (bD (bF cb e).1.fr) (bD (bF cb e).1.st) (wD (bF cb e).1.an) (iq (bF cb e).1.tr) (bF cb e).1.en cb.length nx v (x::dd)):=by
 obtain ⟨v,dd,hv,hS⟩:=y6 .dead .dead .dead .dead .dead cb hb hc nx Vf e hx hf hs ht
 have h:=hS.rn Bp (vS lv vs ms n lp left e.m (bD cb) (bD e.cx) (bD e.fr) (bD e.st) (wD e.an) (iq e.tr) e.en cb.length nx 0 [x]) rfl (by decide) (show ∀x∈Bp,x<30 by decide) (Rm lv vs ms n lp left [x] _ _ _ _ _ _ _ _ _ _ _ _ _ _ _ _ _ _ _ _ _ _ [] (Nat.le_refl 1))
 have h2:=Rm lv vs ms n lp left [x] e.m (bF cb e).1.m (bD cb) (bD e.cx) (bD e.fr) (bD e.st) (wD e.an) (iq e.tr) e.en (bF cb e).1.en cb.length nx 0 cb.length nx v cb (bF cb e).1.cx (bF cb e).1.fr (bF cb e).1.st (wD (bF cb e).1.an) (iq (bF cb e).1.tr) dd (Nat.le_refl 1)
 rw [h2] at h
 exact ⟨v,_,hv,h⟩
theorem Kk (lv:Int) (vs ms:List D) (n:Int) (lp:Ob) (left:Int) (cb cx fr st:List Int) (an tr:List D) (m:au) (en:Int) (nc nx:Nat):
  ao Zy 46 [.ptr false 23 0] (vS lv vs ms n lp left m (bD cb) (bD cx) (bD fr) (bD st) an tr en nc nx 0 []) (aq (G2 m.pc)) (vS lv vs ms n lp left m (bD cb) (bD cx) (bD fr) (bD st) an tr en nc nx 0 []):=by
 have h1:=Rm lv vs ms n lp left [] m m (bD cb) (bD cx) (bD fr) (bD st) an tr en en nc nx 0 nc nx 0 cb cx fr st an tr [] (Nat.zero_le _)
 have h:=(xI .dead .dead .dead .dead .dead (bD cb) (bD cx) (bD fr) (bD st) an tr m en nc nx).rn Bp (vS lv vs ms n lp left m (bD cb) (bD cx) (bD fr) (bD st) an tr en nc nx 0 []) rfl (by decide) (show ∀x∈Bp,x<29 by decide) h1
 rw [h1] at h
 exact h
abbrev vT:List D:=([.jM 12,.ptr false 25 0,mH,.ptr false 27 0]++ke 31)
abbrev RN:HS:=⟨[0,1,3],[0,1,4,5,11,12,13,23,24,25,27,1000016,1000019,1000020,1000021],[(1023024,3)]⟩
abbrev RM:HS:=⟨[],[0,1,4,11,12],[]⟩
section
variable (lv:Int) (vs ms:List D) (cb cx fr st:List Int) (an tr:List D) (left en n:Int) (nc nx:Nat) (m:au)
theorem Pm (h:left≤0):aF Zy (dT Tryz.f45 0) RM 28 vT (vS lv vs ms n (sP (dP aam 0) (dN aam 0) .ready) left m (bD cb) (bD cx) (bD fr) (bD st) an tr en nc nx 0 []) (.exit 0) kU (vO lv vs n (sP (dP aam 0) (dN aam 0) .ready)):=by
 have g:decide (left>0)=false:=bM (by omega)
 exact aF.aj mixed [tC g] (by kernel_rfl)
variable (n0:0≤n) (n1:n<(vs.length:Int)) (o:Int) (hv:vs[ZJ n]? =some (aq o)) (hm:ms[ZJ n]? =some (.agg (eV m))) (h:0<left) (ho:ao Zy 46 [.ptr false 23 0] (vS lv vs ms n (sP (dP aam 0) (dN aam 0) .ready) left m (bD cb) (bD cx) (bD fr) (bD st) an tr en nc nx 0 []) (aq o) (vS lv vs ms n (sP (dP aam 0) (dN aam 0) .ready) left m (bD cb) (bD cx) (bD fr) (bD st) an tr en nc nx 0 []))
include n0 n1 hv hm h ho
theorem RD:(((aaY.i64.wrap (n+1))==lv)=true→aF Zy (dT Tryz.f45 0) RM 28 vT (vS lv vs ms n (sP (dP aam 0) (dN aam 0) .ready) left m (bD cb) (bD cx) (bD fr) (bD st) an tr en nc nx 0 []) .ret kU (vO lv vs (aaY.i64.wrap (n+1)) (sP (dP aam 0) (dN aam 0) (.exit 0))))∧
  (((aaY.i64.wrap (n+1))==lv)=false→∀(Ux Uk Ul:List Int) (Va Vb:List D) (m2:au) (VI:Int) (dd:List Ob),
   (∀v,v=0∨v=1→ao Zy 47 [.ptr false 23 0] (vS lv vs ms (aaY.i64.wrap (n+1)) (sP (dP aam 0) (dN aam 0) .ready) (aaY.i64.wrap (left - 1)) m (bD cb) (bD cx) (bD fr) (bD st) an tr en nc nx 0 [aA (eV m)]) (ax true) (vS lv vs ms (aaY.i64.wrap (n+1)) (sP (dP aam 0) (dN aam 0) .ready) (aaY.i64.wrap (left - 1)) m2 (bD cb) (bD Ux) (bD Uk) (bD Ul) Va Vb VI nc nx v (aA (eV m)::dd))→aF Zy (dT Tryz.f45 0) RN 28 vT (vS lv vs ms n (sP (dP aam 0) (dN aam 0) .ready) left m (bD cb) (bD cx) (bD fr) (bD st) an tr en nc nx 0 []) .norm vT (vS lv vs ms (aaY.i64.wrap (n+1)) (sP (dP aam 0) (dN aam 0) .ready) (aaY.i64.wrap (left - 1)) m2 ((bD cb).map D.bn) ((bD Ux).map D.bn) ((bD Uk).map D.bn) ((bD Ul).map D.bn) Va Vb VI nc nx 0 []))∧
   (ao Zy 47 [.ptr false 23 0] (vS lv vs ms (aaY.i64.wrap (n+1)) (sP (dP aam 0) (dN aam 0) .ready) (aaY.i64.wrap (left - 1)) m (bD cb) (bD cx) (bD fr) (bD st) an tr en nc nx 0 [aA (eV m)]) (ax false) (vS lv vs ms (aaY.i64.wrap (n+1)) (sP (dP aam 0) (dN aam 0) .ready) (aaY.i64.wrap (left - 1)) m2 (bD cb) (bD Ux) (bD Uk) (bD Ul) Va Vb VI nc nx 0 (aA (eV m)::dd))→aF Zy (dT Tryz.f45 0) RM 28 vT (vS lv vs ms n (sP (dP aam 0) (dN aam 0) .ready) left m (bD cb) (bD cx) (bD fr) (bD st) an tr en nc nx 0 []) .ret kU (vO lv vs (aaY.i64.wrap (n+1)) (sP (dP aam 0) (dN aam 0) .ready)))):=by
 have g0:decide (left>0)=true:=cq h
 have gn:decide (n≥(vs.length:Int))=false:=bM (by omega)
 have t0:decide ((0:Int)≤n)=true:=cq n0
 have Ww:(!(o==o))=false:=by simp
 have hq:(!((m.q0==m.q0)&&((m.q1==m.q1)&&((m.q2==m.q2)&&((m.q3==m.q3)&&((m.q4==m.q4)&&((m.q5==m.q5)&&((m.q6==m.q6)&&((m.q7==m.q7)&&((m.q8==m.q8)&&((m.q9==m.q9)&&((m.de==m.de)&&((m.dr==m.dr)&&((m.dw==m.dw)&&((m.du==m.du)&&((m.dt==m.dt)&&((m.dn==m.dn)&&((m.fk==m.fk)&&((m.fc==m.fc)&&((m.fz==m.fz)&&((m.fs==m.fs)&&((m.fo==m.fo)&&((m.pc==m.pc)&&true)))))))))))))))))))))))=false:=by simp
 let E:List (Ev Zy):= [tC g0,.aI _ _ _ _ _ ho,.aV [(0,aA [aq lv]),(1,aA [ax false]),(4,aA [bj 1 vs]),(5,aA [bj 22 ms]),(11,aA [aq n]),(12,(sP (dP aam 0) (dN aam 0) .ready)),(13,aA (Pb 16 19 20 21 nc nx)),(16,aA (bD cb)),(19,aA (bD cx)),(20,aA (bD fr)),(21,aA (bD st)),(23,aA (uZ 13 28 m an tr 0 en)),(24,aA [aq left]),(25,aA [.ptr false 23 0]),(27,aA [.ptr false 24 0]),(28,.ey 0 3)],aO,tC (eF gn),tC (eF gn),tC (eF gn),tC (eF gn),tC t0,.get _ _ _ hv,tC (eF gn),tC (eF gn),tC gn,tC (eF Ww),tC (eF Ww),tC (eF Ww),tC (eF Ww),tC t0,.get _ _ _ hm,tC (eF Ww),tC (eF Ww),.flat _ _ xZ,tC Ww,tC hq]
 refine ⟨fun g=>aF.aj mixed (E++ [tC g,tT]) (by kernel_rfl),fun g Ux Uk Ul Va Vb m2 VI dd=>⟨fun v hv hs=> ?_,fun hs=>aF.aj mixed (E++ [tC g,tF,.aI _ _ _ _ _ hs,tT]) (by kernel_rfl)⟩⟩
 rcases hv with rfl|rfl<;>exact aF.aj mixed (E++ [tC g,tF,.aI _ _ _ _ _ hs,tF,.cl _ (bo cb),.cl _ (bo Ux),.cl _ (bo Uk),.cl _ (bo Ul)]) (by kernel_rfl)
end
abbrev Sv:List D:=([.jM 15,.ptr false 12 0,mH,.ptr false 14 0]++ke 31)
abbrev Su:List D:=(ke 35)
abbrev Sw (lp:Ob) (cb:List Int) (nx:Nat) (e:mu) (left:Int):List Ob:=eS (aA [ak 0,av 0,.bc .tight 0 [],.bc .tight 0 [],aq left]) (aA [.ptr false 11 0]) .dead (aA [.ptr false 0 4]) lp cb cb.length nx e 0 []
def Oe (e:mu):Ex:=if e.en=0 then .exit 0 else .ret
theorem sk (cb:List Int) (hb:dx cb) (hc:cb.length≤16384) (nx:Nat) (Vf:nx≤256):∀(f:Nat) (e:mu),e.en=0→e.cx.length=nx→e.fr.length=64→e.st.length=264→e.tr.length+f≤100000→
  cX Zy (dT Tryz.f45 0) 16 Sv (Sw (.lp .ready (Zx 56 .undef) #[27,28] (dP aae 0) (dN aae 0)) cb nx e (f:Int)) (Oe (ko cb f e).1) Su (Sw (.lp .ready (Zx 56 .undef) #[27,28] (dP aae 0) (dN aae 0)) cb nx (ko cb f e).1 ((ko cb f e).2:Int))
 |0,e,h0,hx,hf,hs,ht=>by
  have:=Pg (bD cb) (bD e.cx) (bD e.fr) (bD e.st) (wD e.an) (iq e.tr) e.m ((0:Nat):Int) e.en cb.length nx (bo _) (bo _) (bo _) (bo _) (Int.le_refl _)
  rw [ca,ca,ca,ca] at this
  rw [ko,Oe,if_pos h0]
  exact cX.last this (fun h=>by cases h)
 |f+1,e,h0,hx,hf,hs,ht=>by
  have hw:aaY.i64.wrap (((f+1:Nat):Int) - 1)=(f:Int):=by rw [aX];omega
  obtain ⟨v,dd,hv,hS⟩:=y6 (aA [ak 0,av 0,.bc .tight 0 [],.bc .tight 0 [],aq (f:Int)]) (aA [.ptr false 11 0]) .dead (aA [.ptr false 0 4]) (.lp .ready (Zx 56 .undef) #[27,28] (dP aae 0) (dN aae 0)) cb hb hc nx Vf e hx hf hs (by omega)
  have VO:=wc cb e
  have TY:=qR cb e
  rw [ko]
  cases Ty:bF cb e with
  |mk e2 b=>
   rw [Ty] at hS hv VO TY
   simp only at hS hv VO TY
   cases b with
   |true=>
    obtain ⟨t,Wy,hl⟩:=TY.tr
    have ih:=sk cb hb hc nx Vf f e2 (VO.1 rfl) (TY.cx.trans hx) (TY.fr.trans hf) (TY.st.trans hs) (by rw [Wy,List.length_append];omega)
    rw [← hw] at hS
    rcases hv with rfl|⟨rfl,_⟩
    ·have:=Pf (bD cb) (bD e.cx) (bD e.fr) (bD e.st) (wD e.an) (iq e.tr) e.m ((f+1:Nat):Int) e.en cb.length nx (bo _) (bo _) (bo _) (bo _) (bD e2.cx) (bD e2.fr) (bD e2.st) (wD e2.an) (iq e2.tr) e2.m e2.en dd (bo _) (bo _) (bo _) (by omega) hS
     rw [ca,ca,ca,ca,hw] at this
     exact cX.j4 this ih
    ·have:=Pe (bD cb) (bD e.cx) (bD e.fr) (bD e.st) (wD e.an) (iq e.tr) e.m ((f+1:Nat):Int) e.en cb.length nx (bo _) (bo _) (bo _) (bo _) (bD e2.cx) (bD e2.fr) (bD e2.st) (wD e2.an) (iq e2.tr) e2.m e2.en dd (bo _) (bo _) (bo _) (by omega) hS
     rw [ca,ca,ca,ca,hw] at this
     exact cX.j4 this ih
   |false=>
    rw [← hw] at hS
    rcases hv with rfl|⟨_,h⟩
    ·have:=Qz (bD cb) (bD e.cx) (bD e.fr) (bD e.st) (wD e.an) (iq e.tr) e.m ((f+1:Nat):Int) e.en cb.length nx (bo _) (bo _) (bo _) (bo _) (bD e2.cx) (bD e2.fr) (bD e2.st) (wD e2.an) (iq e2.tr) e2.m e2.en dd (bo _) (bo _) (bo _) (by omega) hS
     rw [ca,ca,ca,ca,hw] at this
     simp only [Oe]
     rw [if_neg (VO.2 rfl)]
     exact cX.last this (fun h=>by cases h)
    ·cases h
def SZ:au:=⟨0,0,0,0,4194560,0,0,0,0,0,0,0,0,0,0,0,false,false,false,false,false,1048576⟩
def qP (cx an:List Int):mu:=⟨SZ,cx,Zx 64 0,Zx 264 0,an,[],0⟩
abbrev QI (lp:Ob) (cc cx:List D) (an:List D) (f:Int):List Ob:= [aA [ak 0,av 0,.bc .tight 0 [],.bc .tight 0 [],aq f],aA (uX cc.length cx.length),aY,aY,aA (cc.map D.bn),aY,aY,aA (cx.map D.bn),aA ((Zx 64 (hP (Value.int aaY.u8 0))).map D.bn),aA ((Zx 264 (hP (Value.int aaY.u8 0))).map D.bn),aY,aA [av 0,av 0,av 0,av 0,av 4194560,av 0,av 0,av 0,av 0,av 0,av 0,av 0,av 0,av 0,av 0,av 0,ax false,ax false,ax false,ax false,ax false,av 1048576,.ptr false 1 0,bj 1 an,.bc (.tok 16 0) 3 [],ak 0],aA [.ptr false 11 0],aY,aA [.ptr false 0 4],lp,.ey 0 3]
abbrev Ss (lp:Ob) (cb:List Int) (e:mu) (f:Int):List Ob:= [aA [ak 0,av 0,.bc .tight 0 [],.bc .tight 0 [],aq f],aA (uX (bD cb).length (bD e.cx).length),aY,aY,aA (bD cb),aY,aY,aA (bD e.cx),aA (bD e.fr),aA (bD e.st),aY,aA (uC e.m (wD e.an) (iq e.tr) 0 e.en),aA [.ptr false 11 0],aY,aA [.ptr false 0 4],lp,.ey 0 3]
theorem Gq (n:Nat):(Zx n (hP (Value.int aaY.u8 0))).map D.bn=bD (Zx n 0):=by
 rw [bD,List.map_replicate,List.map_replicate];rfl
theorem P2 (cb cx an:List Int) (f:Nat) (E:mu) (lf:Nat) (hb:dx cb) (lc:(bD cb).length≤16384) (lx:(bD cx).length≤256) (hf:f≤100000) (hR:ko cb f (qP cx an)=(E,lf)):
  cS Zy 16 (.loop (dT Tryz.f45 0)) Sv (QI (.lp .ready (Zx 56 .undef) #[27,28] (dP aae 0) (dN aae 0)) (bD cb) (bD cx) (wD an) (f:Int)) (Oe E) Su (Ss (.lp .ready (Zx 56 .undef) #[27,28] (dP aae 0) (dN aae 0)) cb E (lf:Int)):=by
 have hl:=(qW cb f (qP cx an)).1
 have:=sk cb hb (by rw [aG] at lc;exact lc) cx.length (by rw [aG] at lx;exact lx) f (qP cx an) rfl rfl rfl rfl (by show 0+f≤100000;omega)
 rw [hR] at this hl
 have Us:E.cx.length=cx.length:=hl
 unfold QI Ss
 rw [Gq,Gq,ca,ca,aG,aG,aG,Us]
 exact cS.iy (by simp) this
abbrev uD (m:au) (an tr:List D) (v:Nat):List D:= [av m.q0,av m.q1,av m.q2,av m.q3,av m.q4,av m.q5,av m.q6,av m.q7,av m.q8,av m.q9,av m.de,av m.dr,av m.dw,av m.du,av m.dt,av m.dn,ax m.fk,ax m.fc,ax m.fz,ax m.fs,ax m.fo,av m.pc,.ptr false 4 0,bj 1 an,.bc (.tok 7 v) 3 tr]
abbrev oR (k:Int):Ob:= .box [ak k,av 0,.bc .tight 0 [],.bc .tight 0 [],aq 0]
def z2 (c:List D):Nat→Ob|0=> .box c|_=> .dead
def zq (nx:Nat):Nat→D|0=> .dz 2 1 nx|_=> .bc .no 1 (bD [])
abbrev uP (m:au) (an tr:List D) (v:Nat):List D:= [av m.q0,av m.q1,av m.q2,av m.q3,av m.q4,av m.q5,av m.q6,av m.q7,av m.q8,av m.q9,av m.de,av m.dr,av m.dw,av m.du,av m.dt,av m.dn,ax m.fk,ax m.fc,ax m.fz,ax m.fs,ax m.fo,av m.pc,.ptr false 4 0,bj 1 an,.bc (.tok 11 v) 3 tr]
abbrev Lu (r nx:Nat) (cb:List Int) (cx fr st an tr:List D) (m:au) (k:Int) (w v:Nat) (dd:List Ob):List Ob:=oR 0::aY::z2 cx r::aA fr::aA [bj 1 (bD cb),zq nx r,.dz 3 1 64,.dz 5 1 264]::aA st::aY::aA (uP m an tr v)::oR k:: .ey w 1:: .ey w 22:: .ey v 3::dd
abbrev L8 (f:Int) (pl l:List D):List D:=((mH)::(mH)::(mH)::(aq f)::(un 6++(.ptr false 0 0)::(mH)::(mH)::(mH)::(.ptr false 7 0)::(.bc (.tok 9 0) 1 pl)::(.bc (.tok 10 0) 22 l)::(.ptr false 8 0)::(un 103)))
def Pu:Nat→HS
  |0=>⟨[3,10,14,17],[0,1000002,1000003,4,1000005,7,8],[(15,1),(16,22),(1007024,3)]⟩
  |_=>⟨[3,10,14,17],[0,1000003,4,1000005,7,8],[(15,1),(16,22),(1007024,3)]⟩
abbrev Q3 (pc o:Int):Prop:=(decide (pc≥1048576)=false∧o= -1)∨(decide (pc≥1048576)=true∧decide (pc≤1064960)=false∧o= -1)∨(decide (pc≥1048576)=true∧decide (pc≤1064960)=true∧o=aaY.i64.wrap (aaY.u64.wrap (pc - 1048576)))
section
variable (r nx:Nat) (hr:r=0∨r=1) (cb cx fr st:List Int) (an tr pl l:List D) (m:au) (f o:Int)
include hr
theorem Py (h:f≤0):aF Zy (dT Tryz.f13 0) (Pu r) 9 (L8 f pl l) (Lu r nx cb (bD cx) (bD fr) (bD st) an tr m 0 0 0 []) (.exit 0) (L8 f pl l) (Lu r nx cb ((bD cx).map D.bn) ((bD fr).map D.bn) ((bD st).map D.bn) an tr m 0 0 0 []):=by
 have g:decide (f>0)=false:=bM (by omega)
 rcases hr with rfl|rfl
 ·exact aF.aj mixed [tC g,.cl (bD cx) (bo _),.cl (bD fr) (bo _),.cl (bD st) (bo _)] (by kernel_rfl)
 ·exact aF.aj mixed [tC g,.cl (bD fr) (bo _),.cl (bD st) (bo _)] (by kernel_rfl)
variable (h:0<f) (la:pl.length≤100000) (ll:l.length≤100000) (Ux Uk Ul:List Int) (Va Vb:List D) (m2:au) (k:Int) (dd:List Ob)
include h la ll
theorem QK (WS:Q3 m.pc o) (v:Nat) (hv:v=0∨v=1) (hs:ao Zy 29 [.ptr false 7 0] (Lu r nx cb (bD cx) (bD fr) (bD st) an tr m 0 1 0 []) (.aL [ak k,ax true]) (Lu r nx cb (bD Ux) (bD Uk) (bD Ul) Va Vb m2 0 1 v dd)):
  aF Zy (dT Tryz.f13 0) (Pu r) 9 (L8 f pl l) (Lu r nx cb (bD cx) (bD fr) (bD st) an tr m 0 0 0 []) .norm (L8 (aaY.i64.wrap (f - 1)) (pl++ [aq o]) (l++ [.agg (eV m)])) (Lu r nx cb ((bD Ux).map D.bn) ((bD Uk).map D.bn) ((bD Ul).map D.bn) Va Vb m2 0 0 0 []):=by
 have g:decide (f>0)=true:=cq h
 have l1:pl.length+1≤2147483648:=by omega
 have l2:l.length+1≤2147483648:=by omega
 rcases WS with ⟨p0,rfl⟩|⟨p0,p1,rfl⟩|⟨p0,p1,rfl⟩
 ·rcases hr with rfl|rfl
  ·rcases hv with rfl|rfl<;>exact aF.aj mixed (tC g::(Zx 6 (tC (eT p0))++ [tC p0,tF,.len _ _ l1,.len _ _ l2,.aI _ _ _ _ _ hs,tF,.cl _ (bo Ux),.cl _ (bo Uk),.cl _ (bo Ul)])) (by kernel_rfl)
  ·rcases hv with rfl|rfl<;>exact aF.aj mixed (tC g::(Zx 6 (tC (eT p0))++ [tC p0,tF,.len _ _ l1,.len _ _ l2,.aI _ _ _ _ _ hs,tF,.cl _ (bo Uk),.cl _ (bo Ul)])) (by kernel_rfl)
 all_goals
  rcases hr with rfl|rfl
  ·rcases hv with rfl|rfl<;>exact aF.aj mixed (tC g::(Zx 6 (tC (eT p0))++ [tC p0,tC p1,.len _ _ l1,.len _ _ l2,.aI _ _ _ _ _ hs,tF,.cl _ (bo Ux),.cl _ (bo Uk),.cl _ (bo Ul)])) (by kernel_rfl)
  ·rcases hv with rfl|rfl<;>exact aF.aj mixed (tC g::(Zx 6 (tC (eT p0))++ [tC p0,tC p1,.len _ _ l1,.len _ _ l2,.aI _ _ _ _ _ hs,tF,.cl _ (bo Uk),.cl _ (bo Ul)])) (by kernel_rfl)
theorem QJ (WS:Q3 m.pc o) (hs:ao Zy 29 [.ptr false 7 0] (Lu r nx cb (bD cx) (bD fr) (bD st) an tr m 0 1 0 []) (.aL [ak k,ax false]) (Lu r nx cb (bD Ux) (bD Uk) (bD Ul) Va Vb m2 0 1 0 dd)):
  aF Zy (dT Tryz.f13 0) (Pu r) 9 (L8 f pl l) (Lu r nx cb (bD cx) (bD fr) (bD st) an tr m 0 0 0 []) (.exit 0) (L8 (aaY.i64.wrap (f - 1)) (pl++ [aq o]) (l++ [.agg (eV m)])) (Lu r nx cb ((bD Ux).map D.bn) ((bD Uk).map D.bn) ((bD Ul).map D.bn) Va Vb m2 k 0 0 []):=by
 have g:decide (f>0)=true:=cq h
 have l1:pl.length+1≤2147483648:=by omega
 have l2:l.length+1≤2147483648:=by omega
 rcases WS with ⟨p0,rfl⟩|⟨p0,p1,rfl⟩|⟨p0,p1,rfl⟩
 ·rcases hr with rfl|rfl
  ·exact aF.aj mixed (tC g::(Zx 6 (tC (eT p0))++ [tC p0,tF,.len _ _ l1,.len _ _ l2,.aI _ _ _ _ _ hs,tT,.cl _ (bo Ux),.cl _ (bo Uk),.cl _ (bo Ul)])) (by kernel_rfl)
  ·exact aF.aj mixed (tC g::(Zx 6 (tC (eT p0))++ [tC p0,tF,.len _ _ l1,.len _ _ l2,.aI _ _ _ _ _ hs,tT,.cl _ (bo Uk),.cl _ (bo Ul)])) (by kernel_rfl)
 all_goals
  rcases hr with rfl|rfl
  ·exact aF.aj mixed (tC g::(Zx 6 (tC (eT p0))++ [tC p0,tC p1,.len _ _ l1,.len _ _ l2,.aI _ _ _ _ _ hs,tT,.cl _ (bo Ux),.cl _ (bo Uk),.cl _ (bo Ul)])) (by kernel_rfl)
  ·exact aF.aj mixed (tC g::(Zx 6 (tC (eT p0))++ [tC p0,tC p1,.len _ _ l1,.len _ _ l2,.aI _ _ _ _ _ hs,tT,.cl _ (bo Uk),.cl _ (bo Ul)])) (by kernel_rfl)
end
abbrev tA (y0 y1 o3 o4 o5:Ob) (m:au) (an tr:List D) (v:Nat) (l:List Ob):List Ob:=y0::y1::aY::o3::o4::o5::aA (uD m an tr v):: .ey v 3::l
abbrev xB (op w ab ae aa af ai cc:Int):Ob:= .box [ak op,ak w,ak ab,ak ae,ak aa,aq af,aq ai,ak cc]
abbrev gB (fb:List D):List D:=List.take (ZJ (if (20:Int)<(fb.length:Int) then (20:Int) else (fb.length:Int))) fb
abbrev mn {P:Program} (fb:List D):Ev P:= .cM (decide (((0:Int)≤if (20:Int)<(fb.length:Int) then (20:Int) else (fb.length:Int))∧(if (20:Int)<(fb.length:Int) then (20:Int) else (fb.length:Int))≤(fb.length:Int))) true (cq (by omega))
theorem Bx (y0 y1 o3 o4 o5:Ob) (an tr:List D) (m:au) (er:Int) (he:er≠0) (hf:ao Zy 51 [.ptr false 4 0,av m.pc] (tA y0 y1 o3 o4 o5 m an tr 0 []) (.aL [.bc .tight 0 [],aq er]) (tA y0 y1 o3 o4 o5 m an tr 0 [])):ao Zy 29 ([.ptr false 6 0]) ((tA y0 y1 o3 o4 o5 m an tr 0 [])) (.aL [ak 3,ax false]) ((tA y0 y1 o3 o4 o5 m an tr 0 [])):=by
 exact ao.aj (aV:=ZL 8) mixed [.aI _ _ _ _ _ hf,tC (nt (aR he))] (by kernel_rfl)
section
variable (y0 y1 o3 o4 o5:Ob) (an tr:List D) (m:au) (fb:List D) (hf:ao Zy 51 [.ptr false 4 0,av m.pc] (tA y0 y1 o3 o4 o5 m an tr 0 []) (.aL [bj 1 fb,aq 0]) (tA y0 y1 o3 o4 o5 m an tr 0 [aY]))
include hf
theorem FT (op w ab ae aa af ai Tl len er:Int) (hr:aQ Zy 21 [bj 1 (gB fb)] (.aL [xD op w ab ae aa af ai Tl,aq len,aq er])) (Zr:er≠0):ao Zy 29 ([.ptr false 6 0]) ((tA y0 y1 o3 o4 o5 m an tr 0 [])) (.aL [ak 3,ax false]) ((tA y0 y1 o3 o4 o5 m an tr 0 (Zx 3 .dead))):=ao.aj (aV:=ZL 8) mixed [.aI _ _ _ _ _ hf,tF,mn fb,aw hr,tC (nt (aR Zr))] (by kernel_rfl)
theorem FX (op w ab ae aa af ai Tl len:Int) (hr:aQ Zy 21 [bj 1 (gB fb)] (.aL [xD op w ab ae aa af ai Tl,aq len,aq 0])) (lr:(op==31)=false) (jV:(op==30)=false) (a n:Int) (ha:aQ Zy 52 [.agg (eV m),xD op w ab ae aa af ai Tl] (.aL [av a,aq n,ax false])) (m1:au) (e:Int) (hd:aQ Zy 57 [.agg (eV m),xD op w ab ae aa af ai Tl,av 0] (.aL [.agg (eV m1),aq e])) (he:e=0):ao Zy 29 ([.ptr false 6 0]) ((tA y0 y1 o3 o4 o5 m an tr 0 [])) (.aL [ak 0,ax true]) ((tA y0 y1 o3 o4 o5 m1 an tr 0 (Zx 6 .dead))):=ao.aj (aV:=ZL 8) mixed ([.aI _ _ _ _ _ hf,tF,mn fb,aw hr,tF,aw ha,tC lr,tF,tF,tF,tF,tF,tF,aw hd,tC (nt (cD 0 true he)),tC (eT jV)]++ [tC (eT jV),tC jV,tF]) (by kernel_rfl)
theorem yY (op w ab ae aa af ai Tl len:Int) (hr:aQ Zy 21 [bj 1 (gB fb)] (.aL [xD op w ab ae aa af ai Tl,aq len,aq 0])) (lr:(op==31)=false) (a n:Int) (ha:aQ Zy 52 [.agg (eV m),xD op w ab ae aa af ai Tl] (.aL [av a,aq n,ax false])) (m1:au) (e:Int) (hd:aQ Zy 57 [.agg (eV m),xD op w ab ae aa af ai Tl,av 0] (.aL [.agg (eV m1),aq e])) (he:e≠0):ao Zy 29 ([.ptr false 6 0]) ((tA y0 y1 o3 o4 o5 m an tr 0 [])) (.aL [ak 3,ax false]) ((tA y0 y1 o3 o4 o5 m an tr 0 (Zx 6 .dead))):=ao.aj (aV:=ZL 8) mixed [.aI _ _ _ _ _ hf,tF,mn fb,aw hr,tF,aw ha,tC lr,tF,tF,tF,tF,tF,tF,aw hd,tC (nt (aR he))] (by kernel_rfl)
theorem FU (op w ab ae aa af ai Tl len:Int) (hr:aQ Zy 21 [bj 1 (gB fb)] (.aL [xD op w ab ae aa af ai Tl,aq len,aq 0])) (lr:(op==31)=false) (ma:(op==27)=false) (jV:(op==30)=false) (a n:Int) (ha:aQ Zy 52 [.agg (eV m),xD op w ab ae aa af ai Tl] (.aL [av a,aq n,ax true])) (v:Int) (hm:ao Zy 56 [.ptr false 4 0,av a,aq n] (tA y0 y1 o3 o4 o5 m an tr 0 [aY,aY,xB op w ab ae aa af ai Tl,aY]) (.aL [av v,aq 0]) (tA y0 y1 o3 o4 o5 m an tr 0 [aY,aY,xB op w ab ae aa af ai Tl,aY])) (m1:au) (e:Int) (hd:aQ Zy 57 [.agg (eV m),xD op w ab ae aa af ai Tl,av v] (.aL [.agg (eV m1),aq e])) (he:e=0):ao Zy 29 ([.ptr false 6 0]) ((tA y0 y1 o3 o4 o5 m an tr 0 [])) (.aL [ak 0,ax true]) ((tA y0 y1 o3 o4 o5 m1 an tr 0 (Zx 6 .dead))):=ao.aj (aV:=ZL 8) mixed ([.aI _ _ _ _ _ hf,tF,mn fb,aw hr,tF,aw ha,tC lr,tT,tT,tT,tT,tC ma,tT,.aI _ _ _ _ _ hm,tF,aw hd]++ [tC (nt (cD 0 true he)),tC (eT jV),tC (eT jV),tC jV,tF]) (by kernel_rfl)
theorem Jh (op w ab ae aa af ai Tl len:Int) (hr:aQ Zy 21 [bj 1 (gB fb)] (.aL [xD op w ab ae aa af ai Tl,aq len,aq 0])) (lr:(op==31)=false) (ma:(op==27)=false) (jV:(op==30)=true) (a n:Int) (ha:aQ Zy 52 [.agg (eV m),xD op w ab ae aa af ai Tl] (.aL [av a,aq n,ax true])) (v:Int) (hm:ao Zy 56 [.ptr false 4 0,av a,aq n] (tA y0 y1 o3 o4 o5 m an tr 0 [aY,aY,xB op w ab ae aa af ai Tl,aY]) (.aL [av v,aq 0]) (tA y0 y1 o3 o4 o5 m an tr 0 [aY,aY,xB op w ab ae aa af ai Tl,aY])) (m1:au) (e:Int) (hd:aQ Zy 57 [.agg (eV m),xD op w ab ae aa af ai Tl,av v] (.aL [.agg (eV m1),aq e])) (he:e=0) (hv:(v==0)=false):ao Zy 29 ([.ptr false 6 0]) ((tA y0 y1 o3 o4 o5 m an tr 0 [])) (.aL [ak 0,ax true]) ((tA y0 y1 o3 o4 o5 m1 an tr 0 (Zx 6 .dead))):=ao.aj (aV:=ZL 8) mixed ([.aI _ _ _ _ _ hf,tF,mn fb,aw hr,tF,aw ha,tC lr,tT,tT,tT,tT,tC ma,tT,.aI _ _ _ _ _ hm,tF,aw hd]++ [tC (nt (cD 0 true he)),tC (eT (cD 30 true (eq_of_beq jV))),tC (eT (cD 30 true (eq_of_beq jV))),tC (cD 30 true (eq_of_beq jV)),tC hv]) (by kernel_rfl)
theorem FR (op w ab ae aa af ai Tl len:Int) (hr:aQ Zy 21 [bj 1 (gB fb)] (.aL [xD op w ab ae aa af ai Tl,aq len,aq 0])) (lr:(op==31)=false) (ma:(op==27)=false) (jV:(op==30)=true) (a n:Int) (ha:aQ Zy 52 [.agg (eV m),xD op w ab ae aa af ai Tl] (.aL [av a,aq n,ax true])) (v:Int) (hm:ao Zy 56 [.ptr false 4 0,av a,aq n] (tA y0 y1 o3 o4 o5 m an tr 0 [aY,aY,xB op w ab ae aa af ai Tl,aY]) (.aL [av v,aq 0]) (tA y0 y1 o3 o4 o5 m an tr 0 [aY,aY,xB op w ab ae aa af ai Tl,aY])) (m1:au) (e:Int) (hd:aQ Zy 57 [.agg (eV m),xD op w ab ae aa af ai Tl,av v] (.aL [.agg (eV m1),aq e])) (he:e=0) (hv:(v==0)=true):ao Zy 29 ([.ptr false 6 0]) ((tA y0 y1 o3 o4 o5 m an tr 0 [])) (.aL [ak 1,ax false]) ((tA y0 y1 o3 o4 o5 m1 an tr 0 (Zx 6 .dead))):=ao.aj (aV:=ZL 8) mixed ([.aI _ _ _ _ _ hf,tF,mn fb,aw hr,tF,aw ha,tC lr,tT,tT,tT,tT,tC ma,tT,.aI _ _ _ _ _ hm,tF,aw hd]++ [tC (nt (cD 0 true he)),tC (eT (cD 30 true (eq_of_beq jV))),tC (eT (cD 30 true (eq_of_beq jV))),tC (cD 30 true (eq_of_beq jV)),tC (cD 0 true (eq_of_beq hv))]) (by kernel_rfl)
theorem qo (op w ab ae aa af ai Tl len:Int) (hr:aQ Zy 21 [bj 1 (gB fb)] (.aL [xD op w ab ae aa af ai Tl,aq len,aq 0])) (lr:(op==31)=false) (ma:(op==27)=false) (a n:Int) (ha:aQ Zy 52 [.agg (eV m),xD op w ab ae aa af ai Tl] (.aL [av a,aq n,ax true])) (hm:ao Zy 56 [.ptr false 4 0,av a,aq n] (tA y0 y1 o3 o4 o5 m an tr 0 [aY,aY,xB op w ab ae aa af ai Tl,aY]) (.aL [av 0,aq 20]) (tA y0 y1 o3 o4 o5 m an tr 0 [aY,aY,xB op w ab ae aa af ai Tl,aY])):ao Zy 29 ([.ptr false 6 0]) ((tA y0 y1 o3 o4 o5 m an tr 0 [])) (.aL [ak 3,ax false]) ((tA y0 y1 o3 o4 o5 m an tr 0 (Zx 4 .dead))):=ao.aj (aV:=ZL 8) mixed [.aI _ _ _ _ _ hf,tF,mn fb,aw hr,tF,aw ha,tC lr,tT,tT,tT,tT,tC ma,tT,.aI _ _ _ _ _ hm,tT] (by kernel_rfl)
theorem wb (op w ab ae aa af ai Tl len:Int) (hr:aQ Zy 21 [bj 1 (gB fb)] (.aL [xD op w ab ae aa af ai Tl,aq len,aq 0])) (lr:(op==31)=false) (ma:(op==27)=true) (a n:Int) (ha:aQ Zy 52 [.agg (eV m),xD op w ab ae aa af ai Tl] (.aL [av a,aq n,ax true])) (z:Int) (hs:aQ Zy 55 [.agg (eV m),xD op w ab ae aa af ai Tl] (av z)) (hm:ao Zy 54 [.ptr false 4 0,av a,aq n,av z] (tA y0 y1 o3 o4 o5 m an tr 0 [aY,aY,xB op w ab ae aa af ai Tl,aY,aY]) (aq 20) (tA y0 y1 o3 o4 o5 m an tr 0 [aY,aY,xB op w ab ae aa af ai Tl,aY,aY])):ao Zy 29 ([.ptr false 6 0]) ((tA y0 y1 o3 o4 o5 m an tr 0 [])) (.aL [ak 3,ax false]) ((tA y0 y1 o3 o4 o5 m an tr 0 (Zx 5 .dead))):=ao.aj (aV:=ZL 8) mixed [.aI _ _ _ _ _ hf,tF,mn fb,aw hr,tF,aw ha,tC lr,tT,tT,tT,tT,tC (cD 27 true (eq_of_beq ma)),aw hs,.aI _ _ _ _ _ hm,tT] (by kernel_rfl)
theorem yW (op w ab ae aa af ai Tl len:Int) (hr:aQ Zy 21 [bj 1 (gB fb)] (.aL [xD op w ab ae aa af ai Tl,aq len,aq 0])) (lr:(op==31)=true) (a n:Int) (q:Bool) (ha:aQ Zy 52 [.agg (eV m),xD op w ab ae aa af ai Tl] (.aL [av a,aq n,ax q])) (g:Int) (hn:aQ Zy 85 [.agg (eV m)] (.aL [aq g,ax false])):ao Zy 29 ([.ptr false 6 0]) ((tA y0 y1 o3 o4 o5 m an tr 0 [])) (.aL [ak 3,ax false]) ((tA y0 y1 o3 o4 o5 m an tr 0 (Zx 5 .dead))):=by
 exact ao.aj (aV:=ZL 8) mixed [.aI _ _ _ _ _ hf,tF,mn fb,aw hr,tF,aw ha,tC (cD 31 true (eq_of_beq lr)),aO,aw hn,tT,tT] (by kernel_rfl)
end
theorem Bw (y0 y1 o3 o4 o5:Ob) (an tr:List D) (m:au) (p1 p3 p5:Ob) (fb:List D) (hf:ao Zy 51 [.ptr false 4 0,av m.pc] (tA y0 y1 o3 o4 o5 m an tr 0 []) (.aL [bj 1 fb,aq 0]) (tA y0 y1 o3 o4 o5 m an tr 0 [aY])) (op w ab ae aa af ai Tl len:Int) (hr:aQ Zy 21 [bj 1 (gB fb)] (.aL [xD op w ab ae aa af ai Tl,aq len,aq 0])) (lr:(op==31)=false) (ma:(op==27)=true) (jV:(op==30)=false) (a n:Int) (ha:aQ Zy 52 [.agg (eV m),xD op w ab ae aa af ai Tl] (.aL [av a,aq n,ax true])) (z:Int) (hs:aQ Zy 55 [.agg (eV m),xD op w ab ae aa af ai Tl] (av z)) (hm:ao Zy 54 [.ptr false 4 0,av a,aq n,av z] (tA y0 y1 o3 o4 o5 m an tr 0 [aY,aY,xB op w ab ae aa af ai Tl,aY,aY]) (aq 0) (tA y0 p1 p3 o4 p5 m an tr 0 [aY,aY,xB op w ab ae aa af ai Tl,aY,aY])) (m1:au) (e:Int) (hd:aQ Zy 57 [.agg (eV m),xD op w ab ae aa af ai Tl,av 0] (.aL [.agg (eV m1),aq e])) (he:e=0):ao Zy 29 ([.ptr false 6 0]) ((tA y0 y1 o3 o4 o5 m an tr 0 [])) (.aL [ak 0,ax true]) ((tA y0 p1 p3 o4 p5 m1 an tr 0 (Zx 7 .dead))):=ao.aj (aV:=ZL 8) mixed ([.aI _ _ _ _ _ hf,tF,mn fb,aw hr,tF,aw ha,tC lr,tT,tT,tT,tT,tC (cD 27 true (eq_of_beq ma)),aw hs,.aI _ _ _ _ _ hm,tF,aw hd]++ [tC (nt (cD 0 true he)),tC (eT (cD 30 false (eq_of_beq ma))),tC (eT (cD 30 false (eq_of_beq ma))),tC (cD 30 false (eq_of_beq ma)),tF]) (by kernel_rfl)
theorem yV (y0 y1 o3 o4 o5:Ob) (tr:List D) (m:au) (fb:List D) (hf:ao Zy 51 [.ptr false 4 0,av m.pc] (tA y0 y1 o3 o4 o5 m [] tr 0 []) (.aL [bj 1 fb,aq 0]) (tA y0 y1 o3 o4 o5 m [] tr 0 [aY])) (op w ab ae aa af ai Tl len:Int) (hr:aQ Zy 21 [bj 1 (gB fb)] (.aL [xD op w ab ae aa af ai Tl,aq len,aq 0])) (lr:(op==31)=true) (a n:Int) (q:Bool) (ha:aQ Zy 52 [.agg (eV m),xD op w ab ae aa af ai Tl] (.aL [av a,aq n,ax q])) (g:Int) (hn:aQ Zy 85 [.agg (eV m)] (.aL [aq g,ax true])):ao Zy 29 ([.ptr false 6 0]) ((tA y0 y1 o3 o4 o5 m [] tr 0 [])) (.aL [ak 2,ax false]) ((tA y0 y1 o3 o4 o5 m [] tr 0 (Zx 5 .dead))):=ao.aj (aV:=ZL 8) mixed [.aI _ _ _ _ _ hf,tF,mn fb,aw hr,tF,aw ha,tC (cD 31 true (eq_of_beq lr)),aO,aw hn,tF,tT,tT] (by kernel_rfl)
theorem FV (y0 y1 o3 o4 o5:Ob) (ar tr ga:List D) (m:au) (a0:Int) (fb:List D) (hf:ao Zy 51 [.ptr false 4 0,av m.pc] (tA y0 y1 o3 o4 o5 m (av a0::ar) tr 0 []) (.aL [bj 1 fb,aq 0]) (tA y0 y1 o3 o4 o5 m (av a0::ar) tr 0 [aY])) (op w ab ae aa af ai Tl len:Int) (hr:aQ Zy 21 [bj 1 (gB fb)] (.aL [xD op w ab ae aa af ai Tl,aq len,aq 0])) (lr:(op==31)=true) (jV:(op==30)=false) (a n:Int) (q:Bool) (ha:aQ Zy 52 [.agg (eV m),xD op w ab ae aa af ai Tl] (.aL [av a,aq n,ax q])) (g:Int) (ht:tr.length≤100000) (hn:aQ Zy 85 [.agg (eV m)] (.aL [aq g,ax true])) (hg:aQ Zy 86 [.agg (eV m)] (bj 1 ga)) (m1:au) (e:Int) (hd:aQ Zy 57 [.agg (eV m),xD op w ab ae aa af ai Tl,av a0] (.aL [.agg (eV m1),aq e])) (he:e=0):ao Zy 29 ([.ptr false 6 0]) ((tA y0 y1 o3 o4 o5 m (av a0::ar) tr 0 [])) (.aL [ak 0,ax true]) ((tA y0 y1 o3 o4 o5 m1 ar (tr++ [.agg [aq g,bj 1 ga,av a0]]) 1 (Zx 9 .dead))):=ao.aj (aV:=ZL 8) mixed ([.aI _ _ _ _ _ hf,tF,mn fb,aw hr,tF,aw ha,tC (cD 31 true (eq_of_beq lr)),aO,aw hn,tF,tF,aw hg,.get (av a0::ar) 0 (av a0) rfl,.cM (decide ((0:Int)≤(1:Int)∧(1:Int)≤(↑(ZA (av a0::ar)):Int))) true (by ((try simp only [eZ] at*);(try unfold dK at*);omega)),.len (ZA tr+(1:Nat)) ((2147483648:Nat)) (by first|decide|omega|(simp;omega)),tF]++ [aw hd,tC (nt (cD 0 true he)),tC (eT (cD 30 false (eq_of_beq lr))),tC (eT (cD 30 false (eq_of_beq lr))),tC (cD 30 false (eq_of_beq lr)),tF]) (by kernel_rfl)
end Go.Proofs.YtbfpahigdpigpaaGreat
namespace Go.Ev
open Go
theorem Oj {w:Int} (hw:aP w=true):decide (0≤aaY.i8.wrap (w - 1))=true:=by
 rcases ej hw with rfl|rfl<;>rfl
theorem QR (a:Int):((Zw 64 a&&&Zw 64 255).toNat:Int)=a%256:=by have:=and_ones 64 8 (by omega) a;exact this
theorem PN (a:Int):((Zw 64 a&&&Zw 64 65535).toNat:Int)=a%65536:=by have:=and_ones 64 16 (by omega) a;exact this
theorem m9 (v:Int) (i:Nat):(Zw 64 v).getLsbD i=decide ((v%18446744073709551616).toNat / 2^i%2=1):=by
 rw [← BitVec.testBit_toNat,toNat_ofInt,Nat.testBit_eq_decide_div_mod_eq]
 rfl
theorem KL (v:Int):fL v 32=(Zw 64 v).getLsbD 31:=by
 rw [m9,show fL v 32=decide (aaY.i64.wrap (u64 (aaY.i32.wrap v))<0) from rfl,decide_eq_decide]
 unfold u64
 rw [aX,bZ,nS]
 omega
theorem KK (v:Int):fL v 64=(Zw 64 v).getLsbD 63:=by
 rw [m9,show fL v 64=decide (aaY.i64.wrap v<0) from rfl,decide_eq_decide]
 rw [aX]
 omega
def fq (v w:Int):Bool:=aaY.u64.wrap ((Zw 64 (v.fdiv (2^(min (aaY.i8.wrap (w - 1)).toNat 64)))&&&Zw 64 1).toNat:Int)==1
theorem NM (a:Int):((Zw 64 a&&&Zw 64 1).toNat:Int)=a%2:=by have:=and_ones 64 1 (by omega) a;exact this
theorem mK (v:Int):fq v 32=(Zw 64 v).getLsbD 31:=by
 have e:fq v 32=(aaY.u64.wrap ((Zw 64 (v.fdiv 2147483648)&&&Zw 64 1).toNat:Int)==1):=rfl
 rw [e,NM,bZ,Z9 _ (by decide),m9,ZB,cF,bX]
 omega
theorem rP (v:Int):fq v 64=(Zw 64 v).getLsbD 63:=by
 have e:fq v 64=(aaY.u64.wrap ((Zw 64 (v.fdiv 9223372036854775808)&&&Zw 64 1).toNat:Int)==1):=rfl
 rw [e,NM,bZ,Z9 _ (by decide),m9,ZB,cF,bX]
 omega
theorem uO (n:Int):Zw 64 (u64 n)=Zw 64 n:=by
 apply BitVec.eq_of_toNat_eq
 rw [toNat_ofInt,toNat_ofInt]
 unfold u64
 rw [bZ,show ((2^64:Nat):Int)=18446744073709551616 from rfl,Int.emod_emod]
theorem qx (x:BitVec 64):Zw 64 (x.toNat:Int)=x:=by
 apply BitVec.eq_of_toNat_eq
 simp
theorem k7 (a b:Int) (i:Nat):(Zw 64 (rJ a b)).getLsbD i=((Zw 64 a).getLsbD i !=(Zw 64 b).getLsbD i):=by
 unfold rJ
 rw [uO,qx,BitVec.getLsbD_xor]
theorem rG (a b:Int) (i:Nat):(Zw 64 (qn a b)).getLsbD i=((Zw 64 a).getLsbD i&&(Zw 64 b).getLsbD i):=by
 unfold qn
 rw [uO,qx,BitVec.getLsbD_and]
theorem Bo {w a b:Int} (hw:aP w=true):yz w a b=((fq a w==fq b w)&&(fq (u64 (a+b)) w !=fq a w)):=by
 unfold yz
 rcases ej hw with rfl|rfl
 ·rw [KL,rG,k7,k7,mK,mK,mK]
  cases (Zw 64 a).getLsbD 31<;>cases (Zw 64 b).getLsbD 31<;>cases (Zw 64 (u64 (a+b))).getLsbD 31<;>rfl
 ·rw [KK,rG,k7,k7,rP,rP,rP]
  cases (Zw 64 a).getLsbD 63<;>cases (Zw 64 b).getLsbD 63<;>cases (Zw 64 (u64 (a+b))).getLsbD 63<;>rfl
theorem yZ {w a b:Int} (hw:aP w=true):rX w a b=((fq a w !=fq b w)&&(fq (u64 (a - b)) w !=fq a w)):=by
 unfold rX
 rcases ej hw with rfl|rfl
 ·rw [KL,rG,k7,k7,mK,mK,mK]
  cases (Zw 64 a).getLsbD 31<;>cases (Zw 64 b).getLsbD 31<;>cases (Zw 64 (u64 (a - b))).getLsbD 31<;>rfl
 ·rw [KK,rG,k7,k7,rP,rP,rP]
  cases (Zw 64 a).getLsbD 63<;>cases (Zw 64 b).getLsbD 63<;>cases (Zw 64 (u64 (a - b))).getLsbD 63<;>rfl
theorem pr {w v:Int} (hw:aP w=true):fL v w=fq v w:=by
 rcases ej hw with rfl|rfl
 ·rw [KL,mK]
 ·rw [KK,rP]
theorem lU {w v:Int} (hw:aP w=true):fq (aJ v w) w=fq v w:=by
 rcases ej hw with rfl|rfl
 ·rw [mK,mK,m9,m9,show aJ v 32=v%4294967296 from rfl,decide_eq_decide]
  omega
 ·rfl
theorem FC {w a b:Int} (hw:aP w=true):aJ (u64 (aJ a w+aJ b w)) w=aJ (u64 (a+b)) w:=by
 unfold u64
 rcases ej hw with rfl|rfl
 ·rw [bZ,bZ,show ∀v,aJ v 32=v%4294967296 from fun _=>rfl]
  simp only [show ∀v,aJ v 32=v%4294967296 from fun _=>rfl]
  omega
 ·rfl
theorem FB {w a b:Int} (hw:aP w=true):aJ (u64 (aJ a w - aJ b w)) w=aJ (u64 (a - b)) w:=by
 unfold u64
 rcases ej hw with rfl|rfl
 ·rw [bZ,bZ,show ∀v,aJ v 32=v%4294967296 from fun _=>rfl]
  simp only [show ∀v,aJ v 32=v%4294967296 from fun _=>rfl]
  omega
 ·rfl
theorem Jo {v:Int} (h:fq (aJ v 32) 32=true):aaY.u64.wrap (aJ v 32 - 4294967296)=fg v 32:=by
 rw [show fg v 32=aaY.u64.wrap (aaY.i32.wrap v) from rfl]
 rw [lU rfl,mK,m9,bX] at h
 rw [show aJ v 32=v%4294967296 from rfl,bZ,bZ,nS]
 omega
theorem Jp {v:Int} (h:fq (aJ v 32) 32=false):aJ v 32=fg v 32:=by
 rw [show fg v 32=aaY.u64.wrap (aaY.i32.wrap v) from rfl]
 rw [lU rfl,mK,m9,cJ] at h
 rw [show aJ v 32=v%4294967296 from rfl,bZ,nS]
 omega
theorem nk {v:Int} (h:aaY.u64.wrap ((Zw 64 ((aJ v 32).fdiv 2147483648)&&&Zw 64 1).toNat:Int)=1):aaY.u64.wrap (aJ v 32 - 4294967296)=fg v 32:=by
 refine Jo ?_
 have e:fq (aJ v 32) 32=(aaY.u64.wrap ((Zw 64 ((aJ v 32).fdiv 2147483648)&&&Zw 64 1).toNat:Int)==1):=rfl
 rw [e,h]
 rfl
theorem nn {v:Int} (h:¬aaY.u64.wrap ((Zw 64 ((aJ v 32).fdiv 2147483648)&&&Zw 64 1).toNat:Int)=1):aJ v 32=fg v 32:=by
 refine Jp ?_
 have e:fq (aJ v 32) 32=(aaY.u64.wrap ((Zw 64 ((aJ v 32).fdiv 2147483648)&&&Zw 64 1).toNat:Int)==1):=rfl
 rw [e]
 exact beq_eq_false_iff_ne.mpr h
end Go.Ev
namespace Go.Proofs.YtbfpahigdpigpaaGreat
open Go Go.Ev
theorem gd (w:Int):aQ Zy 129 ([ak w]) (ax (aP w)):=by
 by_cases h0:w=32
 ·subst h0
  exact (Qo (d:= .bool true) [tF,tF,tT]).to (by simp only [wk,D.bool.injEq,aP];first|rfl|(rw [ZB];simp [];try omega))
 exact (Qo (d:= .bool (w==64)) [tC (eF (aR h0)),tC (eF (aR h0)),tC (aR h0)]).to (by simp only [wk,D.bool.injEq,aP];first|rfl|(rw [ZB];simp [h0];try omega))
theorem uM (v:Int):aQ Zy 89 ([av v,ak 8]) (av (aJ v 8)):=by
 have c0:= @iv 8
 exact (Q7 (d:= .int .u64 (aaY.wrap aaY.u64 (↑(Zz (Zw (64:Nat) v&&&Zw (64:Nat) 255)):Int))) [aw c0,tT,tT,tF,tF,tT]).to (by first|rfl|(simp only [wk,D.int.injEq,ee,QR,show aJ v 8=v%256 from rfl];rw [bZ];omega))
theorem Cg (v:Int):aQ Zy 89 ([av v,ak 16]) (av (aJ v 16)):=by
 have c0:= @iv 16
 exact (Q7 (d:= .int .u64 (aaY.wrap aaY.u64 (↑(Zz (Zw (64:Nat) v&&&Zw (64:Nat) 65535)):Int))) [aw c0,tT,tT,tF,tF,tT]).to (by first|rfl|(simp only [wk,D.int.injEq,ee,PN,show aJ v 16=v%65536 from rfl];rw [bZ];omega))
theorem sy (v:Int):aQ Zy 89 ([av v,ak 32]) (av (aJ v 32)):=by
 have c0:= @iv 32
 exact (Q7 (d:= .int .u64 (aaY.wrap aaY.u64 (↑(Zz (Zw (64:Nat) v&&&Zw (64:Nat) 4294967295)):Int))) [aw c0,tT,tT,tF,tF,tT]).to (by first|rfl|(simp only [wk,D.int.injEq,ee,QS,show aJ v 32=v%4294967296 from rfl];rw [bZ];omega))
theorem Cf (v:Int):aQ Zy 89 ([av v,ak 64]) (av (aJ v 64)):=by
 have c0:= @iv 64
 exact (Q7 (d:= .int .u64 v) [aw c0,tT,tT,tF,tT]).to (by rfl)
theorem wY (v w:Int) (hw:aU w=true):aQ Zy 89 [av v,ak w] (av (aJ v w)):=by
 rcases ff hw with rfl|rfl|rfl|rfl
 ·exact uM v
 ·exact Cg v
 ·exact sy v
 ·exact Cf v
theorem bu (v w:Int) (hw:aP w=true):aQ Zy 89 [av v,ak w] (av (aJ v w)):=
 wY v w (by rcases ej hw with rfl|rfl<;>rfl)
def mo (Tz:Int):Prop:= ∀(w a b:Int) (hw:aP w=true),aQ Zy 93 ([ak Tz,ak w,av a,av b]) (.aL [av (fB Tz w a b),aq 0])
theorem Ac:mo 0:=by
 intro w a b hw
 have c0:= @gd w
 rw [show (aP w)=true from hw] at c0
 have c1:= @bu a w hw
 have c2:= @bu b w hw
 have c3:= @bu (aaY.wrap aaY.u64 (aJ a w+aJ b w)) w hw
 exact (L3 (d:= .aL [av (aJ (aaY.wrap aaY.u64 (aJ a w+aJ b w)) w),aq 0]) [tT,tT,tF,tT,tT,aw c0,tT,tF,tF,aw c1,aw c2,tT,aw c3]).to (by ((simp only [wk,a7,eJ];repeat' (first|rfl|exact ZX|apply ZI));done))
theorem pe:mo 1:=by
 intro w a b hw
 have c0:= @gd w
 rw [show (aP w)=true from hw] at c0
 have c1:= @bu a w hw
 have c2:= @bu b w hw
 have c3:= @bu (aaY.wrap aaY.u64 (aJ a w - aJ b w)) w hw
 exact (L3 (d:= .aL [av (aJ (aaY.wrap aaY.u64 (aJ a w - aJ b w)) w),aq 0]) [tT,tT,tF,tT,tT,aw c0,tT,tF,tF,aw c1,aw c2,tF,tT,aw c3]).to (by ((simp only [wk,a7,eJ];repeat' (first|rfl|exact ZX|apply ZI));done))
theorem JV:mo 2:=by
 intro w a b hw
 have c0:= @gd w
 rw [show (aP w)=true from hw] at c0
 have c1:= @bu a w hw
 have c2:= @bu b w hw
 have c3:= @bu (aaY.wrap aaY.u64 (aJ a w*aJ b w)) w hw
 exact (L3 (d:= .aL [av (aJ (aaY.wrap aaY.u64 (aJ a w*aJ b w)) w),aq 0]) [tT,tT,tF,tT,tT,aw c0,tT,tF,tF,aw c1,aw c2,tF,tF,tT,aw c3]).to (by ((simp only [wk,a7,eJ];repeat' (first|rfl|exact ZX|apply ZI));done))
theorem Ab:mo 4:=by
 intro w a b hw
 have c0:= @gd w
 rw [show (aP w)=true from hw] at c0
 have c1:= @bu a w hw
 have c2:= @bu b w hw
 have c3:= @bu (aaY.wrap aaY.u64 (↑(Zz (Zw (64:Nat) (aJ a w)|||Zw (64:Nat) (aJ b w))):Int)) w hw
 exact (L3 (d:= .aL [av (aJ (aaY.wrap aaY.u64 (↑(Zz (Zw (64:Nat) (aJ a w)|||Zw (64:Nat) (aJ b w))):Int)) w),aq 0]) [tT,tT,tF,tT,tT,aw c0,tT,tF,tF,aw c1,aw c2,tF,tF,tF,tF,tF,tT,aw c3]).to (by ((simp only [wk,a7,eJ];repeat' (first|rfl|exact ZX|apply ZI));done))
theorem pb:mo 5:=by
 intro w a b hw
 have c0:= @gd w
 rw [show (aP w)=true from hw] at c0
 have c1:= @bu a w hw
 have c2:= @bu b w hw
 have c3:= @bu (aaY.wrap aaY.u64 (↑(Zz (Zw (64:Nat) (aJ a w)&&&Zw (64:Nat) (aJ b w))):Int)) w hw
 exact (L3 (d:= .aL [av (aJ (aaY.wrap aaY.u64 (↑(Zz (Zw (64:Nat) (aJ a w)&&&Zw (64:Nat) (aJ b w))):Int)) w),aq 0]) [tT,tT,tF,tT,tT,aw c0,tT,tF,tF,aw c1,aw c2,tF,tF,tF,tF,tF,tF,tT,aw c3]).to (by ((simp only [wk,a7,eJ];repeat' (first|rfl|exact ZX|apply ZI));done))
theorem Aa:mo 6:=by
 intro w a b hw
 have c0:= @gd w
 rw [show (aP w)=true from hw] at c0
 have c1:= @bu a w hw
 have c2:= @bu b w hw
 have c3:= @bu (aaY.wrap aaY.u64 (aJ a w*2^min (ZJ (aaY.wrap aaY.u64 (↑(Zz (Zw (64:Nat) (aJ b w)&&&Zw (64:Nat) (aaY.wrap aaY.u64 (aaY.wrap aaY.i8 (w - 1))))):Int))) (64:Nat))) w hw
 exact (L3 (d:= .aL [av (aJ (aaY.wrap aaY.u64 (aJ a w*2^min (ZJ (aaY.wrap aaY.u64 (↑(Zz (Zw (64:Nat) (aJ b w)&&&Zw (64:Nat) (aaY.wrap aaY.u64 (aaY.wrap aaY.i8 (w - 1))))):Int))) (64:Nat))) w),aq 0]) ([tT,tT,tF,tT,tT,aw c0,tT,tF,tF,aw c1,aw c2]++Zx 8 tF++ [tT,tT,aw c3])).to (by ((simp only [wk,a7,eJ];repeat' (first|rfl|exact ZX|apply ZI));done))
theorem z7:mo 7:=by
 intro w a b hw
 have c0:= @gd w
 rw [show (aP w)=true from hw] at c0
 have c1:= @bu a w hw
 have c2:= @bu b w hw
 have c3:= @bu (aad (aJ a w) (2^min (ZJ (aaY.wrap aaY.u64 (↑(Zz (Zw (64:Nat) (aJ b w)&&&Zw (64:Nat) (aaY.wrap aaY.u64 (aaY.wrap aaY.i8 (w - 1))))):Int))) (64:Nat))) w hw
 exact (L3 (d:= .aL [av (aJ (aad (aJ a w) (2^min (ZJ (aaY.wrap aaY.u64 (↑(Zz (Zw (64:Nat) (aJ b w)&&&Zw (64:Nat) (aaY.wrap aaY.u64 (aaY.wrap aaY.i8 (w - 1))))):Int))) (64:Nat))) w),aq 0]) ([tT,tT,tF,tT,tT,aw c0,tT,tF,tF,aw c1,aw c2]++Zx 9 tF++ [tT,tT,aw c3])).to (by ((simp only [wk,a7,eJ];repeat' (first|rfl|exact ZX|apply ZI));done))
theorem JU:mo 8:=by
 intro w a b hw
 have c0:= @gd w
 rw [show (aP w)=true from hw] at c0
 have c1:= @bu a w hw
 have c2:= @bu b w hw
 have c3:= @bu (aaY.wrap aaY.u64 (0 - aJ a w)) w hw
 exact (L3 (d:= .aL [av (aJ (aaY.wrap aaY.u64 (0 - aJ a w)) w),aq 0]) ([tT,tT,tF,tT,tT,aw c0,tT,tF,tF,aw c1,aw c2]++Zx 11 tF++ [tT,aw c3])).to (by ((simp only [wk,a7,eJ];repeat' (first|rfl|exact ZX|apply ZI));done))
theorem uL:mo 10:=by
 intro w a b hw
 have c0:= @gd w
 rw [show (aP w)=true from hw] at c0
 have c1:= @bu a w hw
 have c2:= @bu b w hw
 have c3:= @bu (aaY.wrap aaY.u64 (↑(Zz (Zw (64:Nat) (aJ a w)^^^Zw (64:Nat) (aJ b w))):Int)) w hw
 exact (L3 (d:= .aL [av (aJ (aaY.wrap aaY.u64 (↑(Zz (Zw (64:Nat) (aJ a w)^^^Zw (64:Nat) (aJ b w))):Int)) w),aq 0]) ([tT,tT,tF,tT,tT,aw c0,tT,tF,tF,aw c1,aw c2]++cr 8 128++ [aw c3])).to (by ((simp only [wk,a7,eJ];repeat' (first|rfl|exact ZX|apply ZI));done))
theorem j2 (v w:Int) (hw:aP w=true):aQ Zy 134 ([av v,ak w]) (ax (fq v w)):=(Ru (d:= .bool (aaY.wrap aaY.u64 (↑(Zz (Zw (64:Nat) (aad v (2^min (ZJ (aaY.wrap aaY.i8 (w - 1))) (64:Nat)))&&&Zw (64:Nat) 1)):Int)==1)) [tC (v:=true) (@Oj w hw)]).to (by ((simp only [wk,a7,eJ];repeat' (first|rfl|exact ZX|apply ZI));done))
theorem mP (w:Int):aQ Zy 132 ([ak w]) (ax (aP w)):=by
 by_cases h0:w=32
 ·subst h0
  exact (Qm (d:= .bool true) [tF,tF,tT]).to (by simp only [wk,D.bool.injEq,aP];rfl)
 exact (Qm (d:= .bool (w==64)) [tC (eF (aR h0)),tC (eF (aR h0)),tC (aR h0)]).to (by simp only [wk,D.bool.injEq,aP];(rw [ZB];simp [h0];try omega))
theorem dW:aQ Zy 96 ([]) (fD false false false false false):=(SJ (d:= .agg [ax false,ax false,ax false,ax false,ax false]) []).to (by ((simp only [wk,a7,eJ];repeat' (first|rfl|exact ZX|apply ZI));done))
theorem mT (w v:Int) (c o:Bool) (hw:aP w=true):aQ Zy 133 ([ak w,av v,ax c,ax o]) (fD true c (aJ v w==0) (fq (aJ v w) w) o):=by
 have c0:= @bu v w hw
 have c1:= @j2 (aJ v w) w hw
 exact (Rv (d:= .agg [ax true,ax c,ax (aJ v w==0),ax (fq (aJ v w) w),ax o]) [aw c0,aw c1]).to (by ((simp only [wk,a7,eJ];repeat' (first|rfl|exact ZX|apply ZI));done))
theorem mS (w v:Int) (hw:aP w=true):aQ Zy 131 ([ak w,av v]) (.aL [fD true false (aJ v w==0) (fL v w) false,aq 0]):=by
 have c0:= @mP w
 rw [show (aP w)=true from hw] at c0
 have c1:= @mT w v false false hw
 exact (Rw (d:= .aL [.agg [ax true,ax false,ax (aJ v w==0),ax (fq (aJ v w) w),ax false],aq 0]) [aw c0,tF,aw c1]).to (by simp only [wk,a7,eJ,fD];rw [lU hw,← pr hw];simp [wk,a7])
theorem EI (w a b:Int) (hw:aP w=true):aQ Zy 130 ([ak w,av a,av b]) (.aL [fD true (yA w a b) (aJ (u64 (a+b)) w==0) (fL (u64 (a+b)) w) (yz w a b),aq 0]):=by
 have c0:= @mP w
 rw [show (aP w)=true from hw] at c0
 have c1:= @bu a w hw
 have c2:= @bu b w hw
 have c3:= @bu (aaY.wrap aaY.u64 (aJ a w+aJ b w)) w hw
 have c4:= @j2 (aJ a w) w hw
 have c5:= @j2 (aJ b w) w hw
 let E1:EL:= [aw c0,tF,aw c1,aw c2,aw c3,aw c4,aw c5]
 rcases cI (fq (aJ a w) w==fq (aJ b w) w) with h6|h6
 ·have c7:= @j2 (aJ (aaY.wrap aaY.u64 (aJ a w+aJ b w)) w) w hw
  have c8:= @j2 (aJ a w) w hw
  have c9:= @mT w (aJ (aaY.wrap aaY.u64 (aJ a w+aJ b w)) w) (decide (aJ (aaY.wrap aaY.u64 (aJ a w+aJ b w)) w<aJ a w)) (!fq (aJ (aaY.wrap aaY.u64 (aJ a w+aJ b w)) w) w==fq (aJ a w) w) hw
  exact (Qn (d:= .aL [.agg [ax true,ax (decide (aJ (aaY.wrap aaY.u64 (aJ a w+aJ b w)) w<aJ a w)),ax (aJ (aJ (aaY.wrap aaY.u64 (aJ a w+aJ b w)) w) w==0),ax (fq (aJ (aJ (aaY.wrap aaY.u64 (aJ a w+aJ b w)) w) w) w),ax !fq (aJ (aaY.wrap aaY.u64 (aJ a w+aJ b w)) w) w==fq (aJ a w) w],aq 0]) (E1++ [tC (eT h6),tC (eT h6),tC (eT h6),aw c7,tC (eT h6),tC (eT h6),tC (eT h6),aw c8,tC (eT h6),tC h6,aw c9])).to (by clear E1;simp only [wk,a7,eJ,ee,fD,D.bool.injEq,yA,Bo hw];have e:aJ (aaY.u64.wrap (aJ a w+aJ b w)) w=aJ (u64 (a+b)) w:=FC hw;simp only [e,mh,lU hw,pr hw] at*;clear e;(try clear c0 c1 c2 c3 c4 c5);(try clear c7);(try clear c8);(try clear c9);generalize fq a w=x at*;generalize fq b w=y at*;generalize fq (u64 (a+b)) w=z at*;cases x<;>cases y<;>cases z<;>simp_all)
 have Tp:= @mT w (aJ (aaY.wrap aaY.u64 (aJ a w+aJ b w)) w) (decide (aJ (aaY.wrap aaY.u64 (aJ a w+aJ b w)) w<aJ a w)) false hw
 exact (Qn (d:= .aL [.agg [ax true,ax (decide (aJ (aaY.wrap aaY.u64 (aJ a w+aJ b w)) w<aJ a w)),ax (aJ (aJ (aaY.wrap aaY.u64 (aJ a w+aJ b w)) w) w==0),ax (fq (aJ (aJ (aaY.wrap aaY.u64 (aJ a w+aJ b w)) w) w) w),ax false],aq 0]) (E1++Zx 7 (tC (eT h6))++ [tC h6,aw Tp])).to (by clear E1;simp only [wk,a7,eJ,ee,fD,D.bool.injEq,yA,Bo hw];have e:aJ (aaY.u64.wrap (aJ a w+aJ b w)) w=aJ (u64 (a+b)) w:=FC hw;simp only [e,mh,lU hw,pr hw] at*;clear e;(try clear c0 c1 c2 c3 c4 c5);(try clear c7);(try clear c8);(try clear c9);generalize fq a w=x at*;generalize fq b w=y at*;generalize fq (u64 (a+b)) w=z at*;cases x<;>cases y<;>cases z<;>simp_all)
theorem oW (w a b:Int) (hw:aP w=true):aQ Zy 95 ([ak w,av a,av b]) (.aL [fD true (rY w a b) (aJ (u64 (a - b)) w==0) (fL (u64 (a - b)) w) (rX w a b),aq 0]):=by
 have c0:= @mP w
 rw [show (aP w)=true from hw] at c0
 have c1:= @bu a w hw
 have c2:= @bu b w hw
 have c3:= @bu (aaY.wrap aaY.u64 (aJ a w - aJ b w)) w hw
 have c4:= @j2 (aJ a w) w hw
 have c5:= @j2 (aJ b w) w hw
 let E1:EL:= [aw c0,tF,aw c1,aw c2,aw c3,aw c4,aw c5]
 rcases cI (fq (aJ a w) w==fq (aJ b w) w) with h6|h6
 ·have c7:= @mT w (aJ (aaY.wrap aaY.u64 (aJ a w - aJ b w)) w) (decide (aJ a w<aJ b w)) false hw
  exact (Sc (d:= .aL [.agg [ax true,ax (decide (aJ a w<aJ b w)),ax (aJ (aJ (aaY.wrap aaY.u64 (aJ a w - aJ b w)) w) w==0),ax (fq (aJ (aJ (aaY.wrap aaY.u64 (aJ a w - aJ b w)) w) w) w),ax false],aq 0]) (E1++Zx 7 (tC (eT (nt h6)))++ [tC (nt h6),aw c7])).to (by clear E1;simp only [wk,a7,eJ,ee,fD,D.bool.injEq,rY,yZ hw];have e:aJ (aaY.u64.wrap (aJ a w - aJ b w)) w=aJ (u64 (a - b)) w:=FB hw;simp only [e,mh,lU hw,pr hw] at*;clear e;(try clear c0 c1 c2 c3 c4 c5);(try clear c7);(try clear c8);(try clear c9);generalize fq a w=x at*;generalize fq b w=y at*;generalize fq (u64 (a - b)) w=z at*;cases x<;>cases y<;>cases z<;>simp_all)
 have c8:= @j2 (aJ (aaY.wrap aaY.u64 (aJ a w - aJ b w)) w) w hw
 have c9:= @j2 (aJ a w) w hw
 have Tp:= @mT w (aJ (aaY.wrap aaY.u64 (aJ a w - aJ b w)) w) (decide (aJ a w<aJ b w)) (!fq (aJ (aaY.wrap aaY.u64 (aJ a w - aJ b w)) w) w==fq (aJ a w) w) hw
 exact (Sc (d:= .aL [.agg [ax true,ax (decide (aJ a w<aJ b w)),ax (aJ (aJ (aaY.wrap aaY.u64 (aJ a w - aJ b w)) w) w==0),ax (fq (aJ (aJ (aaY.wrap aaY.u64 (aJ a w - aJ b w)) w) w) w),ax !fq (aJ (aaY.wrap aaY.u64 (aJ a w - aJ b w)) w) w==fq (aJ a w) w],aq 0]) (E1++Zx 3 (tC (eT (nt h6)))++ [aw c8]++Zx 3 (tC (eT (nt h6)))++ [aw c9,tC (eT (nt h6)),tC (nt h6),aw Tp])).to (by clear E1;simp only [wk,a7,eJ,ee,fD,D.bool.injEq,rY,yZ hw];have e:aJ (aaY.u64.wrap (aJ a w - aJ b w)) w=aJ (u64 (a - b)) w:=FB hw;simp only [e,mh,lU hw,pr hw] at*;clear e;(try clear c0 c1 c2 c3 c4 c5);(try clear c7);(try clear c8);(try clear c9);generalize fq a w=x at*;generalize fq b w=y at*;generalize fq (u64 (a - b)) w=z at*;cases x<;>cases y<;>cases z<;>simp_all)
end Go.Proofs.YtbfpahigdpigpaaGreat
namespace Go.Ev
open Go
def aM (b:List Int) (at_:Nat):Int:=b.getD at_ 0
def aN (b:List Int) (at_:Nat):Nat:=if at_<b.length then at_+1 else at_
def cu (b:List Int) (at_:Nat) (bad:Bool):Bool:=bad||decide (b.length≤at_)
theorem jy {b:List Int} {at_:Nat} (h:at_≤b.length):aN b at_≤b.length:=by unfold aN;split<;>omega
theorem y8 {v:Int} (h:aaY.u64.wrap ((Zw 64 ((aJ v 8).fdiv 128)&&&Zw 64 1).toNat:Int)=1):aaY.u64.wrap (aJ v 8 - 256)=fg v 8:=by
 rw [show fg v 8=aaY.u64.wrap (aaY.i8.wrap v) from rfl]
 rw [NM,bZ,Z9 _ (by decide),show aJ v 8=v%256 from rfl] at h
 rw [show aJ v 8=v%256 from rfl,bZ,bZ,dh]
 omega
theorem y9 {v:Int} (h:¬aaY.u64.wrap ((Zw 64 ((aJ v 8).fdiv 128)&&&Zw 64 1).toNat:Int)=1):aJ v 8=fg v 8:=by
 rw [show fg v 8=aaY.u64.wrap (aaY.i8.wrap v) from rfl]
 rw [NM,bZ,Z9 _ (by decide),show aJ v 8=v%256 from rfl] at h
 rw [show aJ v 8=v%256 from rfl,bZ,dh]
 omega
def eN (b:List Int) (k:Nat):Int:=aaY.i32.wrap (aM b k+256*aM b (aN b k)+65536*aM b (aN b (aN b k))+16777216*aM b (aN b (aN b (aN b k))))
def uo (b:List Int) (k:Nat):Int:=aaY.i8.wrap (aM b k)
def dF (b:List Int) (k:Nat):Nat:=aN b (aN b (aN b (aN b k)))
def dI (b:List Int) (k:Nat) (bad:Bool):Bool:=cu b (aN b (aN b (aN b k))) (cu b (aN b (aN b k)) (cu b (aN b k) (cu b k bad)))
def di (n rr:Int):Int:=aaY.i8.wrap (aaY.i8.wrap (aaY.i64.wrap ((Zw 64 (n.fdiv 8)&&&Zw 64 7).toNat:Int))+aaY.i8.wrap (8*rr))
def dc (n mm:Int):Int:=aaY.i8.wrap (aaY.i8.wrap (aaY.i64.wrap ((Zw 64 n&&&Zw 64 7).toNat:Int))+aaY.i8.wrap (8*mm))
theorem yy (a:Int):((Zw 64 a&&&Zw 64 7).toNat:Int)=a%8:=by have:=and_ones 64 3 (by omega) a;exact this
theorem EH {n rr:Int} (hn:0≤n∧n≤255) (hr:0≤rr∧rr≤1):di n rr=n / 8%8+8*rr:=by
 unfold di
 rw [yy,Z9 _ (by decide),aX,dh,dh,dh]
 omega
theorem EG {n mm:Int} (hn:0≤n∧n≤255) (hr:0≤mm∧mm≤1):dc n mm=n%8+8*mm:=by
 unfold dc
 rw [yy,aX,dh,dh,dh]
 omega
def gq (b:List Int) (k:Nat) (bad:Bool):Bool:=cu b k bad||decide (aM b k<192)
def dZ (b:List Int) (k:Nat):Nat:=if aM b k%8=4 then aN b (aN b k) else aN b k
def j3 (b:List Int) (k:Nat) (bad:Bool):Bool:=
  let b1:=cu b k bad||decide (aM b k<128)||decide (192≤aM b k)
  if aM b k%8=4 then cu b (aN b k) b1||decide (aM b (aN b k)≠36) else b1
def EO (n:Int):Bool:=decide (n / 16%16=4)
def ur (b:List Int) (k:Nat):Nat:=if aM b k=102 then aN b k else k
def xv (b:List Int) (k:Nat) (bad:Bool):Bool:=if aM b k=102 then cu b k bad else bad
def J8 (b:List Int) (k:Nat):Bool:=EO (aM b (ur b k))
def IW (b:List Int) (k:Nat):Int:=if J8 b k then aM b (aN b (ur b k)) else aM b (ur b k)
def ER (b:List Int) (k:Nat):Nat:=if J8 b k then aN b (aN b (ur b k)) else aN b (ur b k)
def MG (b:List Int) (k:Nat) (bad:Bool):Bool:=
  if J8 b k then cu b (aN b (ur b k)) (cu b (ur b k) (xv b k bad)||decide (aM b (ur b k) / 2%2=1)) else cu b (ur b k) (xv b k bad)
def kK (b:List Int) (k:Nat):Bool:=J8 b k&&decide (aM b (ur b k) / 8%2=1)
def J7 (b:List Int) (k:Nat):Int:=if J8 b k then aM b (ur b k) / 4%2 else 0
def J9 (b:List Int) (k:Nat):Int:=if J8 b k then aM b (ur b k)%2 else 0
theorem LI:∀n:Fin 256,(aaY.i64.wrap ((Zw 64 (n.val:Int)&&&Zw 64 240).toNat:Int)=64↔(n.val:Int) / 16%16=4)∧((aaY.i64.wrap ((Zw 64 (n.val:Int)&&&Zw 64 8).toNat:Int) !=0)=decide ((n.val:Int) / 8%2=1))∧((aaY.i64.wrap ((Zw 64 (n.val:Int)&&&Zw 64 2).toNat:Int) !=0)=decide ((n.val:Int) / 2%2=1))∧aaY.i8.wrap (aaY.i64.wrap ((Zw 64 (aad (n.val:Int) 4)&&&Zw 64 1).toNat:Int))=(n.val:Int) / 4%2∧aaY.i8.wrap (aaY.i64.wrap ((Zw 64 (n.val:Int)&&&Zw 64 1).toNat:Int))=(n.val:Int)%2:=by decide+kernel
theorem vy {n:Int} (h:0≤n∧n≤255):(aaY.i64.wrap ((Zw 64 n&&&Zw 64 240).toNat:Int)=64↔n / 16%16=4)∧((aaY.i64.wrap ((Zw 64 n&&&Zw 64 8).toNat:Int) !=0)=decide (n / 8%2=1))∧((aaY.i64.wrap ((Zw 64 n&&&Zw 64 2).toNat:Int) !=0)=decide (n / 2%2=1))∧aaY.i8.wrap (aaY.i64.wrap ((Zw 64 (aad n 4)&&&Zw 64 1).toNat:Int))=n / 4%2∧aaY.i8.wrap (aaY.i64.wrap ((Zw 64 n&&&Zw 64 1).toNat:Int))=n%2:=by
 have:=LI ⟨n.toNat,by omega⟩
 have e:((n.toNat:Nat):Int)=n:=by omega
 simp only [e] at this
 exact this
def yG (op:Int):Int:=if op=0∨(2≤op∧op≤8) then bh op else bO op
def K2 (aa op:Int):Bool:=if aa=129 then decide (bq op=2∧op≠15∧op≠1) else if aa=193 then decide (bq op=3) else if aa=211 then decide (bq op=4∧op≠23∧op≠24) else decide (op=23∨op=24∨op=15)
def md (aa n op:Int):Bool:=K2 aa op&&decide (yG op=n)
def jR (aa n:Int):Int:=(ic.find? (md aa n)).getD (-1)
end Go.Ev
namespace Go.Proofs.YtbfpahigdpigpaaGreat
open Go Go.Ev
theorem so (v:Int):aQ Zy 59 ([av v,ak 8]) (av (fg v 8)):=by
 have c0:= @iv ((8:Int))
 have c1:= @uM (v)
 by_cases h2:aaY.wrap aaY.u64 (↑(Zz (Zw (64:Nat) (aad (aJ v (8:Int)) (128:Int))&&&Zw (64:Nat) (1:Int))):Int)=1
 ·exact (aQ.aj (d:= .int .u64 (aaY.wrap aaY.u64 (aJ v (8:Int) - (256:Int)))) mixed Tryz.func59 (by kernel_rfl) [aw c0,tF,aw c1,tT,tC (eT (cD 1 true h2)),tC (eT (cD 1 true h2)),tC (cD 1 true h2),tT,tT]).to (by simp only [wk,D.int.injEq,ee];first|exact y8 h2|exact y9 h2)
 ·exact (aQ.aj (d:= .int .u64 (aJ v (8:Int))) mixed Tryz.func59 (by kernel_rfl) [aw c0,tF,aw c1,tT,tC (eT (aR h2)),tC (eT (aR h2)),tC (aR h2),tF]).to (by simp only [wk,D.int.injEq,ee];first|exact y8 h2|exact y9 h2)
theorem kQ (v:Int):aQ Zy 59 ([av v,ak 32]) (av (fg v 32)):=by
 have c0:= @iv ((32:Int))
 have c1:= @sy (v)
 by_cases h2:aaY.wrap aaY.u64 (↑(Zz (Zw (64:Nat) (aad (aJ v (32:Int)) (2147483648:Int))&&&Zw (64:Nat) (1:Int))):Int)=1
 ·exact (aQ.aj (d:= .int .u64 (aaY.wrap aaY.u64 (aJ v (32:Int) - (4294967296:Int)))) mixed Tryz.func59 (by kernel_rfl) [aw c0,tF,aw c1,tT,tC (eT (cD 1 true h2)),tC (eT (cD 1 true h2)),tC (cD 1 true h2),tT,tT]).to (by simp only [wk,D.int.injEq,ee];first|exact nk h2|exact nn h2)
 ·exact (aQ.aj (d:= .int .u64 (aJ v (32:Int))) mixed Tryz.func59 (by kernel_rfl) [aw c0,tF,aw c1,tT,tC (eT (aR h2)),tC (eT (aR h2)),tC (aR h2),tF]).to (by simp only [wk,D.int.injEq,ee];first|exact nk h2|exact nn h2)
theorem zg (v:Int):aQ Zy 59 ([av v,ak 64]) (av (fg v 64)):=by
 have c0:= @iv 64
 have c1:= @bu v 64 (rfl:true=true)
 by_cases h2:aaY.wrap aaY.u64 (↑(Zz (Zw (64:Nat) (aad (aJ v 64) 9223372036854775808)&&&Zw (64:Nat) 1)):Int)=1
 ·exact (Si (d:= .int .u64 (aJ v 64)) [aw c0,tF,aw c1,tT,tC (eT (cD 1 true h2)),tC (eT (cD 1 true h2)),tC (cD 1 true h2),tF]).to (by simp only [wk,D.int.injEq,ee];first|rfl|exact nk h2|exact nn h2)
 exact (Si (d:= .int .u64 (aJ v 64)) [aw c0,tF,aw c1,tT,tC (eT (aR h2)),tC (eT (aR h2)),tC (aR h2),tF]).to (by simp only [wk,D.int.injEq,ee];first|rfl|exact nk h2|exact nn h2)
def ln (Tz:Int):Prop:= ∀(c z s o:Bool),aQ Zy 97 ([ak Tz,fD true c z s o]) (.aL [ax (eC Tz c z s o),aq 0])
theorem zp:ln 2:=by
 intro c z s o
 exact (rf (d:= .aL [ax !c==false,aq 0]) [aO,tT,tT,tF,tF,tT]).to (by (try cases c)<;>(try cases z)<;>(try cases s)<;>(try cases o)<;>first|(simp [wk,a7,eC];done)|rfl|exact ⟨rfl,rfl,trivial⟩)
def lj (Tz:Int):Prop:= ∀(c z s o:Bool),aQ Zy 97 ([ak Tz,fD false c z s o]) (.aL [ax false,aq 20])
theorem wC:lj 2:=by
 intro c z s o
 exact (rf (d:= .aL [ax false,aq 20]) [aO,tT,tT,tF,tT]).to (by simp [wk,a7])
theorem zo:ln 3:=by
 intro c z s o
 exact (rf (d:= .aL [ax !c==true,aq 0]) [aO,tF,tT,tT,tF,tF,tT]).to (by (try cases c)<;>(try cases z)<;>(try cases s)<;>(try cases o)<;>first|(simp [wk,a7,eC];done)|rfl|exact ⟨rfl,rfl,trivial⟩)
theorem wB:lj 3:=by
 intro c z s o
 exact (rf (d:= .aL [ax false,aq 20]) [aO,tF,tT,tT,tF,tT]).to (by simp [wk,a7])
theorem zn:ln 4:=by
 intro c z s o
 exact (rf (d:= .aL [ax !z==false,aq 0]) ([aO]++cr 8 140)).to (by (try cases c)<;>(try cases z)<;>(try cases s)<;>(try cases o)<;>first|(simp [wk,a7,eC];done)|rfl|exact ⟨rfl,rfl,trivial⟩)
theorem wA:lj 4:=by
 intro c z s o
 exact (rf (d:= .aL [ax false,aq 20]) [aO,tF,tF,tT,tT,tF,tT]).to (by simp [wk,a7])
theorem zm:ln 5:=by
 intro c z s o
 exact (rf (d:= .aL [ax !z==true,aq 0]) ([aO]++cr 9 280)).to (by (try cases c)<;>(try cases z)<;>(try cases s)<;>(try cases o)<;>first|(simp [wk,a7,eC];done)|rfl|exact ⟨rfl,rfl,trivial⟩)
theorem wz:lj 5:=by
 intro c z s o
 exact (rf (d:= .aL [ax false,aq 20]) [aO,tF,tF,tF,tT,tT,tF,tT]).to (by simp [wk,a7])
theorem zl:ln 6:=by
 intro c z s o
 cases c
 ·exact (rf (d:= .aL [ax !z==false,aq 0]) ([aO]++cr 14 7216)).to (by (try cases c)<;>(try cases z)<;>(try cases s)<;>(try cases o)<;>first|(simp [wk,a7,eC];done)|rfl|exact ⟨rfl,rfl,trivial⟩)
 exact (rf (d:= .aL [ax true,aq 0]) ([aO]++cr 14 9264)).to (by (try cases c)<;>(try cases z)<;>(try cases s)<;>(try cases o)<;>first|(simp [wk,a7,eC];done)|rfl|exact ⟨rfl,rfl,trivial⟩)
theorem wy:lj 6:=by
 intro c z s o
 exact (rf (d:= .aL [ax false,aq 20]) ([aO]++cr 8 176)).to (by simp [wk,a7])
theorem zk:ln 7:=by
 intro c z s o
 cases c
 ·exact (rf (d:= .aL [ax !z==true,aq 0]) ([aO]++cr 15 14432)).to (by (try cases c)<;>(try cases z)<;>(try cases s)<;>(try cases o)<;>first|(simp [wk,a7,eC];done)|rfl|exact ⟨rfl,rfl,trivial⟩)
 exact (rf (d:= .aL [ax false,aq 0]) ([aO]++cr 15 18528)).to (by (try cases c)<;>(try cases z)<;>(try cases s)<;>(try cases o)<;>first|(simp [wk,a7,eC];done)|rfl|exact ⟨rfl,rfl,trivial⟩)
theorem wx:lj 7:=by
 intro c z s o
 exact (rf (d:= .aL [ax false,aq 20]) ([aO]++cr 9 352)).to (by simp [wk,a7])
theorem wH:ln 12:=by
 intro c z s o
 exact (rf (d:= .aL [ax !(!s==o)==false,aq 0]) ([aO]++cr 14 8384)).to (by (try cases c)<;>(try cases z)<;>(try cases s)<;>(try cases o)<;>first|(simp [wk,a7,eC];done)|rfl|exact ⟨rfl,rfl,trivial⟩)
theorem ui:lj 12:=by
 intro c z s o
 exact (rf (d:= .aL [ax false,aq 20]) ([aO]++cr 10 704)).to (by simp [wk,a7])
theorem wG:ln 13:=by
 intro c z s o
 exact (rf (d:= .aL [ax !(!s==o)==true,aq 0]) ([aO]++cr 15 16768)).to (by (try cases c)<;>(try cases z)<;>(try cases s)<;>(try cases o)<;>first|(simp [wk,a7,eC];done)|rfl|exact ⟨rfl,rfl,trivial⟩)
theorem uh:lj 13:=by
 intro c z s o
 exact (rf (d:= .aL [ax false,aq 20]) ([aO]++cr 11 1408)).to (by simp [wk,a7])
theorem wF:ln 14:=by
 intro c z s o
 cases z
 ·exact (rf (d:= .aL [ax !(!s==o)==false,aq 0]) ([aO]++Zx 8 tF++(cr 14 7939))).to (by (try cases c)<;>(try cases z)<;>(try cases s)<;>(try cases o)<;>first|(simp [wk,a7,eC];done)|rfl|exact ⟨rfl,rfl,trivial⟩)
 exact (rf (d:= .aL [ax true,aq 0]) ([aO]++Zx 8 tF++ [tT,tT]++Zx 11 tF++ [tT])).to (by (try cases c)<;>(try cases z)<;>(try cases s)<;>(try cases o)<;>first|(simp [wk,a7,eC];done)|rfl|exact ⟨rfl,rfl,trivial⟩)
theorem ug:lj 14:=by
 intro c z s o
 exact (rf (d:= .aL [ax false,aq 20]) ([aO]++Zx 8 tF++ [tT,tT,tF,tT])).to (by simp [wk,a7])
theorem wE:ln 15:=by
 intro c z s o
 cases z
 ·exact (rf (d:= .aL [ax !(!s==o)==true,aq 0]) ([aO]++Zx 9 tF++(cr 13 3969))).to (by (try cases c)<;>(try cases z)<;>(try cases s)<;>(try cases o)<;>first|(simp [wk,a7,eC];done)|rfl|exact ⟨rfl,rfl,trivial⟩)
 exact (rf (d:= .aL [ax false,aq 0]) ([aO]++Zx 9 tF++ [tT]++Zx 11 tF++ [tT])).to (by (try cases c)<;>(try cases z)<;>(try cases s)<;>(try cases o)<;>first|(simp [wk,a7,eC];done)|rfl|exact ⟨rfl,rfl,trivial⟩)
theorem uf:lj 15:=by
 intro c z s o
 exact (rf (d:= .aL [ax false,aq 20]) ([aO]++Zx 9 tF++ [tT,tF,tT])).to (by simp [wk,a7])
theorem BJ (v w:Int) (hw:aP w=true):aQ Zy 59 [av v,ak w] (av (fg v w)):=by
 rcases ej hw with rfl|rfl
 ·exact kQ v
 ·exact zg v
theorem vu {cc:Int} (h:cT cc=true):cc=2∨cc=3∨cc=4∨cc=5∨cc=6∨cc=7∨cc=12∨cc=13∨cc=14∨cc=15:=by
 simp only [cT,bX] at h;omega
theorem qs (cc:Int) (c z s o:Bool) (h:cT cc=true):aQ Zy 97 [ak cc,fD true c z s o] (.aL [ax (eC cc c z s o),aq 0]):=by
 rcases vu h with rfl|rfl|rfl|rfl|rfl|rfl|rfl|rfl|rfl|rfl
 ·exact zp c z s o
 ·exact zo c z s o
 ·exact zn c z s o
 ·exact zm c z s o
 ·exact zl c z s o
 ·exact zk c z s o
 ·exact wH c z s o
 ·exact wG c z s o
 ·exact wF c z s o
 ·exact wE c z s o
theorem qt (cc:Int) (c z s o:Bool) (h:cT cc=true):aQ Zy 97 [ak cc,fD false c z s o] (.aL [ax false,aq 20]):=by
 rcases vu h with rfl|rfl|rfl|rfl|rfl|rfl|rfl|rfl|rfl|rfl
 ·exact wC c z s o
 ·exact wB c z s o
 ·exact wA c z s o
 ·exact wz c z s o
 ·exact wy c z s o
 ·exact wx c z s o
 ·exact ui c z s o
 ·exact uh c z s o
 ·exact ug c z s o
 ·exact uf c z s o
theorem dH (r m:Int) (r0:0≤r) (r1:r≤15) (m0:0≤m) (m1:m≤15) (wide al:Bool) (hn:bW wide r m al=true):aQ Zy 67 ([ax wide,ak r,ak m,ax al]) (.bc .tight 1 [ay (da wide r m)]):=by
 cases wide
 ·rcases cI (decide (r<8)) with h0|h0
  ·rcases cI (decide (m<8)) with h1|h1
   ·cases al
    ·exact (yH (d:= .bc .tight 0 []) [tF,tC (dj 7 h0),tC (dj 7 h1),tT,tT,tT,tT]).to (by (simp only [wk,a7,cH,D.int.injEq,D.bc.injEq,Z6,ee,eJ,bw,aX,da,true_or];(try simp only [bX,cJ,bW,ZV,aaj] at*);first|omega|(simp;omega)|(exfalso;simp at*;omega)))
    exact (yH (d:= .bc .tight 1 [ay 64]) [tF,tC (dj 7 h0),tC (dj 7 h1),tT,tT,tT,tF]).to (by (simp only [wk,a7,cH,D.int.injEq,D.bc.injEq,Z6,ee,eJ,bw,aX,da,true_or];(try simp only [bX,cJ,bW,ZV,aaj] at*);first|omega|(simp;omega)|(exfalso;simp at*;omega)))
   exact (yH (d:= .bc .tight 1 [ay 65]) [tF,tC (dj 7 h0),tC (dj 7 h1),tF,tF,tF,tF]).to (by (simp only [wk,a7,cH,D.int.injEq,D.bc.injEq,Z6,ee,eJ,bw,aX,da,true_or];(try simp only [bX,cJ,bW,ZV,aaj] at*);first|omega|(simp;omega)|(exfalso;simp at*;omega)))
  rcases cI (decide (m<8)) with h2|h2
  ·exact (yH (d:= .bc .tight 1 [ay 68]) [tF,tC (dj 7 h0),tC (dj 7 h2),tF,tF,tF,tF]).to (by (simp only [wk,a7,cH,D.int.injEq,D.bc.injEq,Z6,ee,eJ,bw,aX,da,true_or];(try simp only [bX,cJ,bW,ZV,aaj] at*);first|omega|(simp;omega)|(exfalso;simp at*;omega)))
  exact (yH (d:= .bc .tight 1 [ay 69]) [tF,tC (dj 7 h0),tC (dj 7 h2),tF,tF,tF,tF]).to (by (simp only [wk,a7,cH,D.int.injEq,D.bc.injEq,Z6,ee,eJ,bw,aX,da,true_or];(try simp only [bX,cJ,bW,ZV,aaj] at*);first|omega|(simp;omega)|(exfalso;simp at*;omega)))
 rcases cI (decide (r<8)) with h3|h3
 ·rcases cI (decide (m<8)) with h4|h4
  ·exact (yH (d:= .bc .tight 1 [ay 72]) [tT,tC (dj 7 h3),tC (dj 7 h4),tF,tF,tF,tF]).to (by (simp only [wk,a7,cH,D.int.injEq,D.bc.injEq,Z6,ee,eJ,bw,aX,da,true_or];(try simp only [bX,cJ,bW,ZV,aaj] at*);first|omega|(simp;omega)|(exfalso;simp at*;omega)))
  exact (yH (d:= .bc .tight 1 [ay 73]) [tT,tC (dj 7 h3),tC (dj 7 h4),tF,tF,tF,tF]).to (by (simp only [wk,a7,cH,D.int.injEq,D.bc.injEq,Z6,ee,eJ,bw,aX,da,true_or];(try simp only [bX,cJ,bW,ZV,aaj] at*);first|omega|(simp;omega)|(exfalso;simp at*;omega)))
 rcases cI (decide (m<8)) with h5|h5
 ·exact (yH (d:= .bc .tight 1 [ay 76]) [tT,tC (dj 7 h3),tC (dj 7 h5),tF,tF,tF,tF]).to (by (simp only [wk,a7,cH,D.int.injEq,D.bc.injEq,Z6,ee,eJ,bw,aX,da,true_or];(try simp only [bX,cJ,bW,ZV,aaj] at*);first|omega|(simp;omega)|(exfalso;simp at*;omega)))
 exact (yH (d:= .bc .tight 1 [ay 77]) [tT,tC (dj 7 h3),tC (dj 7 h5),tF,tF,tF,tF]).to (by (simp only [wk,a7,cH,D.int.injEq,D.bc.injEq,Z6,ee,eJ,bw,aX,da,true_or];(try simp only [bX,cJ,bW,ZV,aaj] at*);first|omega|(simp;omega)|(exfalso;simp at*;omega)))
theorem cZ (r m:Int) (r0:0≤r) (r1:r≤15) (m0:0≤m) (m1:m≤15) (wide al:Bool) (hn:bW wide r m al=false):aQ Zy 67 ([ax wide,ak r,ak m,ax al]) (.bc .tight 1 []):=by
 cases wide
 ·rcases cI (decide (r<8)) with h0|h0
  ·rcases cI (decide (m<8)) with h1|h1
   ·cases al
    ·exact (yH (d:= .bc .tight 0 []) [tF,tC (dj 7 h0),tC (dj 7 h1),tT,tT,tT,tT]).to (by (simp [wk,a7,cH];done))
    exact (yH (d:= .bc .tight 1 [ay 64]) [tF,tC (dj 7 h0),tC (dj 7 h1),tT,tT,tT,tF]).to (by (exfalso;simp [bW] at*;done))
   exact (yH (d:= .bc .tight 1 [ay 65]) [tF,tC (dj 7 h0),tC (dj 7 h1),tF,tF,tF,tF]).to (by (simp only [wk,a7,cH,D.int.injEq,D.bc.injEq,Z6,ee,eJ,bw,aX,da,true_or];(try simp only [bX,cJ,bW,ZV,aaj] at*);first|omega|(simp;omega)|(exfalso;simp at*;omega)))
  rcases cI (decide (m<8)) with h2|h2
  ·exact (yH (d:= .bc .tight 1 [ay 68]) [tF,tC (dj 7 h0),tC (dj 7 h2),tF,tF,tF,tF]).to (by (simp only [wk,a7,cH,D.int.injEq,D.bc.injEq,Z6,ee,eJ,bw,aX,da,true_or];(try simp only [bX,cJ,bW,ZV,aaj] at*);first|omega|(simp;omega)|(exfalso;simp at*;omega)))
  exact (yH (d:= .bc .tight 1 [ay 69]) [tF,tC (dj 7 h0),tC (dj 7 h2),tF,tF,tF,tF]).to (by (simp only [wk,a7,cH,D.int.injEq,D.bc.injEq,Z6,ee,eJ,bw,aX,da,true_or];(try simp only [bX,cJ,bW,ZV,aaj] at*);first|omega|(simp;omega)|(exfalso;simp at*;omega)))
 rcases cI (decide (r<8)) with h3|h3
 ·rcases cI (decide (m<8)) with h4|h4
  ·exact (yH (d:= .bc .tight 1 [ay 72]) [tT,tC (dj 7 h3),tC (dj 7 h4),tF,tF,tF,tF]).to (by (exfalso;simp [bW] at*;done))
  exact (yH (d:= .bc .tight 1 [ay 73]) [tT,tC (dj 7 h3),tC (dj 7 h4),tF,tF,tF,tF]).to (by (simp only [wk,a7,cH,D.int.injEq,D.bc.injEq,Z6,ee,eJ,bw,aX,da,true_or];(try simp only [bX,cJ,bW,ZV,aaj] at*);first|omega|(simp;omega)|(exfalso;simp at*;omega)))
 rcases cI (decide (m<8)) with h5|h5
 ·exact (yH (d:= .bc .tight 1 [ay 76]) [tT,tC (dj 7 h3),tC (dj 7 h5),tF,tF,tF,tF]).to (by (simp only [wk,a7,cH,D.int.injEq,D.bc.injEq,Z6,ee,eJ,bw,aX,da,true_or];(try simp only [bX,cJ,bW,ZV,aaj] at*);first|omega|(simp;omega)|(exfalso;simp at*;omega)))
 exact (yH (d:= .bc .tight 1 [ay 77]) [tT,tC (dj 7 h3),tC (dj 7 h5),tF,tF,tF,tF]).to (by (simp only [wk,a7,cH,D.int.injEq,D.bc.injEq,Z6,ee,eJ,bw,aX,da,true_or];(try simp only [bX,cJ,bW,ZV,aaj] at*);first|omega|(simp;omega)|(exfalso;simp at*;omega)))
theorem gV (r b af:Int) (r0:0≤r) (r1:r≤15) (m0:0≤b) (m1:b≤15) (h0: -2147483648≤af) (h1:af≤2147483647) (hb:decide (b%8=4)=true):aQ Zy 70 ([ak r,ak b,aq af]) (bj 1 [ay (128+8*(r%8)+b%8),ay 36,ay (af%256),ay (af / 256%256),ay (af / 65536%256),ay (af / 16777216%256)]):=by
 have c0:= @dY af
 exact (Sd (d:= .bc (.fresh 1) 1 [ay (aaY.wrap aaY.u8 (aaY.i64.wrap (aaY.i64.wrap (128+aaY.i64.wrap (8*aaY.i64.wrap (aaY.wrap aaY.i8 (↑(Zz (Zw (8:Nat) r&&&Zw (8:Nat) 7)):Int))))+aaY.i64.wrap (aaY.wrap aaY.i8 (↑(Zz (Zw (8:Nat) b&&&Zw (8:Nat) 7)):Int))))),ay 36,ay (af%256),ay (af / 256%256),ay (af / 65536%256),ay (af / 16777216%256)]) [tC (cD 4 true (eq_of_beq (@NT b hb))),bN 2,aw c0,bN 6]).to (by simp only [wk,a7,cH,D.int.injEq,D.bc.injEq,Z6,ee,eJ,gG,bw,dh,aX,bZ,true_or];(simp;omega))
theorem gR (r b af:Int) (r0:0≤r) (r1:r≤15) (m0:0≤b) (m1:b≤15) (h0: -2147483648≤af) (h1:af≤2147483647) (hb:decide (b%8=4)=false):aQ Zy 70 ([ak r,ak b,aq af]) (bj 1 [ay (128+8*(r%8)+b%8),ay (af%256),ay (af / 256%256),ay (af / 65536%256),ay (af / 16777216%256)]):=by
 have c0:= @dY af
 exact (Sd (d:= .bc (.fresh 1) 1 [ay (aaY.wrap aaY.u8 (aaY.i64.wrap (aaY.i64.wrap (128+aaY.i64.wrap (8*aaY.i64.wrap (aaY.wrap aaY.i8 (↑(Zz (Zw (8:Nat) r&&&Zw (8:Nat) 7)):Int))))+aaY.i64.wrap (aaY.wrap aaY.i8 (↑(Zz (Zw (8:Nat) b&&&Zw (8:Nat) 7)):Int))))),ay (af%256),ay (af / 256%256),ay (af / 65536%256),ay (af / 16777216%256)]) [tC (@NU b hb),aw c0,bN 5]).to (by simp only [wk,a7,cH,D.int.injEq,D.bc.injEq,Z6,ee,eJ,gG,bw,dh,aX,bZ,true_or];(simp;omega))
end Go.Proofs.YtbfpahigdpigpaaGreat
