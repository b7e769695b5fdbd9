import Derived.Test.YtbfpahigdpigpaaGreatS06
import Derived.Test.YtbfpahigdpigpaaGreatS12
import Derived.Test.YtbfpahigdpigpaaGreatS17
import Derived.Test.YtbfpahigdpigpaaGreatS19
import Derived.Test.YtbfpahigdpigpaaGreatS20
open List renaming replicate→Xg,length→Xj,length_append→Xu,length_cons→Xx,length_nil→XE,nil_append→XJ,drop→Ya,take_of_length_le→Yy,take→Yz
open Go.Proofs.Tryz renaming prog→Xh
open Int renaming toNat→Xi,not_lt→Xk,lt_add_one_of_le→Xl,toNat_natCast→YC
open Bool renaming or_false→YF
open Go renaming IntKind→YO
/- Contracts and plain laws that a statement's proof leans on (texts merged:XR2f,XRB,XRBy,XQ9A,MdRg,MdEs,ESH,ES1,ES1A,ES2,ES3). -/
set_option linter.unusedVariables false
set_option linter.unusedSimpArgs false
set_option maxRecDepth 100000
set_option maxHeartbeats 8000000
namespace Go.Proofs.YtbfpahigdpigpaaGreat
open Go Go.Ev
def qz (Q3:Int):Prop:= ∀(w ab ae aa af aq cc:Int) (d0:0≤ab) (d1:ab≤15) (s0:0≤ae) (s1:ae≤15) (b0:0≤aa) (b1:aa≤15) (p0: -2147483648≤af) (p1:af≤2147483647) (i0: -2147483648≤aq) (i1:aq≤2147483647) (c0:0≤cc) (c1:cc≤15) (hm:a8 Q3 w ab ae aa af aq cc=true),aY Xh 42 ([xD Q3 w ab ae aa af aq cc]) (.aQ [aZ 1 (bD (aN Q3 w ab ae aa af aq cc)),ao 0])
theorem vB:qz 28:=by
 intro w ab ae aa af aq cc d0 d1 s0 s1 b0 b1 p0 p1 i0 i1 c0 c1 hm
 have c0:= @Proofs.YtbfpahigdpigpaaGreat.cG 28 w ab ae aa af aq cc
 rw [show (a8 28 w ab ae aa af aq cc)=true from hm] at c0
 have c1:= @Proofs.YtbfpahigdpigpaaGreat.aR 28
 have c2:= @Proofs.YtbfpahigdpigpaaGreat.aR 28
 have c3:= @Proofs.YtbfpahigdpigpaaGreat.aR 28
 have c4:= @Proofs.YtbfpahigdpigpaaGreat.aR 28
 let E1:EL:=([aw c0,tF,aW]++Xg 24 tF++ [aw c1,tF,tF,aw c2,tF,aw c3,tF,aw c4,tF,tF,tF,tF,aW,tT,tT,tT,tT])
 by_cases h5:w=8
 ·subst h5
  exact (gh (d:=D.aQ [D.bc kp.tight 1 [D.int YO.u8 235,D.int YO.u8 (YO.wrap YO.u8 aq)],D.int YO.i64 0]) (E1++ [tT])).to (by clear E1;((try simp only [gp]);subst_vars;(try simp only [aX] at*);(try simp only [ck] at h);(try simp only [bP,cq] at*);simp_all [aI,cT,aN,show aF 28=9 from rfl,bD,bw,bI,bf,bF,aU,dJ];done))
 have c6:= @Proofs.YtbfpahigdpigpaaGreat.dV aq
 exact (gh (d:=D.aQ [D.bc (kp.fresh (1:Nat)) (1:Nat) [D.int YO.u8 233,D.int YO.u8 (aq%256),D.int YO.u8 (aq / 256%256),D.int YO.u8 (aq / 65536%256),D.int YO.u8 (aq / 16777216%256)],D.int YO.i64 0]) (E1++ [tC (aH h5),tT,aw c6,bQ 5])).to (by clear E1;((try simp only [gp]);subst_vars;(try simp only [aX] at*);(try simp only [ck] at h);(try simp only [bP,cq] at*);simp_all [aI,cT,aN,show aF 28=9 from rfl,bD,bw,bI,bf,bF,aU,dJ];done))
theorem vA:qz 29:=by
 intro w ab ae aa af aq cc d0 d1 s0 s1 b0 b1 p0 p1 i0 i1 c0 c1 hm
 have c0:= @Proofs.YtbfpahigdpigpaaGreat.cG 29 w ab ae aa af aq cc
 rw [show (a8 29 w ab ae aa af aq cc)=true from hm] at c0
 have c1:= @Proofs.YtbfpahigdpigpaaGreat.aR 29
 have c2:= @Proofs.YtbfpahigdpigpaaGreat.aR 29
 have c3:= @Proofs.YtbfpahigdpigpaaGreat.aR 29
 have c4:= @Proofs.YtbfpahigdpigpaaGreat.aR 29
 let E1:EL:=([aw c0,tF,aW]++Xg 24 tF++([aw c1,tF,tF,aw c2,tF,aw c3,tF,aw c4,tF,tF,tF,tF,aW]++bK 10 960))
 by_cases h5:w=8
 ·subst h5
  exact (gh (d:=D.aQ [D.bc kp.tight 1 [D.int YO.u8 (YO.wrap YO.u8 (YO.i64.wrap (112+YO.wrap YO.i64 cc))),D.int YO.u8 (YO.wrap YO.u8 aq)],D.int YO.i64 0]) (E1++ [tT])).to (by clear E1;((try simp only [gp]);subst_vars;(try simp only [aX] at*);(try simp only [ck] at h);(try simp only [bP,cq] at*);simp_all [aI,cT,aN,show aF 29=10 from rfl,bD,bw,bI,bf,bF,aU,dJ];omega))
 have c6:= @Proofs.YtbfpahigdpigpaaGreat.dV aq
 exact (gh (d:=D.aQ [D.bc (kp.fresh (1:Nat)) (1:Nat) [D.int YO.u8 15,D.int YO.u8 (YO.wrap YO.u8 (YO.i64.wrap (128+YO.wrap YO.i64 cc))),D.int YO.u8 (aq%256),D.int YO.u8 (aq / 256%256),D.int YO.u8 (aq / 65536%256),D.int YO.u8 (aq / 16777216%256)],D.int YO.i64 0]) (E1++ [tC (aH h5),tT,aw c6,bQ 6])).to (by clear E1;((try simp only [gp]);subst_vars;(try simp only [aX] at*);(try simp only [ck] at h);(try simp only [bP,cq] at*);simp_all [aI,cT,aN,show aF 29=10 from rfl,bD,bw,bI,bf,bF,aU,dJ];omega))
theorem vz:qz 30:=by
 intro w ab ae aa af aq cc d0 d1 s0 s1 b0 b1 p0 p1 i0 i1 c0 c1 hm
 have c0:= @Proofs.YtbfpahigdpigpaaGreat.cG 30 w ab ae aa af aq cc
 rw [show (a8 30 w ab ae aa af aq cc)=true from hm] at c0
 have c1:= @Proofs.YtbfpahigdpigpaaGreat.aR 30
 have c2:= @Proofs.YtbfpahigdpigpaaGreat.aR 30
 have c3:= @Proofs.YtbfpahigdpigpaaGreat.aR 30
 have c4:= @Proofs.YtbfpahigdpigpaaGreat.aR 30
 exact (gh (d:=D.aQ [D.bc kp.tight 1 [D.int YO.u8 195],D.int YO.i64 0]) ([aw c0,tF,aW]++Xg 24 tF++ [aw c1,tF,tF,aw c2,tF,aw c3,tF,aw c4,tF,tF,tF,tF,aW]++Xg 12 tF++ [tT])).to (by ((try simp only [gp]);subst_vars;(try simp only [aX] at*);(try simp only [ck] at h);(try simp only [bP,cq] at*);simp_all [aI,cT,aN,show aF 30=11 from rfl,bD,bw,bI,bf,bF,aU,dJ];done))
theorem vy:qz 31:=by
 intro w ab ae aa af aq cc d0 d1 s0 s1 b0 b1 p0 p1 i0 i1 c0 c1 hm
 have c0:= @Proofs.YtbfpahigdpigpaaGreat.cG 31 w ab ae aa af aq cc
 rw [show (a8 31 w ab ae aa af aq cc)=true from hm] at c0
 have c1:= @Proofs.YtbfpahigdpigpaaGreat.aR 31
 have c2:= @Proofs.YtbfpahigdpigpaaGreat.aR 31
 have c3:= @Proofs.YtbfpahigdpigpaaGreat.aR 31
 have c4:= @Proofs.YtbfpahigdpigpaaGreat.aR 31
 exact (gh (d:=D.aQ [D.bc kp.tight 1 [D.int YO.u8 15,D.int YO.u8 5],D.int YO.i64 0]) ([aw c0,tF,aW]++Xg 24 tF++ [aw c1,tF,tF,aw c2,tF,aw c3,tF,aw c4,tF,tF,tF,tF,aW]++Xg 13 tF)).to (by ((try simp only [gp]);subst_vars;(try simp only [aX] at*);(try simp only [ck] at h);(try simp only [bP,cq] at*);simp_all [aI,cT,aN,show aF 31=11 from rfl,bD,bw,bI,bf,bF,aU,dJ];done))
theorem vx (op w ab ae aa af aq cc:Int) (ho:op≤127) (hm:a8 op w ab ae aa af aq cc=false):aY Xh 42 ([xD op w ab ae aa af aq cc]) (.aQ [aZ 1 [],ao 2]):=by
 have c0:= @Proofs.YtbfpahigdpigpaaGreat.cG op w ab ae aa af aq cc
 rw [show (a8 op w ab ae aa af aq cc)=false from hm] at c0
 exact (gh (d:=D.aQ [D.bc kp.tight 0 [],D.int YO.i64 2]) [aw c0,tT]).to (by simp [aI,cT])
theorem Oh {w ab ae aa af aq cc:Int} (h:a8 1 w ab ae aa af aq cc=true):w=32∨w=64:=by
 have hs:=(ef h).2
 rw [show aF 1=3 from rfl] at hs
 exact jo (by simp [br] at hs;exact hs.1)
theorem sP (op w ab ae aa af aq cc:Int) (hm:a8 op w ab ae aa af aq cc=true):
  aY Xh 42 [xD op w ab ae aa af aq cc] (.aQ [aZ 1 (bD (aN op w ab ae aa af aq cc)),ao 0]):=by
 obtain ⟨⟨d0,d1,s0,s1,b0,b1,p0,p1,i0,i1⟩,hs⟩:=ef hm
 obtain ⟨c0,c1⟩:=CN hs
 rcases iG (CL hm) with rfl|rfl|rfl|rfl|rfl|rfl|rfl|rfl|rfl|rfl|rfl|rfl|rfl|rfl|rfl|rfl|rfl|rfl|rfl|rfl|rfl|rfl|rfl|rfl|rfl|rfl|rfl|rfl|rfl|rfl|rfl|rfl
 ·exact yi _ _ _ _ _ _ _ d0 d1 s0 s1 b0 b1 p0 p1 i0 i1 c0 c1 hm
 ·exact yh _ _ _ _ _ _ _ d0 d1 s0 s1 b0 b1 p0 p1 i0 i1 c0 c1 (Oh hm) hm
 ·exact yg _ _ _ _ _ _ _ d0 d1 s0 s1 b0 b1 p0 p1 i0 i1 c0 c1 hm
 ·exact yf _ _ _ _ _ _ _ d0 d1 s0 s1 b0 b1 p0 p1 i0 i1 c0 c1 hm
 ·exact ye _ _ _ _ _ _ _ d0 d1 s0 s1 b0 b1 p0 p1 i0 i1 c0 c1 hm
 ·exact yd _ _ _ _ _ _ _ d0 d1 s0 s1 b0 b1 p0 p1 i0 i1 c0 c1 hm
 ·exact yc _ _ _ _ _ _ _ d0 d1 s0 s1 b0 b1 p0 p1 i0 i1 c0 c1 hm
 ·exact yb _ _ _ _ _ _ _ d0 d1 s0 s1 b0 b1 p0 p1 i0 i1 c0 c1 hm
 ·exact ya _ _ _ _ _ _ _ d0 d1 s0 s1 b0 b1 p0 p1 i0 i1 c0 c1 hm
 ·exact x9 _ _ _ _ _ _ _ d0 d1 s0 s1 b0 b1 p0 p1 i0 i1 c0 c1 hm
 ·exact vT _ _ _ _ _ _ _ d0 d1 s0 s1 b0 b1 p0 p1 i0 i1 c0 c1 hm
 ·exact vS _ _ _ _ _ _ _ d0 d1 s0 s1 b0 b1 p0 p1 i0 i1 c0 c1 hm
 ·exact vR _ _ _ _ _ _ _ d0 d1 s0 s1 b0 b1 p0 p1 i0 i1 c0 c1 hm
 ·exact vQ _ _ _ _ _ _ _ d0 d1 s0 s1 b0 b1 p0 p1 i0 i1 c0 c1 hm
 ·exact vP _ _ _ _ _ _ _ d0 d1 s0 s1 b0 b1 p0 p1 i0 i1 c0 c1 hm
 ·exact vO _ _ _ _ _ _ _ d0 d1 s0 s1 b0 b1 p0 p1 i0 i1 c0 c1 hm
 ·exact vN _ _ _ _ _ _ _ d0 d1 s0 s1 b0 b1 p0 p1 i0 i1 c0 c1 hm
 ·exact vM _ _ _ _ _ _ _ d0 d1 s0 s1 b0 b1 p0 p1 i0 i1 c0 c1 hm
 ·exact vL _ _ _ _ _ _ _ d0 d1 s0 s1 b0 b1 p0 p1 i0 i1 c0 c1 hm
 ·exact vK _ _ _ _ _ _ _ d0 d1 s0 s1 b0 b1 p0 p1 i0 i1 c0 c1 hm
 ·exact vJ _ _ _ _ _ _ _ d0 d1 s0 s1 b0 b1 p0 p1 i0 i1 c0 c1 hm
 ·exact vI _ _ _ _ _ _ _ d0 d1 s0 s1 b0 b1 p0 p1 i0 i1 c0 c1 hm
 ·exact vH _ _ _ _ _ _ _ d0 d1 s0 s1 b0 b1 p0 p1 i0 i1 c0 c1 hm
 ·exact vG _ _ _ _ _ _ _ d0 d1 s0 s1 b0 b1 p0 p1 i0 i1 c0 c1 hm
 ·exact vF _ _ _ _ _ _ _ d0 d1 s0 s1 b0 b1 p0 p1 i0 i1 c0 c1 hm
 ·exact vE _ _ _ _ _ _ _ d0 d1 s0 s1 b0 b1 p0 p1 i0 i1 c0 c1 hm
 ·exact vD _ _ _ _ _ _ _ d0 d1 s0 s1 b0 b1 p0 p1 i0 i1 c0 c1 hm
 ·exact vC _ _ _ _ _ _ _ d0 d1 s0 s1 b0 b1 p0 p1 i0 i1 c0 c1 hm
 ·exact vB _ _ _ _ _ _ _ d0 d1 s0 s1 b0 b1 p0 p1 i0 i1 c0 c1 hm
 ·exact vA _ _ _ _ _ _ _ d0 d1 s0 s1 b0 b1 p0 p1 i0 i1 c0 c1 hm
 ·exact vz _ _ _ _ _ _ _ d0 d1 s0 s1 b0 b1 p0 p1 i0 i1 c0 c1 hm
 ·exact vy _ _ _ _ _ _ _ d0 d1 s0 s1 b0 b1 p0 p1 i0 i1 c0 c1 hm
theorem sS (op w ab ae aa af aq cc:Int) (ho:op≤127):aY Xh 42 [xD op w ab ae aa af aq cc] (.aQ [aZ 1 (mo op w ab ae aa af aq cc),ao (pB op w ab ae aa af aq cc)]):=by
 unfold mo pB
 cases h:a8 op w ab ae aa af aq cc
 ·simp only [Bool.false_eq_true,if_false]
  exact vx op w ab ae aa af aq cc ho h
 ·simp only [if_true]
  exact sP op w ab ae aa af aq cc h
theorem Cu {b:List Int} (hb:du b) (k:Nat):0≤Gz b k∧Gz b k≤255:=by
 unfold Gz
 split<;>exact dT hb _
theorem HD (b:List Int) (hb:du b) (hl:b.length≤1000) (W:Int) (hW:(if ku b 0 then 64 else 32)=W):cB Xh 3 (dD Tryz.f21 0) (Hj b) (Hk b (ku b 0) W) .norm (Gy b) (PO b (lO b) (ku b 0) (HM b 0) (HO b 0)):=by
 subst hW
 exact aJ.piece (Nat.le_refl 3) (Mr b hb hl (Cv b 0) (KB b 0 false) (ku b 0) (aO b 0==102) (HM b 0) (HO b 0) (if ku b 0 then 64 else 32) (Gz b 0) (Cu hb 0).1 (Cu hb 0).2)
theorem GZ {own b:List Int} {k:Nat} (ho:du own) (hb:du b) (h:own≠b.take k):((gk (bD own)).toList==(gk (Yz (Xi (k:Int)) (bD b))).toList)=false:=by
 rw [YC,← xc]
 cases e:((gk (bD own)).toList==(gk (bD (b.take k))).toList) with
 |false=>rfl
 |true=>exact absurd (JB ho (fun x hx=>hb x (List.mem_of_mem_take hx)) (beq_iff_eq.1 e)) h
theorem Cd {own b:List Int} {k:Nat} (h:own=b.take k):((gk (bD own)).toList==(gk (Yz (Xi (k:Int)) (bD b))).toList)=true:=by
 rw [YC,← xc,h]
 exact beq_self_eq_true _
theorem F8 (b:List Int) (hb:du b) (hl:b.length≤1000):aY Xh 21 [aZ 1 (bD b)] (HB (Gc b)):=by
 have hx:=HD b hb hl
 have S7:=HI b
 unfold Gc
 generalize lO b=r at hx S7
 obtain ⟨⟨op,w,ab,ae,aa,af,aq,cc⟩,at_,bad⟩:=r
 have hm:=cG op w ab ae aa af aq cc
 have Ty:(at_:Int)≤((bD b).length:Int):=by rw [aK];exact Int.ofNat_le.2 S7
 have Vc:a8 op w ab ae aa af aq cc=true→aY Xh 42 [xD op w ab ae aa af aq cc] (.aQ [aZ 1 (bD (dF ⟨op,w,ab,ae,aa,af,aq,cc⟩)),ao 0]):=by
  intro hq
  have So:op≤127:=by
   have:=IE (x:=⟨op,w,ab,ae,aa,af,aq,cc⟩) hq
   simp only [gR,List.mem_cons,List.not_mem_nil,or_false] at this
   omega
  have:=sS op w ab ae aa af aq cc So
  simp only [mo,pB,hq,if_true] at this
  exact this
 have hlen:(dF ⟨op,w,ab,ae,aa,af,aq,cc⟩).length≠at_→(((bD (dF ⟨op,w,ab,ae,aa,af,aq,cc⟩)).length:Int)==(at_:Int))=false:=by
  intro h
  rw [aK,eI]
  omega
 have Tl:(dF ⟨op,w,ab,ae,aa,af,aq,cc⟩).length=at_→(((bD (dF ⟨op,w,ab,ae,aa,af,aq,cc⟩)).length:Int)==(at_:Int))=true:=by
  intro h
  rw [aK,ck]
  omega
 have UC:ku b 0=false→_:=fun hw=>hx 32 (by rw [hw];rfl)
 have UP:ku b 0=true→_:=fun hw=>hx 64 (by rw [hw];rfl)
 clear hx
 cases hw:ku b 0
 all_goals
  cases bad
  case true=>
   rw [if_neg (by rintro ⟨h,_⟩;cases h)]
   first|exact BA b hb hl hw at_ op w ab ae aa af aq cc (UC hw)|exact Bv b hb hl hw at_ op w ab ae aa af aq cc (UP hw)
  cases hq:a8 op w ab ae aa af aq cc
  case false=>
   rw [hq] at hm
   rw [if_neg (by rintro ⟨_,h,_⟩;rw [show rp ⟨op,w,ab,ae,aa,af,aq,cc⟩=false from hq] at h;cases h)]
   first|exact Bx b hb hl hw at_ op w ab ae aa af aq cc (UC hw) hm|exact Bt b hb hl hw at_ op w ab ae aa af aq cc (UP hw) hm
  rw [hq] at hm
  have Rz:=Vc hq
  have VR:du (dF ⟨op,w,ab,ae,aa,af,aq,cc⟩):=pW hq
  by_cases he:(dF ⟨op,w,ab,ae,aa,af,aq,cc⟩).length=at_
  ·by_cases hs:dF ⟨op,w,ab,ae,aa,af,aq,cc⟩=b.take at_
   ·rw [if_pos ⟨rfl,hq,he,hs⟩]
    have hr:HB (some ⟨op,w,ab,ae,aa,af,aq,cc⟩)= .aQ [xD op w ab ae aa af aq cc,ao (at_:Int),ao 0]:=by rw [← he];rfl
    rw [hr]
    first|exact Gb b hb hl hw at_ op w ab ae aa af aq cc (UC hw) hm _ Rz Ty (Tl he) (Cd hs)|exact Ga b hb hl hw at_ op w ab ae aa af aq cc (UP hw) hm _ Rz Ty (Tl he) (Cd hs)
   ·rw [if_neg (by rintro ⟨_,_,_,h⟩;exact hs h)]
    first|exact Bw b hb hl hw at_ op w ab ae aa af aq cc (UC hw) hm _ Rz Ty (Tl he) (GZ VR hb hs)|exact Bs b hb hl hw at_ op w ab ae aa af aq cc (UP hw) hm _ Rz Ty (Tl he) (GZ VR hb hs)
  ·rw [if_neg (by rintro ⟨_,_,h,_⟩;exact he h)]
   first|exact Bz b hb hl hw at_ op w ab ae aa af aq cc (UC hw) hm _ Rz (hlen he)|exact Bu b hb hl hw at_ op w ab ae aa af aq cc (UP hw) hm _ Rz (hlen he)
end Go.Proofs.YtbfpahigdpigpaaGreat
namespace Go.Ev
open Go
theorem HE {op w ab ae aa af aq cc:Int} (h:a8 op w ab ae aa af aq cc=true) (ho:op=27∨op=31) (t:List Int):
  lO (aN op w ab ae aa af aq cc++t)=⟨⟨op,w,ab,ae,aa,af,aq,cc⟩,(aN op w ab ae aa af aq cc).length,false⟩:=by
 obtain ⟨⟨d0,d1,s0,s1,b0,b1,p0,p1,i0,i1⟩,hs⟩:=ef h
 rcases ho with rfl|rfl
 ·rw [show aF 27=8 from rfl] at hs
  simp [br] at hs
  obtain ⟨hw,rfl,rfl,rfl⟩:=hs
  have e:aN 27 w 0 ae aa af 0 0=(if w=16 then [102] else [])++(bw (decide (w=64)) ae aa (decide (w=8))++((if w=8 then [136] else [137])++bI ae aa af)):=by
   simp [aN,show aF 27=8 from rfl]
  rcases gX hw with rfl|rfl|rfl|rfl
  ·rw [if_neg (by decide),if_pos rfl,XJ] at e
   obtain ⟨q,hq,hd,ha⟩:=qy (b:=aN 27 8 0 ae aa af 0 0++t) (wide:=decide ((8:Int)=64)) (al:=decide ((8:Int)=8)) (c:=136) (t:=bI ae aa af++t) s0 s1 b0 b1 (by decide) (by decide) (by decide) (by decide) (by rw [e];simp)
   obtain ⟨g0,g1,g2,g3,g4,g5,g6⟩:=vw s0 s1 b0 b1 p0 p1 hd
   rw [ha]
   simp only [cK]
   rw [g2,g3,g4,g6,g5]
   simp
   rw [hq,e];simp
   omega
  ·rw [if_pos rfl,if_neg (by decide)] at e
   obtain ⟨q,hq,hd,ha⟩:=JF (b:=aN 27 16 0 ae aa af 0 0++t) (wide:=decide ((16:Int)=64)) (al:=decide ((16:Int)=8)) (c:=137) (t:=bI ae aa af++t) s0 s1 b0 b1 (by decide) (by decide) (by decide) (by rw [e];simp)
   obtain ⟨g0,g1,g2,g3,g4,g5,g6⟩:=vw s0 s1 b0 b1 p0 p1 hd
   rw [ha]
   simp only [cK]
   rw [g2,g3,g4,g6,g5,if_pos trivial,if_pos ⟨g0,g1⟩]
   refine zY rfl ?_
   rw [hq,e];simp
   omega
  ·rw [if_neg (by decide),if_neg (by decide),XJ] at e
   obtain ⟨q,hq,hd,ha⟩:=qy (b:=aN 27 32 0 ae aa af 0 0++t) (wide:=decide ((32:Int)=64)) (al:=decide ((32:Int)=8)) (c:=137) (t:=bI ae aa af++t) s0 s1 b0 b1 (by decide) (by decide) (by decide) (by decide) (by rw [e];simp)
   obtain ⟨g0,g1,g2,g3,g4,g5,g6⟩:=vw s0 s1 b0 b1 p0 p1 hd
   rw [ha]
   simp only [cK]
   rw [g2,g3,g4,g6,g5,if_pos trivial,if_pos ⟨g0,g1⟩]
   refine zY rfl ?_
   rw [hq,e];simp
   omega
  ·rw [if_neg (by decide),if_neg (by decide),XJ] at e
   obtain ⟨q,hq,hd,ha⟩:=qy (b:=aN 27 64 0 ae aa af 0 0++t) (wide:=decide ((64:Int)=64)) (al:=decide ((64:Int)=8)) (c:=137) (t:=bI ae aa af++t) s0 s1 b0 b1 (by decide) (by decide) (by decide) (by decide) (by rw [e];simp)
   obtain ⟨g0,g1,g2,g3,g4,g5,g6⟩:=vw s0 s1 b0 b1 p0 p1 hd
   rw [ha]
   simp only [cK]
   rw [g2,g3,g4,g6,g5,if_pos trivial,if_pos ⟨g0,g1⟩]
   refine zY rfl ?_
   rw [hq,e];simp
   omega
 ·rw [show aF 31=11 from rfl] at hs
  simp [br] at hs
  obtain ⟨rfl,rfl,rfl,rfl,rfl,rfl,rfl⟩:=hs
  have e:aN 31 0 0 0 0 0 0 0= [15,5]:=rfl
  obtain ⟨hd,ha⟩:=JG (b:=aN 31 0 0 0 0 0 0 0++t) (c:=15) (t:=5::t) (by decide) (by decide) (by decide) (by decide) (by rw [e];rfl)
  obtain ⟨_,v0,a0,x0,h1⟩:=iT hd
  rw [ha]
  simp only [cK,tp]
  rw [v0,a0,x0]
  simp
  rw [e];rfl
theorem Nm {b:List Int} {x:XS} (h:lN b=some x) (ho:x.op=27∨x.op=31):Gc (b.take 20)=some x:=by
 have hf:kh b x=true:=by
  unfold lN at h
  split at h
  ·rename_i hf
   rw [Option.some.injEq] at h
   rw [← h]
   exact hf
  ·cases h
 unfold kh at hf
 rw [Bool.and_eq_true,List.isPrefixOf_iff_prefix] at hf
 obtain ⟨hm,t,ht⟩:=hf
 have hl:=(Gj x).2
 have e2:b.take 20=dF x++t.take (20 - (dF x).length):=by
  rw [← ht,List.take_append,Yy (by omega)]
 have e:lO (b.take 20)=⟨x,(dF x).length,false⟩:=by
  rw [e2]
  exact HE hm ho _
 unfold Gc
 simp only [e]
 rw [if_pos ⟨trivial,hm,trivial,by rw [e2,List.take_left]⟩]
def OX (b:List Int) (o:Int):Bool:=match Gc b with
  |some x=>x.op==o
  |none=>false
def iW (cb:List Int) (o at_:Int):Bool:=decide (0≤at_∧at_<(cb.length:Int))&&OX ((cb.drop at_.toNat).take 20) o
theorem LU {cb:List Int} {pc:Int} {x:XS} (hc:cb.length≤16384) (Q4:sY 1048576 cb.length pc 1=true) (hr:lN (cb.drop (lP 1048576 pc))=some x) (ho:x.op=27∨x.op=31):iW cb x.op (k8 pc)=true:=by
 have ⟨h1,h2,h3⟩:=Fi Q4
 have h0:0≤YO.u64.wrap (pc - 1048576):=by rw [dt];omega
 have e:k8 pc=YO.u64.wrap (pc - 1048576):=by
  unfold k8
  rw [if_pos (by rw [bP];omega),aU]
  omega
 unfold iW OX
 rw [e,show (YO.u64.wrap (pc - 1048576)).toNat=lP 1048576 pc from rfl,Nm hr ho]
 simp only [beq_self_eq_true,Bool.and_true,bP]
 omega
theorem J4 {cb:List Int} (hc:cb.length≤16384) {e:kP} (h:iW cb 27 (k8 e.m.pc)=false):(cO cb e).1.cx=e.cx:=by
 unfold cO
 split
 ·rename_i Q4
  split
  ·rfl
  ·rename_i x hr
   have:=LU hc Q4 hr
   split
   ·split
    ·split<;>rfl
    ·rfl
   ·split
    ·rename_i U3
     have:=this (.inl U3)
     rw [U3,h] at this
     cases this
    ·split
     ·split<;>rfl
     ·split
      ·split
       ·rfl
       ·split<;>rfl
      ·split<;>rfl
 ·rfl
theorem G2 {cb:List Int} (hc:cb.length≤16384) {e:kP} (h:iW cb 31 (k8 e.m.pc)=false):(cO cb e).1.tr=e.tr:=by
 unfold cO
 split
 ·rename_i Q4
  split
  ·rfl
  ·rename_i x hr
   have:=LU hc Q4 hr
   split
   ·rename_i Vt
    have:=this (.inr Vt)
    rw [Vt,h] at this
    cases this
   ·split
    ·split<;>rfl
    ·split
     ·split<;>rfl
     ·split
      ·split
       ·rfl
       ·split<;>rfl
      ·split<;>rfl
 ·rfl
theorem Hg {cb:List Int} (hc:cb.length≤16384):∀(f:Nat) (e:kP),(∀x∈kq cb f e,iW cb 27 x=false)→(gZ cb f e).1.cx=e.cx
 |0,e,_=>rfl
 |f+1,e,h=>by
  have h0:=J4 hc (h (k8 e.m.pc) (by rw [kq];exact List.mem_cons_self ..))
  rw [gZ]
  rw [kq] at h
  cases hs:cO cb e with
  |mk e2 b=>
   rw [hs] at h0 h
   cases b with
   |true=>exact (Hg hc f e2 fun x hx=>h x (List.mem_cons_of_mem _ hx)).trans h0
   |false=>exact h0
theorem Cj {cb:List Int} (hc:cb.length≤16384):∀(f:Nat) (e:kP),(∀x∈kq cb f e,iW cb 31 x=false)→(gZ cb f e).1.tr=e.tr
 |0,e,_=>rfl
 |f+1,e,h=>by
  have h0:=G2 hc (h (k8 e.m.pc) (by rw [kq];exact List.mem_cons_self ..))
  rw [gZ]
  rw [kq] at h
  cases hs:cO cb e with
  |mk e2 b=>
   rw [hs] at h0 h
   cases b with
   |true=>exact (Cj hc f e2 fun x hx=>h x (List.mem_cons_of_mem _ hx)).trans h0
   |false=>exact h0
end Go.Ev
namespace Go.Proofs.YtbfpahigdpigpaaGreat
open Go Go.Ev
abbrev PN (cb:List Int) (x:Int):List D:=Ya (Xi x) (Yz (Xi (if ((bD cb).length:Int)<YO.i64.wrap (x+20) then ((bD cb).length:Int) else YO.i64.wrap (x+20))) (bD cb))
abbrev O2 (en r0 l1:Int) (c:List Int) (p:List sH):List Ob:= [aA,aA,au [aj en,aB r0,aZ 1 (bD c),aZ 3 (fi p),ao l1],aA]
abbrev zQ1 (cb cx an:List Int) (f:Int):List D:= [aZ 1 (bD cb),aZ 1 (bD cx),aZ 1 (wD an),ao f]
theorem Mb {cb:List Int} (hc:cb.length≤2000) {x:Int} (x0:0≤x) (x1:x<(cb.length:Int)):PN cb x=bD ((cb.drop x.toNat).take 20):=by
 have hw:YO.i64.wrap (x+20)=x+20:=by rw [aU];omega
 unfold PN
 rw [hw,aK]
 have e:∀n:Nat,Ya x.toNat (Yz n (bD cb))=bD ((cb.drop x.toNat).take (n - x.toNat)):=fun n=>by
  rw [List.drop_take,xc]
  show _=Yz _ (List.map _ (Ya _ _))
  rw [List.map_drop]
  rfl
 rw [e]
 congr 1
 split
 ·rw [Yy (by rw [List.length_drop];omega),Yy (by rw [List.length_drop];omega)]
 ·congr 1
  omega
theorem Ni (cb cx c pl:List Int) (p:List sH) (en r0 l1:Int) (k:Nat) (hn:(bD cb).length≤2000) (Sr:(iD pl).length≤20000) (a b:Bool) (h:(iD pl).length≤k):aJ Xh (db Tryz.f7 0) ⟨[1,8,9,12,13],[2],[]⟩ 4 ((aZ 1 (bD cb))::(aZ 1 (bD cx))::(un 6++(ax false)::(.ptr false 2 0)::(cX)::(aZ 1 (iD pl))::(ax a)::(ax b)::(ao (↑k:Int))::(un 105))) (O2 en r0 l1 c p) (.exit 0) ((cX)::(aZ 1 (bD cx))::(un 6++(ax false)::(.ptr false 2 0)::(cX)::(cX)::(ax a)::(ax b)::(un 106))) (O2 en r0 l1 c p):=(aJ.ai (sp:=⟨[1,8,9,12,13],[2],[]⟩) (n0:=4) (ex:=Ex.exit (0:Nat)) (t':=((cX)::(aZ 1 (bD cx))::(un 6++(ax false)::(.ptr false 2 0)::(cX)::(cX)::(ax a)::(ax b)::(un 106)))) (s':= (O2 en r0 l1 c p)) mixed [tC (by ((try simp only [aU,bP,cq,ck,gu,eI] at*);omega):(decide ((↑k:Int)<(↑(Xj (iD pl)):Int)))=false)]).cast (by rfl) (by rfl)
theorem Oz (cb cx c pl:List Int) (p:List sH) (en r0 l1:Int) (k:Nat) (hn:(bD cb).length≤2000) (Sr:(iD pl).length≤20000) (a b:Bool) (x:Int) (h:k<(iD pl).length) (hx:(iD pl)[k]? =some (ao x)) (x0:x<0):aJ Xh (db Tryz.f7 0) ⟨[0,1,8,9,11,12,13,14],[2],[]⟩ 4 ((aZ 1 (bD cb))::(aZ 1 (bD cx))::(un 6++(ax false)::(.ptr false 2 0)::(cX)::(aZ 1 (iD pl))::(ax a)::(ax b)::(ao (↑k:Int))::(un 105))) (O2 en r0 l1 c p) .norm ((aZ 1 (bD cb))::(aZ 1 (bD cx))::(un 6++(ax false)::(.ptr false 2 0)::(cX)::(aZ 1 (iD pl))::(ax a)::(ax b)::(ao (YO.i64.wrap ((↑k:Int)+(1:Int))))::(un 105))) (O2 en r0 l1 c p):=(aJ.ai (sp:=⟨[0,1,8,9,11,12,13,14],[2],[]⟩) (n0:=4) (ex:=Ex.norm) (t':=((aZ 1 (bD cb))::(aZ 1 (bD cx))::(un 6++(ax false)::(.ptr false 2 0)::(cX)::(aZ 1 (iD pl))::(ax a)::(ax b)::(ao (YO.i64.wrap ((↑k:Int)+(1:Int))))::(un 105)))) (s':= (O2 en r0 l1 c p)) mixed [tC (by ((try simp only [aU,bP,cq,ck,gu,eI] at*);omega):(decide ((↑k:Int)<(↑(Xj (iD pl)):Int)))=true),tT,.get _ _ _ hx,tC (eF (bT x0)),tC (eF (bT x0)),tC (eF (bT x0)),tC (eF (bT x0)),tC (bT x0),tT]).cast (by rfl) (by rfl)
theorem OA (cb cx c pl:List Int) (p:List sH) (en r0 l1:Int) (k:Nat) (hn:(bD cb).length≤2000) (Sr:(iD pl).length≤20000) (a b:Bool) (x:Int) (h:k<(iD pl).length) (hx:(iD pl)[k]? =some (ao x)) (x0:0≤x) (x1:((bD cb).length:Int)≤x):aJ Xh (db Tryz.f7 0) ⟨[0,1,8,9,11,12,13,14],[2],[]⟩ 4 ((aZ 1 (bD cb))::(aZ 1 (bD cx))::(un 6++(ax false)::(.ptr false 2 0)::(cX)::(aZ 1 (iD pl))::(ax a)::(ax b)::(ao (↑k:Int))::(un 105))) (O2 en r0 l1 c p) .norm ((aZ 1 (bD cb))::(aZ 1 (bD cx))::(un 6++(ax false)::(.ptr false 2 0)::(cX)::(aZ 1 (iD pl))::(ax a)::(ax b)::(ao (YO.i64.wrap ((↑k:Int)+(1:Int))))::(un 105))) (O2 en r0 l1 c p):=(aJ.ai (sp:=⟨[0,1,8,9,11,12,13,14],[2],[]⟩) (n0:=4) (ex:=Ex.norm) (t':=((aZ 1 (bD cb))::(aZ 1 (bD cx))::(un 6++(ax false)::(.ptr false 2 0)::(cX)::(aZ 1 (iD pl))::(ax a)::(ax b)::(ao (YO.i64.wrap ((↑k:Int)+(1:Int))))::(un 105)))) (s':= (O2 en r0 l1 c p)) mixed [tC (by ((try simp only [aU,bP,cq,ck,gu,eI] at*);omega):(decide ((↑k:Int)<(↑(Xj (iD pl)):Int)))=true),tT,.get _ _ _ hx,tC (eF (bg (Xk.2 x0))),tC (eF (bg (Xk.2 x0))),tC (eF (bg (Xk.2 x0))),tC (eF (bg (Xk.2 x0))),tC (bg (Xk.2 x0)),tC (by ((try simp only [aU,bP,cq,ck,gu,eI] at*);omega):(decide (x≥(↑(Xj (bD cb)):Int)))=true)]).cast (by rfl) (by rfl)
theorem PB (cb cx c pl:List Int) (p:List sH) (en r0 l1:Int) (k:Nat) (hn:(bD cb).length≤2000) (Sr:(iD pl).length≤20000) (a b:Bool) (x:Int) (h:k<(iD pl).length) (hx:(iD pl)[k]? =some (ao x)) (x0:0≤x) (x1:x<((bD cb).length:Int)) (op w ab ae aa af aq cc n e:Int) (hr:aY Xh 21 [aZ 1 (Ya (Xi x) (Yz (Xi (if ((bD cb).length:Int)<YO.i64.wrap (x+20) then ((bD cb).length:Int) else YO.i64.wrap (x+20))) (bD cb)))] (.aQ [xD op w ab ae aa af aq cc,ao n,ao e])) (he:(e==0)=false):aJ Xh (db Tryz.f7 0) ⟨[0,1,8,9,11,12,13,14],[2],[]⟩ 4 ((aZ 1 (bD cb))::(aZ 1 (bD cx))::(un 6++(ax false)::(.ptr false 2 0)::(cX)::(aZ 1 (iD pl))::(ax a)::(ax b)::(ao (↑k:Int))::(un 105))) (O2 en r0 l1 c p) .norm ((aZ 1 (bD cb))::(aZ 1 (bD cx))::(un 6++(ax false)::(.ptr false 2 0)::(cX)::(aZ 1 (iD pl))::(ax a)::(ax b)::(ao (YO.i64.wrap ((↑k:Int)+(1:Int))))::(un 105))) (O2 en r0 l1 c p):=(aJ.ai (sp:=⟨[0,1,8,9,11,12,13,14],[2],[]⟩) (n0:=4) (ex:=Ex.norm) (t':=((aZ 1 (bD cb))::(aZ 1 (bD cx))::(un 6++(ax false)::(.ptr false 2 0)::(cX)::(aZ 1 (iD pl))::(ax a)::(ax b)::(ao (YO.i64.wrap ((↑k:Int)+(1:Int))))::(un 105)))) (s':= (O2 en r0 l1 c p)) mixed [tC (by ((try simp only [aU,bP,cq,ck,gu,eI] at*);omega):(decide ((↑k:Int)<(↑(Xj (iD pl)):Int)))=true),tT,.get _ _ _ hx,tC (eF (bg (Xk.2 x0))),tC (eF (bg (Xk.2 x0))),tC (eF (bg (Xk.2 x0))),tC (eF (bg (Xk.2 x0))),tC (bg (Xk.2 x0)),tC (by ((try simp only [aU,bP,cq,ck,gu,eI] at*);omega):(decide (x≥(↑(Xj (bD cb)):Int)))=false),.dP (decide ((0:Int)≤x∧(x≤if (↑(Xj (bD cb)):Int)<YO.i64.wrap (x+(20:Int)) then (↑(Xj (bD cb)):Int) else YO.i64.wrap (x+(20:Int)))∧(if (↑(Xj (bD cb)):Int)<YO.i64.wrap (x+(20:Int)) then (↑(Xj (bD cb)):Int) else YO.i64.wrap (x+(20:Int)))≤(↑(Xj (bD cb)):Int))) true (by ((try simp only [aU,bP,cq,ck,gu,eI] at*);omega)),aw hr,tC he]).cast (by rfl) (by rfl)
theorem Ox (cb cx c pl:List Int) (p:List sH) (en r0 l1:Int) (k:Nat) (hn:(bD cb).length≤2000) (Sr:(iD pl).length≤20000) (x:Int) (h:k<(iD pl).length) (hx:(iD pl)[k]? =some (ao x)) (x0:0≤x) (x1:x<((bD cb).length:Int)) (op w ab ae aa af aq cc n e:Int) (hr:aY Xh 21 [aZ 1 (Ya (Xi x) (Yz (Xi (if ((bD cb).length:Int)<YO.i64.wrap (x+20) then ((bD cb).length:Int) else YO.i64.wrap (x+20))) (bD cb)))] (.aQ [xD op w ab ae aa af aq cc,ao n,ao 0])):aJ Xh (db Tryz.f7 0) ⟨[0,1,8,9,11,12,13,14],[2],[]⟩ 4 ((aZ 1 (bD cb))::(aZ 1 (bD cx))::(un 6++(ax false)::(.ptr false 2 0)::(cX)::(aZ 1 (iD pl))::(ax true)::(ax true)::(ao (↑k:Int))::(un 105))) (O2 en r0 l1 c p) .norm ((aZ 1 (bD cb))::(aZ 1 (bD cx))::(un 6++(ax false)::(.ptr false 2 0)::(cX)::(aZ 1 (iD pl))::(ax true)::(ax true)::(ao (YO.i64.wrap ((↑k:Int)+(1:Int))))::(un 105))) (O2 en r0 l1 c p):=(aJ.ai (sp:=⟨[0,1,8,9,11,12,13,14],[2],[]⟩) (n0:=4) (ex:=Ex.norm) (t':=((aZ 1 (bD cb))::(aZ 1 (bD cx))::(un 6++(ax false)::(.ptr false 2 0)::(cX)::(aZ 1 (iD pl))::(ax true)::(ax true)::(ao (YO.i64.wrap ((↑k:Int)+(1:Int))))::(un 105)))) (s':= (O2 en r0 l1 c p)) mixed ([tC (by ((try simp only [aU,bP,cq,ck,gu,eI] at*);omega):(decide ((↑k:Int)<(↑(Xj (iD pl)):Int)))=true),tT,.get _ _ _ hx,tC (eF (bg (Xk.2 x0))),tC (eF (bg (Xk.2 x0))),tC (eF (bg (Xk.2 x0))),tC (eF (bg (Xk.2 x0))),tC (bg (Xk.2 x0)),tC (by ((try simp only [aU,bP,cq,ck,gu,eI] at*);omega):(decide (x≥(↑(Xj (bD cb)):Int)))=false),.dP (decide ((0:Int)≤x∧(x≤if (↑(Xj (bD cb)):Int)<YO.i64.wrap (x+(20:Int)) then (↑(Xj (bD cb)):Int) else YO.i64.wrap (x+(20:Int)))∧(if (↑(Xj (bD cb)):Int)<YO.i64.wrap (x+(20:Int)) then (↑(Xj (bD cb)):Int) else YO.i64.wrap (x+(20:Int)))≤(↑(Xj (bD cb)):Int))) true (by ((try simp only [aU,bP,cq,ck,gu,eI] at*);omega)),aw hr,tT,tF,tF,tF,tT]++ [tF,tF,tF,tT])).cast (by rfl) (by rfl)
theorem Oy (cb cx c pl:List Int) (p:List sH) (en r0 l1:Int) (k:Nat) (hn:(bD cb).length≤2000) (Sr:(iD pl).length≤20000) (x:Int) (h:k<(iD pl).length) (hx:(iD pl)[k]? =some (ao x)) (x0:0≤x) (x1:x<((bD cb).length:Int)) (op w ab ae aa af aq cc n e:Int) (hr:aY Xh 21 [aZ 1 (Ya (Xi x) (Yz (Xi (if ((bD cb).length:Int)<YO.i64.wrap (x+20) then ((bD cb).length:Int) else YO.i64.wrap (x+20))) (bD cb)))] (.aQ [xD op w ab ae aa af aq cc,ao n,ao 0])):aJ Xh (db Tryz.f7 0) ⟨[0,1,8,9,11,12,13,14],[2],[]⟩ 4 ((aZ 1 (bD cb))::(aZ 1 (bD cx))::(un 6++(ax false)::(.ptr false 2 0)::(cX)::(aZ 1 (iD pl))::(ax true)::(ax false)::(ao (↑k:Int))::(un 105))) (O2 en r0 l1 c p) .norm ((aZ 1 (bD cb))::(aZ 1 (bD cx))::(un 6++(ax false)::(.ptr false 2 0)::(cX)::(aZ 1 (iD pl))::(ax true)::(ax (op==(31:Int)))::(ao (YO.i64.wrap ((↑k:Int)+(1:Int))))::(un 105))) (O2 en r0 l1 c p):=(aJ.ai (sp:=⟨[0,1,8,9,11,12,13,14],[2],[]⟩) (n0:=4) (ex:=Ex.norm) (t':=((aZ 1 (bD cb))::(aZ 1 (bD cx))::(un 6++(ax false)::(.ptr false 2 0)::(cX)::(aZ 1 (iD pl))::(ax true)::(ax (op==(31:Int)))::(ao (YO.i64.wrap ((↑k:Int)+(1:Int))))::(un 105)))) (s':= (O2 en r0 l1 c p)) mixed ([tC (by ((try simp only [aU,bP,cq,ck,gu,eI] at*);omega):(decide ((↑k:Int)<(↑(Xj (iD pl)):Int)))=true),tT,.get _ _ _ hx,tC (eF (bg (Xk.2 x0))),tC (eF (bg (Xk.2 x0))),tC (eF (bg (Xk.2 x0))),tC (eF (bg (Xk.2 x0))),tC (bg (Xk.2 x0)),tC (by ((try simp only [aU,bP,cq,ck,gu,eI] at*);omega):(decide (x≥(↑(Xj (bD cb)):Int)))=false),.dP (decide ((0:Int)≤x∧(x≤if (↑(Xj (bD cb)):Int)<YO.i64.wrap (x+(20:Int)) then (↑(Xj (bD cb)):Int) else YO.i64.wrap (x+(20:Int)))∧(if (↑(Xj (bD cb)):Int)<YO.i64.wrap (x+(20:Int)) then (↑(Xj (bD cb)):Int) else YO.i64.wrap (x+(20:Int)))≤(↑(Xj (bD cb)):Int))) true (by ((try simp only [aU,bP,cq,ck,gu,eI] at*);omega)),aw hr,tT,tF,tF,tF,tT]++ [tT,tT,tT,tF])).cast (by rfl) (by rfl)
theorem OB (cb cx c pl:List Int) (p:List sH) (en r0 l1:Int) (k:Nat) (hn:(bD cb).length≤2000) (Sr:(iD pl).length≤20000) (x:Int) (h:k<(iD pl).length) (hx:(iD pl)[k]? =some (ao x)) (x0:0≤x) (x1:x<((bD cb).length:Int)) (op w ab ae aa af aq cc n e:Int) (hr:aY Xh 21 [aZ 1 (Ya (Xi x) (Yz (Xi (if ((bD cb).length:Int)<YO.i64.wrap (x+20) then ((bD cb).length:Int) else YO.i64.wrap (x+20))) (bD cb)))] (.aQ [xD op w ab ae aa af aq cc,ao n,ao 0])):aJ Xh (db Tryz.f7 0) ⟨[0,1,8,9,11,12,13,14],[2],[]⟩ 4 ((aZ 1 (bD cb))::(aZ 1 (bD cx))::(un 6++(ax false)::(.ptr false 2 0)::(cX)::(aZ 1 (iD pl))::(ax false)::(ax true)::(ao (↑k:Int))::(un 105))) (O2 en r0 l1 c p) .norm ((aZ 1 (bD cb))::(aZ 1 (bD cx))::(un 6++(ax false)::(.ptr false 2 0)::(cX)::(aZ 1 (iD pl))::(ax (op==(27:Int)))::(ax true)::(ao (YO.i64.wrap ((↑k:Int)+(1:Int))))::(un 105))) (O2 en r0 l1 c p):=(aJ.ai (sp:=⟨[0,1,8,9,11,12,13,14],[2],[]⟩) (n0:=4) (ex:=Ex.norm) (t':=((aZ 1 (bD cb))::(aZ 1 (bD cx))::(un 6++(ax false)::(.ptr false 2 0)::(cX)::(aZ 1 (iD pl))::(ax (op==(27:Int)))::(ax true)::(ao (YO.i64.wrap ((↑k:Int)+(1:Int))))::(un 105)))) (s':= (O2 en r0 l1 c p)) mixed ([tC (by ((try simp only [aU,bP,cq,ck,gu,eI] at*);omega):(decide ((↑k:Int)<(↑(Xj (iD pl)):Int)))=true),tT,.get _ _ _ hx,tC (eF (bg (Xk.2 x0))),tC (eF (bg (Xk.2 x0))),tC (eF (bg (Xk.2 x0))),tC (eF (bg (Xk.2 x0))),tC (bg (Xk.2 x0)),tC (by ((try simp only [aU,bP,cq,ck,gu,eI] at*);omega):(decide (x≥(↑(Xj (bD cb)):Int)))=false),.dP (decide ((0:Int)≤x∧(x≤if (↑(Xj (bD cb)):Int)<YO.i64.wrap (x+(20:Int)) then (↑(Xj (bD cb)):Int) else YO.i64.wrap (x+(20:Int)))∧(if (↑(Xj (bD cb)):Int)<YO.i64.wrap (x+(20:Int)) then (↑(Xj (bD cb)):Int) else YO.i64.wrap (x+(20:Int)))≤(↑(Xj (bD cb)):Int))) true (by ((try simp only [aU,bP,cq,ck,gu,eI] at*);omega)),aw hr,tT,tT,tT,tT,tF]++ [tF,tF,tF,tT])).cast (by rfl) (by rfl)
theorem OC (cb cx c pl:List Int) (p:List sH) (en r0 l1:Int) (k:Nat) (hn:(bD cb).length≤2000) (Sr:(iD pl).length≤20000) (x:Int) (h:k<(iD pl).length) (hx:(iD pl)[k]? =some (ao x)) (x0:0≤x) (x1:x<((bD cb).length:Int)) (op w ab ae aa af aq cc n e:Int) (hr:aY Xh 21 [aZ 1 (Ya (Xi x) (Yz (Xi (if ((bD cb).length:Int)<YO.i64.wrap (x+20) then ((bD cb).length:Int) else YO.i64.wrap (x+20))) (bD cb)))] (.aQ [xD op w ab ae aa af aq cc,ao n,ao 0])):aJ Xh (db Tryz.f7 0) ⟨[0,1,8,9,11,12,13,14],[2],[]⟩ 4 ((aZ 1 (bD cb))::(aZ 1 (bD cx))::(un 6++(ax false)::(.ptr false 2 0)::(cX)::(aZ 1 (iD pl))::(ax false)::(ax false)::(ao (↑k:Int))::(un 105))) (O2 en r0 l1 c p) .norm ((aZ 1 (bD cb))::(aZ 1 (bD cx))::(un 6++(ax false)::(.ptr false 2 0)::(cX)::(aZ 1 (iD pl))::(ax (op==(27:Int)))::(ax (op==(31:Int)))::(ao (YO.i64.wrap ((↑k:Int)+(1:Int))))::(un 105))) (O2 en r0 l1 c p):=(aJ.ai (sp:=⟨[0,1,8,9,11,12,13,14],[2],[]⟩) (n0:=4) (ex:=Ex.norm) (t':=((aZ 1 (bD cb))::(aZ 1 (bD cx))::(un 6++(ax false)::(.ptr false 2 0)::(cX)::(aZ 1 (iD pl))::(ax (op==(27:Int)))::(ax (op==(31:Int)))::(ao (YO.i64.wrap ((↑k:Int)+(1:Int))))::(un 105)))) (s':= (O2 en r0 l1 c p)) mixed ([tC (by ((try simp only [aU,bP,cq,ck,gu,eI] at*);omega):(decide ((↑k:Int)<(↑(Xj (iD pl)):Int)))=true),tT,.get _ _ _ hx,tC (eF (bg (Xk.2 x0))),tC (eF (bg (Xk.2 x0))),tC (eF (bg (Xk.2 x0))),tC (eF (bg (Xk.2 x0))),tC (bg (Xk.2 x0)),tC (by ((try simp only [aU,bP,cq,ck,gu,eI] at*);omega):(decide (x≥(↑(Xj (bD cb)):Int)))=false),.dP (decide ((0:Int)≤x∧(x≤if (↑(Xj (bD cb)):Int)<YO.i64.wrap (x+(20:Int)) then (↑(Xj (bD cb)):Int) else YO.i64.wrap (x+(20:Int)))∧(if (↑(Xj (bD cb)):Int)<YO.i64.wrap (x+(20:Int)) then (↑(Xj (bD cb)):Int) else YO.i64.wrap (x+(20:Int)))≤(↑(Xj (bD cb)):Int))) true (by ((try simp only [aU,bP,cq,ck,gu,eI] at*);omega)),aw hr,tT,tT,tT,tT,tF]++ [tT,tT,tT,tF])).cast (by rfl) (by rfl)
abbrev P9 (cb cx pl:List Int) (a b:Bool) (k:Int):List D:=((aZ 1 (bD cb))::(aZ 1 (bD cx))::(un 6++(ax false)::(.ptr false 2 0)::(cX)::(aZ 1 (iD pl))::(ax a)::(ax b)::(ao k)::(un 105)))
abbrev Qa (cx:List Int) (a b:Bool):List D:=((cX)::(aZ 1 (bD cx))::(un 6++(ax false)::(.ptr false 2 0)::(cX)::(cX)::(ax a)::(ax b)::(un 106)))
theorem Jh (cb cx c pl:List Int) (p:List sH) (en r0 l1:Int) (hb:du cb) (hn:cb.length≤2000) (Sr:pl.length≤20000):∀(n k:Nat) (a b:Bool),k+n=pl.length→
  cA Xh (db Tryz.f7 0) 4 (P9 cb cx pl a b k) (O2 en r0 l1 c p) (.exit 0) (Qa cx (a||(pl.drop k).any (iW cb 27)) (b||(pl.drop k).any (iW cb 31))) (O2 en r0 l1 c p)
 |0,k,a,b,hk=>by
  obtain rfl:k=pl.length:=by omega
  have:=Ni cb cx c pl p en r0 l1 pl.length (by rw [aK];exact hn) (by rw [rC];exact Sr) a b (by rw [rC];exact Nat.le_refl _)
  rw [List.drop_length,List.any_nil,List.any_nil,YF,YF]
  exact cA.last this (fun h=>by cases h)
 |n+1,k,a,b,hk=>by
  have QQ:k<pl.length:=by omega
  have hx:(iD pl)[k]? =some (ao pl[k]):=Na (List.getElem?_eq_getElem QQ)
  have hw:YO.i64.wrap ((k:Int)+1)=((k+1:Nat):Int):=by rw [aU];omega
  have h1:(bD cb).length≤2000:=by rw [aK];exact hn
  have h2:(iD pl).length≤20000:=by rw [rC];exact Sr
  have h3:k<(iD pl).length:=by rw [rC];exact QQ
  have ih:=Jh cb cx c pl p en r0 l1 hb hn Sr n (k+1)
  rw [List.drop_eq_getElem_cons QQ,List.any_cons,List.any_cons,← Bool.or_assoc,← Bool.or_assoc]
  by_cases x0:0≤pl[k]
  case neg=>
   have e:∀o,iW cb o pl[k]=false:=fun o=>by unfold iW;rw [bg (by omega)];rfl
   have:=Oz cb cx c pl p en r0 l1 k h1 h2 a b _ h3 hx (by omega)
   rw [hw] at this
   rw [e,e,YF,YF]
   exact cA.ic this (ih a b (by omega))
  by_cases x1:pl[k]<(cb.length:Int)
  case neg=>
   have e:∀o,iW cb o pl[k]=false:=fun o=>by unfold iW;rw [bg (by omega)];rfl
   have:=OA cb cx c pl p en r0 l1 k h1 h2 a b _ h3 hx x0 (by rw [aK];omega)
   rw [hw] at this
   rw [e,e,YF,YF]
   exact cA.ic this (ih a b (by omega))
  have Vb:pl[k]<((bD cb).length:Int):=by rw [aK];exact x1
  have hR:=F8 ((cb.drop pl[k].toNat).take 20) (fun y hy=>hb y (List.mem_of_mem_drop (List.mem_of_mem_take hy))) (by rw [List.length_take];omega)
  rw [← Mb hn x0 x1] at hR
  have e:∀o,iW cb o pl[k]=OX ((cb.drop pl[k].toNat).take 20) o:=fun o=>by unfold iW;rw [bT ⟨x0,x1⟩];rfl
  rw [e,e]
  unfold OX
  cases hr:Gc ((cb.drop pl[k].toNat).take 20) with
  |none=>
   rw [hr] at hR
   have:=PB cb cx c pl p en r0 l1 k h1 h2 a b _ h3 hx x0 Vb _ _ _ _ _ _ _ _ _ _ hR rfl
   rw [hw] at this
   simp only [YF]
   exact cA.ic this (ih a b (by omega))
  |some x=>
   rw [hr] at hR
   simp only
   cases a<;>cases b
   ·have:=OC cb cx c pl p en r0 l1 k h1 h2 _ h3 hx x0 Vb _ _ _ _ _ _ _ _ _ 0 hR
    rw [hw] at this
    exact cA.ic this (ih _ _ (by omega))
   ·have:=OB cb cx c pl p en r0 l1 k h1 h2 _ h3 hx x0 Vb _ _ _ _ _ _ _ _ _ 0 hR
    rw [hw] at this
    exact cA.ic this (ih _ _ (by omega))
   ·have:=Oy cb cx c pl p en r0 l1 k h1 h2 _ h3 hx x0 Vb _ _ _ _ _ _ _ _ _ 0 hR
    rw [hw] at this
    exact cA.ic this (ih _ _ (by omega))
   ·have:=Ox cb cx c pl p en r0 l1 k h1 h2 _ h3 hx x0 Vb _ _ _ _ _ _ _ _ _ 0 hR
    rw [hw] at this
    exact cA.ic this (ih _ _ (by omega))
theorem Lj (cb cx c pl:List Int) (p:List sH) (en r0 l1:Int) (hb:du cb) (hn:cb.length≤2000) (Sr:pl.length≤20000) (A B:Bool) (hA:pl.any (iW cb 27)=A) (hB:pl.any (iW cb 31)=B):
  cB Xh 4 (.loop (db Tryz.f7 0)) (P9 cb cx pl false false 0) (O2 en r0 l1 c p) (.exit 0) (Qa cx A B) (O2 en r0 l1 c p):=by
 have:=Jh cb cx c pl p en r0 l1 hb hn Sr pl.length 0 false false (by omega)
 rw [List.drop_zero,Bool.false_or,Bool.false_or,hA,hB] at this
 exact cB.gI (by simp) this
theorem zA (cb cx an:List Int) (f:Int) (Ts:aY Xh 9 [] (ax true)) (hg:aY Xh 8 (zQ1 cb cx an f) (ax true)):aY Xh 7 (zQ1 cb cx an f) (ax true):=(aY.ai (d:= .bool true) mixed Tryz.func7 (by kernel_rfl) [aw hg,tF,tF,tF,tT,tT,aw Ts]).to (by first|(simp [wk];done)|(simp [wk];assumption))
theorem Mc (cb cx an:List Int) (f:Int) (Ts:aY Xh 9 [] (ax true)) (hn:2000<((bD cb).length:Int)) (q:Bool) (hg:aY Xh 8 (zQ1 cb cx an f) (ax q)):aY Xh 7 (zQ1 cb cx an f) (ax true):=by
 cases q
 ·exact (aY.ai (d:= .bool true) mixed Tryz.func7 (by kernel_rfl) [aw hg,tT,tT,tT,tF,tC (bJ 2000 (bg (by omega:¬(↑(Xj (bD cb)):Int)<2001))),aw Ts]).to (by first|(simp [wk];done)|(simp [wk];assumption))
 ·exact (aY.ai (d:= .bool true) mixed Tryz.func7 (by kernel_rfl) [aw hg,tF,tF,tF,tT,tT,aw Ts]).to (by first|(simp [wk];done)|(simp [wk];assumption))
theorem vf (cb cx an:List Int) (f:Int) (Ts:aY Xh 9 [] (ax true)) (hn:((bD cb).length:Int)≤2000) (hg:aY Xh 8 (zQ1 cb cx an f) (ax false)) (Th:aY Xh 10 (zQ1 cb cx an f) (.aQ [.agg [aj 0,aB 0,.bc .tight 0 [],.bc .tight 0 [],ao 0],ao 2])):aY Xh 7 (zQ1 cb cx an f) (ax true):=(aY.ai (d:= .bool true) mixed Tryz.func7 (by kernel_rfl) [aw hg,tT,tT,tT,tF,tC (bJ 2000 (bT (Xl hn))),aw Th,tT,aw Ts]).to (by first|(simp [wk];done)|(simp [wk];assumption))
theorem J9 (cb cx an:List Int) (f:Int) (Ts:aY Xh 9 [] (ax true)) (hn:((bD cb).length:Int)≤2000) (en r0 l1:Int) (c pl:List Int) (p:List sH) (hb:du cb) (TH:cb.length≤2000) (Sr:pl.length≤20000) (V8:(bD c).length=(bD cx).length) (lx:(bD cx).length≤256) (hc:bZ (bD cx)=some (bD cx)) (bx:(bD cx).all isByte=true) (hA:pl.any (iW cb 27)=true) (hB:pl.any (iW cb 31)=true) (hg:aY Xh 8 (zQ1 cb cx an f) (ax false)) (Th:aY Xh 10 (zQ1 cb cx an f) (.aQ [.agg [aj en,aB r0,aZ 1 (bD c),aZ 3 (fi p),ao l1],ao 0])) (hp:aY Xh 16 (zQ1 cb cx an f) (aZ 1 (iD pl))):aY Xh 7 (zQ1 cb cx an f) (ax true):=by
 have c0:= @Lj (cb) (cx) (c) (pl) (p) (en) (r0) (l1) hb TH Sr _ _ hA hB
 exact (aY.ai (d:= .bool true) mixed Tryz.func7 (by kernel_rfl) ([aw hg,tT,tT,tT,tF,tC (bJ 2000 (bT (Xl hn))),aw Th,tF,aw hp,.head ⟨[0,1,8,9,11,12,13,14],[2],[]⟩ _ _ _ _ _ _ _ c0,tF,tF,tF,tF,tF,tF]++(bK 16 65415)++ [tT,tC (eT (by ((try simp only [Xu,Xx,XE,aU,bP,cq,ck,gu,eI] at*);omega):((↑(Xj (bD c)):Int)==(↑(Xj (bD cx)):Int))=true)),aw Ts,tC (by ((try simp only [Xu,Xx,XE,aU,bP,cq,ck,gu,eI] at*);omega):((↑(Xj (bD c)):Int)==(↑(Xj (bD cx)):Int))=true)])).to (by first|(simp [wk];done)|(simp [wk];assumption))
theorem Ka (cb cx an:List Int) (f:Int) (Ts:aY Xh 9 [] (ax true)) (hn:((bD cb).length:Int)≤2000) (en r0 l1:Int) (c pl:List Int) (p:List sH) (hb:du cb) (TH:cb.length≤2000) (Sr:pl.length≤20000) (V8:(bD c).length=(bD cx).length) (lx:(bD cx).length≤256) (hc:bZ (bD cx)=some (bD cx)) (bx:(bD cx).all isByte=true) (hA:pl.any (iW cb 27)=true) (hB:pl.any (iW cb 31)=false) (hp0:(fi p).length=0) (hg:aY Xh 8 (zQ1 cb cx an f) (ax false)) (Th:aY Xh 10 (zQ1 cb cx an f) (.aQ [.agg [aj en,aB r0,aZ 1 (bD c),aZ 3 (fi p),ao l1],ao 0])) (hp:aY Xh 16 (zQ1 cb cx an f) (aZ 1 (iD pl))):aY Xh 7 (zQ1 cb cx an f) (ax true):=by
 have c0:= @Lj (cb) (cx) (c) (pl) (p) (en) (r0) (l1) hb TH Sr _ _ hA hB
 exact (aY.ai (d:= .bool true) mixed Tryz.func7 (by kernel_rfl) ([aw hg,tT,tT,tT,tF,tC (bJ 2000 (bT (Xl hn))),aw Th,tF,aw hp,.head ⟨[0,1,8,9,11,12,13,14],[2],[]⟩ _ _ _ _ _ _ _ c0,tF,tF,tF,tF,tF,tF]++(bK 10 767++ [tC (eT (cP 0 true (by ((try simp only [Xu,Xx,XE,aU,bP,cq,ck,gu,eI] at*);omega):(↑(Xj (fi p)):Int)=(0:Int)))),tC (eT (cP 0 true (by ((try simp only [Xu,Xx,XE,aU,bP,cq,ck,gu,eI] at*);omega):(↑(Xj (fi p)):Int)=(0:Int)))),tC (eT (cP 0 true (by ((try simp only [Xu,Xx,XE,aU,bP,cq,ck,gu,eI] at*);omega):(↑(Xj (fi p)):Int)=(0:Int)))),tC (eT (cP 0 true (by ((try simp only [Xu,Xx,XE,aU,bP,cq,ck,gu,eI] at*);omega):(↑(Xj (fi p)):Int)=(0:Int)))),tC (eT (cP 0 true (by ((try simp only [Xu,Xx,XE,aU,bP,cq,ck,gu,eI] at*);omega):(↑(Xj (fi p)):Int)=(0:Int)))),tC (eT (cP 0 true (by ((try simp only [Xu,Xx,XE,aU,bP,cq,ck,gu,eI] at*);omega):(↑(Xj (fi p)):Int)=(0:Int))))])++ [tC (cP 0 true (by ((try simp only [Xu,Xx,XE,aU,bP,cq,ck,gu,eI] at*);omega):(↑(Xj (fi p)):Int)=(0:Int))),tC (eT (by ((try simp only [Xu,Xx,XE,aU,bP,cq,ck,gu,eI] at*);omega):((↑(Xj (bD c)):Int)==(↑(Xj (bD cx)):Int))=true)),aw Ts,tC (by ((try simp only [Xu,Xx,XE,aU,bP,cq,ck,gu,eI] at*);omega):((↑(Xj (bD c)):Int)==(↑(Xj (bD cx)):Int))=true)])).to (by first|(simp [wk];done)|(simp [wk];assumption))
theorem Kb (cb cx an:List Int) (f:Int) (Ts:aY Xh 9 [] (ax true)) (hn:((bD cb).length:Int)≤2000) (en r0 l1:Int) (c pl:List Int) (p:List sH) (hb:du cb) (TH:cb.length≤2000) (Sr:pl.length≤20000) (V8:(bD c).length=(bD cx).length) (lx:(bD cx).length≤256) (hc:bZ (bD cx)=some (bD cx)) (bx:(bD cx).all isByte=true) (hA:pl.any (iW cb 27)=false) (hB:pl.any (iW cb 31)=true) (hg:aY Xh 8 (zQ1 cb cx an f) (ax false)) (Th:aY Xh 10 (zQ1 cb cx an f) (.aQ [.agg [aj en,aB r0,aZ 1 (bD cx),aZ 3 (fi p),ao l1],ao 0])) (hp:aY Xh 16 (zQ1 cb cx an f) (aZ 1 (iD pl))):aY Xh 7 (zQ1 cb cx an f) (ax true):=by
 have c0:= @Lj (cb) (cx) (cx) (pl) (p) (en) (r0) (l1) hb TH Sr _ _ hA hB
 exact (aY.ai (d:= .bool true) mixed Tryz.func7 (by kernel_rfl) ([aw hg,tT,tT,tT,tF,tC (bJ 2000 (bT (Xl hn))),aw Th,tF,aw hp,.head ⟨[0,1,8,9,11,12,13,14],[2],[]⟩ _ _ _ _ _ _ _ c0,tT,tT,tT,tC (v:=true) bx,tT,tT]++ [tC (v:=true) bx,tT,tF,tC (eT (beq_self_eq_true (ByteArray.toList (gk (bD cx))))),tC (eT (beq_self_eq_true (ByteArray.toList (gk (bD cx))))),tF,tF,tF,tF,tC (eT (beq_self_eq_true (ByteArray.toList (gk (bD cx))))),tT,tC (beq_self_eq_true (ByteArray.toList (gk (bD cx)))),tT,tT,tT,tT]++ [tT,tT,tT,tC (eT (beq_self_eq_true ((↑(Xj (bD cx)):Int)))),aw Ts,tC (beq_self_eq_true ((↑(Xj (bD cx)):Int)))])).to (by first|(simp [wk];done)|(simp [wk];assumption))
theorem Kc (cb cx an:List Int) (f:Int) (Ts:aY Xh 9 [] (ax true)) (hn:((bD cb).length:Int)≤2000) (en r0 l1:Int) (c pl:List Int) (p:List sH) (hb:du cb) (TH:cb.length≤2000) (Sr:pl.length≤20000) (V8:(bD c).length=(bD cx).length) (lx:(bD cx).length≤256) (hc:bZ (bD cx)=some (bD cx)) (bx:(bD cx).all isByte=true) (hA:pl.any (iW cb 27)=false) (hB:pl.any (iW cb 31)=false) (hp0:(fi p).length=0) (hg:aY Xh 8 (zQ1 cb cx an f) (ax false)) (Th:aY Xh 10 (zQ1 cb cx an f) (.aQ [.agg [aj en,aB r0,aZ 1 (bD cx),aZ 3 (fi p),ao l1],ao 0])) (hp:aY Xh 16 (zQ1 cb cx an f) (aZ 1 (iD pl))):aY Xh 7 (zQ1 cb cx an f) (ax true):=by
 have c0:= @Lj (cb) (cx) (cx) (pl) (p) (en) (r0) (l1) hb TH Sr _ _ hA hB
 exact (aY.ai (d:= .bool true) mixed Tryz.func7 (by kernel_rfl) ([aw hg,tT,tT,tT,tF,tC (bJ 2000 (bT (Xl hn))),aw Th,tF,aw hp,.head ⟨[0,1,8,9,11,12,13,14],[2],[]⟩ _ _ _ _ _ _ _ c0,tT,tT,tT,tC (v:=true) bx,tT,tT]++ [tC (v:=true) bx,tT,tF,tC (eT (beq_self_eq_true (ByteArray.toList (gk (bD cx))))),tC (eT (beq_self_eq_true (ByteArray.toList (gk (bD cx))))),tT,tT,tT,tT,tC (eT (beq_self_eq_true (ByteArray.toList (gk (bD cx))))),tF,tC (beq_self_eq_true (ByteArray.toList (gk (bD cx)))),tC (eT (cP 0 true (by ((try simp only [Xu,Xx,XE,aU,bP,cq,ck,gu,eI] at*);omega):(↑(Xj (fi p)):Int)=(0:Int)))),tC (eT (cP 0 true (by ((try simp only [Xu,Xx,XE,aU,bP,cq,ck,gu,eI] at*);omega):(↑(Xj (fi p)):Int)=(0:Int)))),tC (eT (cP 0 true (by ((try simp only [Xu,Xx,XE,aU,bP,cq,ck,gu,eI] at*);omega):(↑(Xj (fi p)):Int)=(0:Int)))),tC (eT (cP 0 true (by ((try simp only [Xu,Xx,XE,aU,bP,cq,ck,gu,eI] at*);omega):(↑(Xj (fi p)):Int)=(0:Int))))]++ [tC (eT (cP 0 true (by ((try simp only [Xu,Xx,XE,aU,bP,cq,ck,gu,eI] at*);omega):(↑(Xj (fi p)):Int)=(0:Int)))),tC (eT (cP 0 true (by ((try simp only [Xu,Xx,XE,aU,bP,cq,ck,gu,eI] at*);omega):(↑(Xj (fi p)):Int)=(0:Int)))),tC (cP 0 true (by ((try simp only [Xu,Xx,XE,aU,bP,cq,ck,gu,eI] at*);omega):(↑(Xj (fi p)):Int)=(0:Int))),tC (eT (beq_self_eq_true ((↑(Xj (bD cx)):Int)))),aw Ts,tC (beq_self_eq_true ((↑(Xj (bD cx)):Int)))])).to (by first|(simp [wk];done)|(simp [wk];assumption))
theorem Dt (cb cx an:List Int) (hb:du cb) (f:Int):aY Xh 7 (zQ1 cb cx an f) (ax true):=by
 have W:=zq
 by_cases h1:2000<((bD cb).length:Int)
 ·obtain ⟨q,G⟩:=Nf cb cx an f h1
  exact Mc cb cx an f W h1 q G
 have Tn:((bD cb).length:Int)≤2000:=by omega
 have lc:(bD cb).length≤16384:=by omega
 by_cases hx:400<((bD cx).length:Int)
 ·exact zA cb cx an f W (K0 cb cx an f Tn hx)
 by_cases ha:400<((wD an).length:Int)
 ·exact zA cb cx an f W (K6 cb cx an f Tn (by omega) ha)
 by_cases hf:f≤3000
 case neg=>
  by_cases hg:f≤640064
  ·exact zA cb cx an f W (K4 cb cx an f Tn (by omega) (by omega) (by omega) hg)
  ·have G:=IZ cb cx an f Tn (by omega) (by omega) (by omega)
   by_cases lx:(bD cx).length≤256
   ·exact vf cb cx an f W Tn G (Kf cb cx (wD an) f (dC _) (dC _) (cn _) (cn _) lc lx (by omega))
   ·exact vf cb cx an f W Tn G (Cl cb cx (wD an) f (dC _) (dC _) (cn _) (cn _) lc (by omega))
 have G:=I0 cb cx an f Tn (by omega) (by omega) hf
 by_cases lx:(bD cx).length≤256
 case neg=>exact vf cb cx an f W Tn G (Cl cb cx (wD an) f (dC _) (dC _) (cn _) (cn _) lc (by omega))
 by_cases f0:0≤f
 case neg=>exact vf cb cx an f W Tn G (Kd cb cx (wD an) f (dC _) (dC _) (cn _) (cn _) lc lx (by omega))
 obtain ⟨n,rfl⟩:=Int.eq_ofNat_of_zero_le f0
 have V9:cb.length≤16384:=by rw [aK] at lc;exact lc
 have VF:cb.length≤2000:=by rw [aK] at Tn;omega
 have lx2:cx.length≤256:=by rw [aK] at lx;exact lx
 have R1:=vh cb cx an n hb V9 lx2 (by omega)
 have hv:=GK cb n (mh cx an)
 have VN:(ln (kq cb n (mh cx an))).length≤20000:=by
  have:=vW (m8 (kq cb n (mh cx an)) (Xg 16386 false)) 0
  rw [mA,List.length_replicate] at this
  unfold ln
  omega
 have SD:=fun x=>HP hv x
 have Sj:((ln (kq cb n (mh cx an))).any (iW cb 27)=false)→(gZ cb n (mh cx an)).1.cx=cx:=fun h=>Hg V9 n (mh cx an) fun x hx=>by
  rw [List.any_eq_false] at h
  have:=h x ((SD x).2 hx)
  simpa using this
 have Tk:((ln (kq cb n (mh cx an))).any (iW cb 31)=false)→(gZ cb n (mh cx an)).1.tr= []:=fun h=>Cj V9 n (mh cx an) fun x hx=>by
  rw [List.any_eq_false] at h
  have:=h x ((SD x).2 hx)
  simpa using this
 have hlen:=(qf cb n (mh cx an)).1
 generalize hV:kq cb n (mh cx an)=RP at*
 cases hR:gZ cb n (mh cx an) with
 |mk E lf=>
 rw [hR] at R1 Sj Tk hlen
 simp only at Sj Tk hlen
 have P:aY Xh 16 [aZ 1 (bD cb),aZ 1 (bD cx),aZ 1 (wD an),ao (n:Int)] (aZ 1 (iD (ln RP))):=by
  by_cases he:E.en=0
  ·exact KD cb cx an n E lf RP f0 (by omega) hb lc lx (by omega) hR hV (dC _) (dC _) (cn _) (cn _) he
  ·exact KC cb cx an n E lf RP f0 (by omega) hb lc lx (by omega) hR hV (dC _) (dC _) (cn _) (cn _) he
 have TA:(bD E.cx).length=(bD cx).length:=by rw [aK,aK];exact hlen
 cases hA:(ln RP).any (iW cb 27) with
 |true=>
  cases hB:(ln RP).any (iW cb 31) with
  |true=>exact J9 cb cx an n W Tn E.en (zp E) (lf:Int) E.cx (ln RP) E.tr hb VF VN TA lx (dC _) (cn _) hA hB G R1 P
  |false=>exact Ka cb cx an n W Tn E.en (zp E) (lf:Int) E.cx (ln RP) E.tr hb VF VN TA lx (dC _) (cn _) hA hB (by rw [Tk hB];rfl) G R1 P
 |false=>
  have hc:=Sj hA
  have R2:aY Xh 10 [aZ 1 (bD cb),aZ 1 (bD cx),aZ 1 (wD an),ao (n:Int)] (.aQ [.agg [aj E.en,aB (zp E),aZ 1 (bD cx),aZ 3 (fi E.tr),ao (lf:Int)],ao 0]):=by
   have:=R1
   unfold MH at this
   simp only at this
   rw [hc] at this
   exact this
  cases hB:(ln RP).any (iW cb 31) with
  |true=>exact Kb cb cx an n W Tn E.en (zp E) (lf:Int) cx (ln RP) E.tr hb VF VN rfl lx (dC _) (cn _) hA hB G R2 P
  |false=>exact Kc cb cx an n W Tn E.en (zp E) (lf:Int) cx (ln RP) E.tr hb VF VN rfl lx (dC _) (cn _) hA hB (by rw [Tk hB];rfl) G R2 P
end Go.Proofs.YtbfpahigdpigpaaGreat
