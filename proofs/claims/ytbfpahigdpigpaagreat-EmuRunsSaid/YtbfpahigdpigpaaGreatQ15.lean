import Derived.Test.YtbfpahigdpigpaaGreatQ02
import Derived.Test.YtbfpahigdpigpaaGreatQ08
import Derived.Test.YtbfpahigdpigpaaGreatQ12
import Derived.Test.YtbfpahigdpigpaaGreatQ13
import Derived.Test.YtbfpahigdpigpaaGreatQ14
open List renaming replicate→Z7,length→aaa,getD_eq_getElem?_getD→aaf,range→aao,getElem?_map→aau,length_cons→aaw,getElem?_eq_getElem→aaN
open BitVec renaming ofInt→Z8
open Go.Proofs.Tryz renaming prog→Z9
open Bool renaming and_eq_true→aae,or_eq_true→aax,not_eq_true'→aaK,not_eq_false'→aaU
open Int renaming not_lt→aah,toNat→aal,fdiv_eq_ediv_of_nonneg→aaL
open Option renaming map_eq_some_iff→aat
open Go renaming IntKind→abz
/- Contracts and plain laws that a statement's proof leans on (texts merged:R1f,ZESM,DAD,EMA,EvZ,EMB,DMA0,DMA,DMB,DMC,DN1,DMD,XQ1,XQ1A,XQ2,XQ2A,XQN). -/
set_option linter.unusedVariables false
set_option linter.unusedSimpArgs false
set_option maxRecDepth 100000
set_option maxHeartbeats 8000000
namespace Go.Proofs.YtbfpahigdpigpaaGreat
open Go Go.Ev
def oj (Ua:Int):Prop:= ∀(m:aq) (w dst src base af aj cc ld:Int) (d0:0≤dst) (d1:dst≤15) (s0:0≤src) (s1:src≤15) (b0:0≤base) (b1:base≤15) (hm:bC Ua w dst src base af aj cc=true) (hw:bG w=true),aP Z9 57 ([m.d,xD Ua w dst src base af aj cc,au ld]) (.aL [(gu (m.at (u64 (m.pc+u64 (ck Ua w dst src base af aj cc)))) ⟨Ua,w,dst,src,base,af,aj,cc⟩ ld).1.d,av 0])
theorem Cf:oj 9:=by
 intro m w dst src base af aj cc ld d0 d1 s0 s1 b0 b1 hm hw
 have c0:= @a8 9 w dst src base af aj cc
 rw [hm] at c0
 have c1:= @cQ 9 w dst src base af aj cc (by decide)
 have c2:= @aG 9
 have c3:= @An w (rg (aq.rl m) dst) (abz.wrap abz.u64 aj) hw
 have c4:= @dN
 have c5:= @EV w (rg (aq.rl m) dst) (abz.wrap abz.u64 aj) hw
 exact (lr (d:= .aL [(gu (m.at (u64 (m.pc+u64 (ck 9 w dst src base af aj cc)))) ⟨9,w,dst,src,base,af,aj,cc⟩ ld).1.d,av 0]) ([aw c0,tF,aw c1,aO,tF,tT,tT,.cX _ true (cu d0 d1),.get _ _ _ (@bj m dst ((fT m (de m 9 w dst src base af aj cc) [])) d0 d1),aO,aw c2,tT,tT,.aU [(0,ay (aq.cw m (de m 9 w dst src base af aj cc) [])),(1,ay [ao 9,ao w,ao dst,ao src,ao base,av af,av aj,ao cc]),(2,ay zC)],aw c3,aO,aw c4,tT,aw c5]++Z7 13 tT++ [.cX _ true (cu d0 d1),.ej _ _ _ _ (@bO m dst (ft 0 w (rg (aq.rl m) dst) (abz.wrap abz.u64 aj)) ([ax true,ax (yL w (rg (aq.rl m) dst) (abz.wrap abz.u64 aj)),ax (aI (u64 (rg (aq.rl m) dst+abz.wrap abz.u64 aj)) w==0),ax (fG (u64 (rg (aq.rl m) dst+abz.wrap abz.u64 aj)) w),ax (yK w (rg (aq.rl m) dst) (abz.wrap abz.u64 aj)),au (de m 9 w dst src base af aj cc)]) d0 d1)]) (by kernel_rfl))
theorem Ab:oj 10:=by
 intro m w dst src base af aj cc ld d0 d1 s0 s1 b0 b1 hm hw
 have c0:= @a8 10 w dst src base af aj cc
 rw [hm] at c0
 have c1:= @cQ 10 w dst src base af aj cc (by decide)
 have c2:= @aG 10
 have c3:= @Am w (rg (aq.rl m) dst) (abz.wrap abz.u64 aj) hw
 have c4:= @dN
 have c5:= @mB w (ft 4 w (rg (aq.rl m) dst) (abz.wrap abz.u64 aj)) hw
 exact (lr (d:= .aL [(gu (m.at (u64 (m.pc+u64 (ck 10 w dst src base af aj cc)))) ⟨10,w,dst,src,base,af,aj,cc⟩ ld).1.d,av 0]) ([aw c0,tF,aw c1,aO,tF,tF,tF,tT,tT,.cX _ true (cu d0 d1),.get _ _ _ (@bj m dst ((fT m (de m 10 w dst src base af aj cc) [])) d0 d1),aO,aw c2,tT,tT,.aU [(0,ay (aq.cw m (de m 10 w dst src base af aj cc) [])),(1,ay [ao 10,ao w,ao dst,ao src,ao base,av af,av aj,ao cc]),(2,ay zC)],aw c3,aO,aw c4,tF,tF,tT,tT,aw c5]++Z7 13 tT++ [.cX _ true (cu d0 d1),.ej _ _ _ _ (@bO m dst (ft 4 w (rg (aq.rl m) dst) (abz.wrap abz.u64 aj)) ([ax true,ax false,ax (aI (ft 4 w (rg (aq.rl m) dst) (abz.wrap abz.u64 aj)) w==0),ax (fG (ft 4 w (rg (aq.rl m) dst) (abz.wrap abz.u64 aj)) w),ax false,au (de m 10 w dst src base af aj cc)]) d0 d1)]) (by kernel_rfl))
theorem Aa:oj 11:=by
 intro m w dst src base af aj cc ld d0 d1 s0 s1 b0 b1 hm hw
 have c0:= @a8 11 w dst src base af aj cc
 rw [hm] at c0
 have c1:= @cQ 11 w dst src base af aj cc (by decide)
 have c2:= @aG 11
 have c3:= @oS w (rg (aq.rl m) dst) (abz.wrap abz.u64 aj) hw
 have c4:= @dN
 have c5:= @mB w (ft 5 w (rg (aq.rl m) dst) (abz.wrap abz.u64 aj)) hw
 exact (lr (d:= .aL [(gu (m.at (u64 (m.pc+u64 (ck 11 w dst src base af aj cc)))) ⟨11,w,dst,src,base,af,aj,cc⟩ ld).1.d,av 0]) (([aw c0,tF,aw c1,aO]++cr 8 224++ [.cX _ true (cu d0 d1),.get _ _ _ (@bj m dst ((fT m (de m 11 w dst src base af aj cc) [])) d0 d1),aO,aw c2,tT,tT,.aU [(0,ay (aq.cw m (de m 11 w dst src base af aj cc) [])),(1,ay [ao 11,ao w,ao dst,ao src,ao base,av af,av aj,ao cc]),(2,ay zC)],aw c3,aO,aw c4,tF,tF,tF,tT,tT,aw c5])++Z7 13 tT++ [.cX _ true (cu d0 d1),.ej _ _ _ _ (@bO m dst (ft 5 w (rg (aq.rl m) dst) (abz.wrap abz.u64 aj)) ([ax true,ax false,ax (aI (ft 5 w (rg (aq.rl m) dst) (abz.wrap abz.u64 aj)) w==0),ax (fG (ft 5 w (rg (aq.rl m) dst) (abz.wrap abz.u64 aj)) w),ax false,au (de m 11 w dst src base af aj cc)]) d0 d1)]) (by kernel_rfl))
theorem zZ:oj 13:=by
 intro m w dst src base af aj cc ld d0 d1 s0 s1 b0 b1 hm hw
 have c0:= @a8 13 w dst src base af aj cc
 rw [hm] at c0
 have c1:= @cQ 13 w dst src base af aj cc (by decide)
 have c2:= @aG 13
 have c3:= @uN w (rg (aq.rl m) dst) (abz.wrap abz.u64 aj) hw
 have c4:= @dN
 have c5:= @mB w (ft 10 w (rg (aq.rl m) dst) (abz.wrap abz.u64 aj)) hw
 exact (lr (d:= .aL [(gu (m.at (u64 (m.pc+u64 (ck 13 w dst src base af aj cc)))) ⟨13,w,dst,src,base,af,aj,cc⟩ ld).1.d,av 0]) ([aw c0,tF,aw c1,aO]++Z7 13 tF++ [tT,tT,.cX _ true (cu d0 d1),.get _ _ _ (@bj m dst ((fT m (de m 13 w dst src base af aj cc) [])) d0 d1),aO,aw c2,tT,tT,.aU [(0,ay (aq.cw m (de m 13 w dst src base af aj cc) [])),(1,ay [ao 13,ao w,ao dst,ao src,ao base,av af,av aj,ao cc]),(2,ay zC)],aw c3,aO,aw c4,tF,tF,tF,tF,tT,aw c5]++Z7 13 tT++ [.cX _ true (cu d0 d1),.ej _ _ _ _ (@bO m dst (ft 10 w (rg (aq.rl m) dst) (abz.wrap abz.u64 aj)) ([ax true,ax false,ax (aI (ft 10 w (rg (aq.rl m) dst) (abz.wrap abz.u64 aj)) w==0),ax (fG (ft 10 w (rg (aq.rl m) dst) (abz.wrap abz.u64 aj)) w),ax false,au (de m 13 w dst src base af aj cc)]) d0 d1)]) (by kernel_rfl))
theorem zY:oj 14:=by
 intro m w dst src base af aj cc ld d0 d1 s0 s1 b0 b1 hm hw
 have c0:= @a8 14 w dst src base af aj cc
 rw [hm] at c0
 have c1:= @cQ 14 w dst src base af aj cc (by decide)
 have c2:= @aG 14
 have c3:= @oT w (rg (aq.rl m) dst) (abz.wrap abz.u64 aj) hw
 have c4:= @dN
 have c5:= @oJ w (rg (aq.rl m) dst) (abz.wrap abz.u64 aj) hw
 exact (lr (d:= .aL [(gu (m.at (u64 (m.pc+u64 (ck 14 w dst src base af aj cc)))) ⟨14,w,dst,src,base,af,aj,cc⟩ ld).1.d,av 0]) ([aw c0,tF,aw c1,aO]++Z7 11 tF++ [tT,tT,.cX _ true (cu d0 d1),.get _ _ _ (@bj m dst ((fT m (de m 14 w dst src base af aj cc) [])) d0 d1),aO,aw c2,tT,tT,.aU [(0,ay (aq.cw m (de m 14 w dst src base af aj cc) [])),(1,ay [ao 14,ao w,ao dst,ao src,ao base,av af,av aj,ao cc]),(2,ay zC)],aw c3,aO,aw c4,tF,tT,aw c5,tT,tT,tT,tT]++Z7 9 tF) (by kernel_rfl))
theorem zW:oj 15:=by
 intro m w dst src base af aj cc ld d0 d1 s0 s1 b0 b1 hm hw
 have c0:= @a8 15 w dst src base af aj cc
 rw [hm] at c0
 have c1:= @cQ 15 w dst src base af aj cc (by decide)
 have c2:= @aG 15
 have c3:= @oS w (rg (aq.rl m) dst) (abz.wrap abz.u64 aj) hw
 have c4:= @dN
 have c5:= @mB w (ft 5 w (rg (aq.rl m) dst) (abz.wrap abz.u64 aj)) hw
 exact (lr (d:= .aL [(gu (m.at (u64 (m.pc+u64 (ck 15 w dst src base af aj cc)))) ⟨15,w,dst,src,base,af,aj,cc⟩ ld).1.d,av 0]) (([aw c0,tF,aw c1,aO]++cr 9 384++ [.cX _ true (cu d0 d1),.get _ _ _ (@bj m dst ((fT m (de m 15 w dst src base af aj cc) [])) d0 d1),aO,aw c2,tT,tT,.aU [(0,ay (aq.cw m (de m 15 w dst src base af aj cc) [])),(1,ay [ao 15,ao w,ao dst,ao src,ao base,av af,av aj,ao cc]),(2,ay zC)],aw c3,aO,aw c4,tF,tF,tF,tT,tT,aw c5])++Z7 12 tT++ [tF]) (by kernel_rfl))
theorem zV:oj 16:=by
 intro m w dst src base af aj cc ld d0 d1 s0 s1 b0 b1 hm hw
 have c0:= @a8 16 w dst src base af aj cc
 rw [hm] at c0
 have c1:= @cQ 16 w dst src base af aj cc (by decide)
 have c2:= @aG 16
 have c3:= @J2 w (rg (aq.rl m) dst) (rg (aq.rl m) src) hw
 have c4:= @dN
 exact (lr (d:= .aL [(gu (m.at (u64 (m.pc+u64 (ck 16 w dst src base af aj cc)))) ⟨16,w,dst,src,base,af,aj,cc⟩ ld).1.d,av 0]) ([aw c0,tF,aw c1,aO]++Z7 14 tF++ [tT,tT,.cX _ true (cu d0 d1),.get _ _ _ (@bj m dst ((fT m (de m 16 w dst src base af aj cc) [])) d0 d1),aO,aw c2,tF,tF,tF,.cX _ true (cu s0 s1),.get _ _ _ (@bj m src ((fT m (de m 16 w dst src base af aj cc) [])) s0 s1),.aU [(0,ay (aq.cw m (de m 16 w dst src base af aj cc) [])),(1,ay [ao 16,ao w,ao dst,ao src,ao base,av af,av aj,ao cc]),(2,ay zC)],aw c3,aO,aw c4,tF,tF,tF,tF,tF]++Z7 13 tT++ [.cX _ true (cu d0 d1),.ej _ _ _ _ (@bO m dst (ft 2 w (rg (aq.rl m) dst) (rg (aq.rl m) src)) ([ax false,ax false,ax false,ax false,ax false,au (de m 16 w dst src base af aj cc)]) d0 d1)]) (by kernel_rfl))
theorem Ce (m:aq) (x:XS) (ld:Int) (ho:x.op≤127):aP Z9 57 [m.d,x.d,au ld] (.aL [(fg m x ld).1.d,av (fg m x ld).2]):=by
 cases hm:x.may
 ·rw [Bg hm]
  obtain ⟨q0,q1,q2,q3,q4,q5,q6,q7,q8,q9,cZ,dj,dq,dp,dn,di,fk,fc,fz,fs,fo,pc⟩:=m
  obtain ⟨op,w,dst,src,base,af,aj,cc⟩:=x
  exact zF q0 q1 q2 q3 q4 q5 q6 q7 q8 q9 cZ dj dq dp dn di pc fk fc fz fs fo op w dst src base af aj cc ld ho hm
 ·rw [qh hm]
  obtain ⟨op,w,dst,src,base,af,aj,cc⟩:=x
  replace hm:bC op w dst src base af aj cc=true:=hm
  have VO:aA op≠0:=by
   intro e
   have hs:=(dw hm).2
   rw [e] at hs
   simp [iy] at hs
  obtain ⟨⟨d0,d1,s0,s1,b0,b1,_⟩,hs⟩:=dw hm
  rcases gQ VO with rfl|rfl|rfl|rfl|rfl|rfl|rfl|rfl|rfl|rfl|rfl|rfl|rfl|rfl|rfl|rfl|rfl|rfl|rfl|rfl|rfl|rfl|rfl|rfl|rfl|rfl|rfl|rfl|rfl|rfl|rfl|rfl
  ·exact Co m _ _ _ _ _ _ _ _ d0 d1 s0 s1 b0 b1 hm (bz hs (by decide))
  ·exact Cn m _ _ _ _ _ _ _ _ d0 d1 s0 s1 b0 b1 hm (bz hs (by decide))
  ·exact Cm m _ _ _ _ _ _ _ _ d0 d1 s0 s1 b0 b1 hm (bz hs (by decide))
  ·exact Cl m _ _ _ _ _ _ _ _ d0 d1 s0 s1 b0 b1 hm (bz hs (by decide))
  ·exact Ck m _ _ _ _ _ _ _ _ d0 d1 s0 s1 b0 b1 hm (bz hs (by decide))
  ·exact Cj m _ _ _ _ _ _ _ _ d0 d1 s0 s1 b0 b1 hm (bz hs (by decide))
  ·exact Ci m _ _ _ _ _ _ _ _ d0 d1 s0 s1 b0 b1 hm (bz hs (by decide))
  ·exact Ch m _ _ _ _ _ _ _ _ d0 d1 s0 s1 b0 b1 hm (bz hs (by decide))
  ·exact Cg m _ _ _ _ _ _ _ _ d0 d1 s0 s1 b0 b1 hm (bz hs (by decide))
  ·exact Cf m _ _ _ _ _ _ _ _ d0 d1 s0 s1 b0 b1 hm (bz hs (by decide))
  ·exact Ab m _ _ _ _ _ _ _ _ d0 d1 s0 s1 b0 b1 hm (bz hs (by decide))
  ·exact Aa m _ _ _ _ _ _ _ _ d0 d1 s0 s1 b0 b1 hm (bz hs (by decide))
  ·exact z7 m _ _ _ _ _ _ _ _ d0 d1 s0 s1 b0 b1 hm (bz hs (by decide))
  ·exact zZ m _ _ _ _ _ _ _ _ d0 d1 s0 s1 b0 b1 hm (bz hs (by decide))
  ·exact zY m _ _ _ _ _ _ _ _ d0 d1 s0 s1 b0 b1 hm (bz hs (by decide))
  ·exact zW m _ _ _ _ _ _ _ _ d0 d1 s0 s1 b0 b1 hm (bz hs (by decide))
  ·exact zV m _ _ _ _ _ _ _ _ d0 d1 s0 s1 b0 b1 hm (bz hs (by decide))
  ·exact zU m _ _ _ _ _ _ _ _ d0 d1 s0 s1 b0 b1 hm (bz hs (by decide))
  ·exact zT m _ _ _ _ _ _ _ _ d0 d1 s0 s1 b0 b1 hm (bz hs (by decide))
  ·exact zS m _ _ _ _ _ _ _ _ d0 d1 s0 s1 b0 b1 hm (bz hs (by decide))
  ·exact zR m _ _ _ _ _ _ _ _ d0 d1 s0 s1 b0 b1 hm (bz hs (by decide))
  ·exact zQ m _ _ _ _ _ _ _ _ d0 d1 s0 s1 b0 b1 hm (bz hs (by decide))
  ·exact zP m _ _ _ _ _ _ _ _ d0 d1 s0 s1 b0 b1 hm (bz hs (by decide))
  ·exact zO m _ _ _ _ _ _ _ _ d0 d1 s0 s1 b0 b1 hm (bz hs (by decide))
  ·obtain ⟨q0,q1,q2,q3,q4,q5,q6,q7,q8,q9,cZ,dj,dq,dp,dn,di,fk,fc,fz,fs,fo,pc⟩:=m
   cases hd:(aI (rg [q0,q1,q2,q3,q4,q5,q6,q7,q8,q9,cZ,dj,dq,dp,dn,di] dst) w==0)
   ·cases hz:(aI q2 w==0)
    ·have e:gu ((⟨q0,q1,q2,q3,q4,q5,q6,q7,q8,q9,cZ,dj,dq,dp,dn,di,fk,fc,fz,fs,fo,pc⟩:aq).at (u64 (pc+u64 (XS.len ⟨24,w,dst,src,base,af,aj,cc⟩)))) ⟨24,w,dst,src,base,af,aj,cc⟩ ld=(.zero,20):=by
      show (match (aI (rg [q0,q1,q2,q3,q4,q5,q6,q7,q8,q9,cZ,dj,dq,dp,dn,di] dst) w==0:Bool) with|true=>((aq.zero,20):aq×Int)|false=>match (aI q2 w==0:Bool) with|false=>(.zero,20)|true=>_)=_
      rw [hd,hz]
     rw [e]
     exact w8 q0 q1 q2 q3 q4 q5 q6 q7 q8 q9 cZ dj dq dp dn di pc fk fc fz fs fo w dst src base af aj cc ld d0 d1 s0 s1 b0 b1 hm (bz hs (by decide)) hd hz
    ·have e:gu ((⟨q0,q1,q2,q3,q4,q5,q6,q7,q8,q9,cZ,dj,dq,dp,dn,di,fk,fc,fz,fs,fo,pc⟩:aq).at (u64 (pc+u64 (XS.len ⟨24,w,dst,src,base,af,aj,cc⟩)))) ⟨24,w,dst,src,base,af,aj,cc⟩ ld=(⟨u64 ((aI q0 w).tdiv (aI (rg [q0,q1,q2,q3,q4,q5,q6,q7,q8,q9,cZ,dj,dq,dp,dn,di] dst) w)),q1,(aI q0 w).tmod (aI (rg [q0,q1,q2,q3,q4,q5,q6,q7,q8,q9,cZ,dj,dq,dp,dn,di] dst) w),q3,q4,q5,q6,q7,q8,q9,cZ,dj,dq,dp,dn,di,false,false,false,false,false,u64 (pc+u64 (XS.len ⟨24,w,dst,src,base,af,aj,cc⟩))⟩,0):=by
      show (match (aI (rg [q0,q1,q2,q3,q4,q5,q6,q7,q8,q9,cZ,dj,dq,dp,dn,di] dst) w==0:Bool) with|true=>((aq.zero,20):aq×Int)|false=>match (aI q2 w==0:Bool) with|false=>(.zero,20)|true=>_)=_
      rw [hd,hz]
      rfl
     rw [e]
     exact zN q0 q1 q2 q3 q4 q5 q6 q7 q8 q9 cZ dj dq dp dn di pc fk fc fz fs fo w dst src base af aj cc ld d0 d1 s0 s1 b0 b1 hm (bz hs (by decide)) hd hz
   ·have e:gu ((⟨q0,q1,q2,q3,q4,q5,q6,q7,q8,q9,cZ,dj,dq,dp,dn,di,fk,fc,fz,fs,fo,pc⟩:aq).at (u64 (pc+u64 (XS.len ⟨24,w,dst,src,base,af,aj,cc⟩)))) ⟨24,w,dst,src,base,af,aj,cc⟩ ld=(.zero,20):=by
     show (match (aI (rg [q0,q1,q2,q3,q4,q5,q6,q7,q8,q9,cZ,dj,dq,dp,dn,di] dst) w==0:Bool) with|true=>((aq.zero,20):aq×Int)|false=>match (aI q2 w==0:Bool) with|false=>(.zero,20)|true=>_)=_
     rw [hd]
    rw [e]
    exact w9 q0 q1 q2 q3 q4 q5 q6 q7 q8 q9 cZ dj dq dp dn di pc fk fc fz fs fo w dst src base af aj cc ld d0 d1 s0 s1 b0 b1 hm (bz hs (by decide)) hd
  ·obtain ⟨q0,q1,q2,q3,q4,q5,q6,q7,q8,q9,cZ,dj,dq,dp,dn,di,fk,fc,fz,fs,fo,pc⟩:=m
   cases fk
   ·exact w7 q0 q1 q2 q3 q4 q5 q6 q7 q8 q9 cZ dj dq dp dn di pc fc fz fs fo w dst src base af aj cc ld d0 d1 s0 s1 b0 b1 hm (bz hs (by decide)) (x7 hs)
   ·exact zM q0 q1 q2 q3 q4 q5 q6 q7 q8 q9 cZ dj dq dp dn di pc fc fz fs fo w dst src base af aj cc ld d0 d1 s0 s1 b0 b1 hm (bz hs (by decide)) (x7 hs)
  ·exact zL m _ _ _ _ _ _ _ _ d0 d1 s0 s1 b0 b1 hm (by rw [show aA 26=7 from rfl] at hs;simp [iy] at hs;exact hs.1)
  ·exact zK m _ _ _ _ _ _ _ _ d0 d1 s0 s1 b0 b1 hm
  ·exact zJ m _ _ _ _ _ _ _ _ d0 d1 s0 s1 b0 b1 hm
  ·obtain ⟨q0,q1,q2,q3,q4,q5,q6,q7,q8,q9,cZ,dj,dq,dp,dn,di,fk,fc,fz,fs,fo,pc⟩:=m
   cases fk
   ·exact w6 q0 q1 q2 q3 q4 q5 q6 q7 q8 q9 cZ dj dq dp dn di pc fc fz fs fo w dst src base af aj cc ld d0 d1 s0 s1 b0 b1 hm (ri hs)
   ·exact zI q0 q1 q2 q3 q4 q5 q6 q7 q8 q9 cZ dj dq dp dn di pc fc fz fs fo w dst src base af aj cc ld d0 d1 s0 s1 b0 b1 hm (ri hs)
  ·exact zH m _ _ _ _ _ _ _ _ d0 d1 s0 s1 b0 b1 hm
  ·obtain ⟨q0,q1,q2,q3,q4,q5,q6,q7,q8,q9,cZ,dj,dq,dp,dn,di,fk,fc,fz,fs,fo,pc⟩:=m
   exact zG ⟨q0,q1,q2,q3,q4,q5,q6,q7,q8,q9,cZ,dj,dq,dp,dn,di,fk,fc,fz,fs,fo,pc⟩ w dst src base af aj cc ld d0 d1 s0 s1 b0 b1 hm
theorem GN (m:aq) (w dst src base af aj TY:Int) (d0:0≤dst) (d1:dst≤15) (s0:0≤src) (s1:src≤15) (b0:0≤base) (b1:base≤15) (w0:0≤w) (w1:w≤64) (hm:bC 26 w dst src base af aj TY=true):aP Z9 52 ([.agg (eW m),xD 26 w dst src base af aj TY]) (.aL [au (u64 (rg m.rl base+u64 af)),av (w / 8),ax true]):=by
 have c0:= @a8 ((26:Int)) (w) (dst) (src) (base) (af) (aj) (TY)
 exact (aP.ai (d:= .aL [au (abz.wrap abz.u64 (rg (aq.rl m) base+abz.wrap abz.u64 af)),av (abz.i64.wrap (Int.tdiv (abz.wrap abz.i64 w) (8:Int))),ax true]) mixed Tryz.func52 (by kernel_rfl) [aw c0,tC (nt hm),tT,tT,.cX (decide ((0:Int)≤base∧base<(↑(16:Nat):Int))) true (by ((try simp only [dk,bo,aN,bN,bS,cI,cz,ki,fO,bne_eq_false_iff_eq,aaK,aaU,aae,aax] at*);omega)),.get _ _ _ (@bj (m) (base) ([ax (aq.fk m),ax (aq.fc m),ax (aq.fz m),ax (aq.fs m),ax (aq.fo m),au (aq.pc m)]) b0 b1)]).to (by simp only [wk,bf,ey,D.int.injEq,fm];refine ⟨rfl,?_⟩;first|rfl|(rw [aN,Rx];omega)|(rw [show abz.i64.wrap w=w by rw [aN];omega,Int.tdiv_eq_ediv_of_nonneg w0,aN];omega))
theorem GM (m:aq) (w dst src base af aj TY:Int) (d0:0≤dst) (d1:dst≤15) (s0:0≤src) (s1:src≤15) (b0:0≤base) (b1:base≤15) (w0:0≤w) (w1:w≤64) (hm:bC 27 w dst src base af aj TY=true):aP Z9 52 ([.agg (eW m),xD 27 w dst src base af aj TY]) (.aL [au (u64 (rg m.rl base+u64 af)),av (w / 8),ax true]):=by
 have c0:= @a8 ((27:Int)) (w) (dst) (src) (base) (af) (aj) (TY)
 exact (aP.ai (d:= .aL [au (abz.wrap abz.u64 (rg (aq.rl m) base+abz.wrap abz.u64 af)),av (abz.i64.wrap (Int.tdiv (abz.wrap abz.i64 w) (8:Int))),ax true]) mixed Tryz.func52 (by kernel_rfl) [aw c0,tC (nt hm),tF,tT,.cX (decide ((0:Int)≤base∧base<(↑(16:Nat):Int))) true (by ((try simp only [dk,bo,aN,bN,bS,cI,cz,ki,fO,bne_eq_false_iff_eq,aaK,aaU,aae,aax] at*);omega)),.get _ _ _ (@bj (m) (base) ([ax (aq.fk m),ax (aq.fc m),ax (aq.fz m),ax (aq.fs m),ax (aq.fo m),au (aq.pc m)]) b0 b1)]).to (by simp only [wk,bf,ey,D.int.injEq,fm];refine ⟨rfl,?_⟩;first|rfl|(rw [aN,Rx];omega)|(rw [show abz.i64.wrap w=w by rw [aN];omega,Int.tdiv_eq_ediv_of_nonneg w0,aN];omega))
theorem GL (m:aq) (w dst src base af aj TY:Int) (d0:0≤dst) (d1:dst≤15) (s0:0≤src) (s1:src≤15) (b0:0≤base) (b1:base≤15) (hm:bC 30 w dst src base af aj TY=true):aP Z9 52 ([.agg (eW m),xD 30 w dst src base af aj TY]) (.aL [au m.q4,av 8,ax true]):=by
 have c0:= @a8 ((30:Int)) (w) (dst) (src) (base) (af) (aj) (TY)
 exact (aP.ai (d:= .aL [au (aq.q4 m),av 8,ax true]) mixed Tryz.func52 (by kernel_rfl) [aw c0,tC (nt hm),tF,tF,tT]).to (by first|((simp only [wk,bf,ey];repeat' (first|rfl|exact True.intro|apply And.intro));done)|(simp [wk,bf,u64,];done))
theorem AD (m:aq) (op w dst src base af aj TY:Int) (ho:op≤127) (n1:(op==26)=false) (n2:(op==27)=false) (n3:(op==30)=false) (hm:bC op w dst src base af aj TY=true):aP Z9 52 ([.agg (eW m),xD op w dst src base af aj TY]) (.aL [au 0,av 0,ax false]):=by
 have c0:= @a8 (op) (w) (dst) (src) (base) (af) (aj) (TY)
 exact (aP.ai (d:= .aL [au 0,av 0,ax false]) mixed Tryz.func52 (by kernel_rfl) [aw c0,tC (nt hm),tC n1,tC n2,tC n3]).to (by first|((simp only [wk,bf,ey];repeat' (first|rfl|exact True.intro|apply And.intro));done)|(simp [wk,bf,u64,];done))
theorem Gw (m:aq) (w dst src base af aj TY:Int) (d0:0≤dst) (d1:dst≤15) (s0:0≤src) (s1:src≤15) (b0:0≤base) (b1:base≤15) (w0:fS w=true) (hm:bC 27 w dst src base af aj TY=true):aP Z9 55 ([.agg (eW m),xD 27 w dst src base af aj TY]) (au (aI (rg m.rl src) w)):=by
 have c0:= @a8 ((27:Int)) (w) (dst) (src) (base) (af) (aj) (TY)
 have c1:= @xe (rg (aq.rl m) src) (w) w0
 exact (aP.ai (d:= .int .u64 (aI (rg (aq.rl m) src) w)) mixed Tryz.func55 (by kernel_rfl) [aw c0,tC (eF (nt hm)),tC (eF (nt hm)),tC (eF (nt hm)),tC (nt hm),tF,.cX (decide ((0:Int)≤src∧src<(↑(16:Nat):Int))) true (by ((try simp only [dk,bo,aN,bN,bS,cI,cz,ki,fO,bne_eq_false_iff_eq,aaK,aaU,aae,aax] at*);omega)),.get _ _ _ (@bj (m) (src) ([ax (aq.fk m),ax (aq.fc m),ax (aq.fz m),ax (aq.fs m),ax (aq.fo m),au (aq.pc m)]) s0 s1),aw c1]).to (by first|((simp only [wk,bf,ey];repeat' (first|rfl|exact True.intro|apply And.intro));done)|(simp [wk,bf,u64,];done))
theorem Mn (m:aq):aP Z9 85 ([.agg (eW m)]) (.aL [av (ko m.q0),ax (qO m.q0)]):=by
 rcases Bool.eq_false_or_eq_true (decide (aq.q0 m<(16:Int))) with h0|h0
 ·exact (aP.ai (d:= .aL [av (abz.i64.wrap (aq.q0 m)),ax true]) mixed Tryz.func85 (by kernel_rfl) [tC (bQ 16 h0)]).to (by first|exact xW h0|exact xX h0)
 ·exact (aP.ai (d:= .aL [av 0,ax false]) mixed Tryz.func85 (by kernel_rfl) [tC (bQ 16 h0)]).to (by first|exact xW h0|exact xX h0)
theorem Gz (num:Int) (h0:0≤num) (h1:num≤15):aP Z9 128 ([av num]) (av (Int.tmod num 6)):=(aP.ai (d:= .int .i64 (Int.tmod num (6:Int))) mixed Tryz.func128 (by kernel_rfl) [tC (eF (bF (aah.2 h0))),tC (eF (bF (aah.2 h0))),tC (bF (aah.2 h0)),tC (bQ 16 (b8 (Int.lt_add_one_of_le h1)))]).to (by simp [wk,bf,cB])
theorem wE (num:Int) (h0:num<0):aP Z9 128 ([av num]) (av 0):=(aP.ai (d:= .int .i64 0) mixed Tryz.func128 (by kernel_rfl) [tC (eF (b8 h0)),tC (eF (b8 h0)),tC (b8 h0),tT]).to (by simp [wk,bf,cB])
theorem wF (num:Int) (h0:15<num):aP Z9 128 ([av num]) (av 0):=(aP.ai (d:= .int .i64 0) mixed Tryz.func128 (by kernel_rfl) [tC (eF (lu 0 (bF (by omega:¬num<16)))),tC (eF (lu 0 (bF (by omega:¬num<16)))),tC (lu 0 (bF (by omega:¬num<16))),tC (bQ 16 (bF (by omega:¬num<16)))]).to (by simp [wk,bf,cB])
theorem CD (m:aq) (v:Int) (hn:aP Z9 85 [.agg (eW m)] (.aL [av v,ax true])) (ha:aP Z9 128 [av v] (av 0)):aP Z9 86 ([.agg (eW m)]) (aZ 1 []):=(aP.ai (d:= .aY .no 1 []) mixed Tryz.func86 (by kernel_rfl) [aw hn,tF,aw ha,tT]).to (by simp [wk,bf,cB])
theorem CC (m:aq) (v:Int) (hn:aP Z9 85 [.agg (eW m)] (.aL [av v,ax true])) (ha:aP Z9 128 [av v] (av 1)):aP Z9 86 ([.agg (eW m)]) (aZ 1 [au m.q7]):=(aP.ai (d:= .aY .no 1 [au (aq.q7 m)]) mixed Tryz.func86 (by kernel_rfl) [aw hn,tF,aw ha,tT]).to (by simp [wk,bf,cB])
theorem CB (m:aq) (v:Int) (hn:aP Z9 85 [.agg (eW m)] (.aL [av v,ax true])) (ha:aP Z9 128 [av v] (av 2)):aP Z9 86 ([.agg (eW m)]) (aZ 1 [au m.q7,au m.q6]):=(aP.ai (d:= .aY .no 1 [au (aq.q7 m),au (aq.q6 m)]) mixed Tryz.func86 (by kernel_rfl) [aw hn,tF,aw ha,tT]).to (by simp [wk,bf,cB])
theorem CA (m:aq) (v:Int) (hn:aP Z9 85 [.agg (eW m)] (.aL [av v,ax true])) (ha:aP Z9 128 [av v] (av 3)):aP Z9 86 ([.agg (eW m)]) (aZ 1 [au m.q7,au m.q6,au m.q2]):=(aP.ai (d:= .aY .no 1 [au (aq.q7 m),au (aq.q6 m),au (aq.q2 m)]) mixed Tryz.func86 (by kernel_rfl) [aw hn,tF,aw ha,tT]).to (by simp [wk,bf,cB])
theorem Cz (m:aq) (v:Int) (hn:aP Z9 85 [.agg (eW m)] (.aL [av v,ax true])) (ha:aP Z9 128 [av v] (av 4)):aP Z9 86 ([.agg (eW m)]) (aZ 1 [au m.q7,au m.q6,au m.q2,au m.cZ]):=(aP.ai (d:= .aY .no 1 [au (aq.q7 m),au (aq.q6 m),au (aq.q2 m),au (aq.cZ m)]) mixed Tryz.func86 (by kernel_rfl) [aw hn,tF,aw ha,tT]).to (by simp [wk,bf,cB])
theorem Cy (m:aq) (v:Int) (hn:aP Z9 85 [.agg (eW m)] (.aL [av v,ax true])) (ha:aP Z9 128 [av v] (av 5)):aP Z9 86 ([.agg (eW m)]) (aZ 1 [au m.q7,au m.q6,au m.q2,au m.cZ,au m.q8]):=(aP.ai (d:= .aY .no 1 [au (aq.q7 m),au (aq.q6 m),au (aq.q2 m),au (aq.cZ m),au (aq.q8 m)]) mixed Tryz.func86 (by kernel_rfl) [aw hn,tF,aw ha,tT]).to (by simp [wk,bf,cB])
theorem OP (l:List Int) (k:Nat) (w:Int) (j:Nat) (h:k+j<l.length):nM (F5 (bD l) k w j) (k+j) [aC (abz.u8.wrap (w.fdiv (256^j)))] (F5 (bD l) k w (j+1)):=by
 rw [F5,Nat.mul_one]
 exact na (by rw [Ew,aQ];omega)
abbrev RG (nc nx i:Nat) (B:Int) (id L:Nat):Prop:=(i=0∧B=1048576∧id=4∧nc=L)∨(i=3∧B=2097152∧id=7∧nx=L)∨(i=6∧B=3145728∧id=8∧L=64)∨(i=9∧B=4194304∧id=9∧L=264)
def Mq (nc nx:Nat) (w:Bool) (a n:Int):Option (Nat×Int):=if iP 1048576 nc a n=true∧w=false then some (4,1048576) else if iP 2097152 nx a n=true then some (7,2097152) else if iP 3145728 64 a n=true then some (8,3145728) else if iP 4194304 264 a n=true then some (9,4194304) else none
abbrev kN (n:Int):Nat:=if n=1 then 0 else if n=2 then 3 else if n=4 then 6 else 9
abbrev pN {P:Program} {g:FuncId} {x y d:D} {n:Int} {s s':List Ob} (h:ak P g [x,y,av n] s d s'):List (Ev P):=tF::(Z7 (kN n) tT++(Z7 (10 - kN n) tF++ [.go 64,tT,tT,.aH _ _ _ _ _ h]))
abbrev rN {P:Program} :List (Ev P):=Z7 8 tF++ [tT,tT]
abbrev cN {P:Program} :List (Ev P):=Z7 8 tT++ [tF,tT,tF,tT,tT]
abbrev yN {P:Program} :List (Ev P):=Z7 5 tT++ [tF,tF,tT,tT,tT,tT]
section
variable (o0:Ob) (cc cx fr st:List D) (nc nx:Nat) (UK:nc≤16384) (VU:nx≤256) (a n:Int)
include UK VU
theorem yH {i:Nat} {B:Int} {id L:Nat} (h:RG nc nx i B id L) (n0:1≤n) (n8:n≤8):ak Z9 109 [.ptr true 1 i,au a,av n] (L4 o0 nc nx cc cx fr st) (if iP B L a n=true then .aL [.sub id (mi B a) 1 n.toNat (some n.toNat),ax true] else .aL [.aY .tight 0 [],ax false]) (L4 o0 nc nx cc cx fr st):=by
 have hl:L≤16384:=by omega
 have hB:0≤abz.u64.wrap (a - B):=by rw [bN];omega
 cases hi:iP B L a n with
 |true=>
  obtain ⟨a0,a1,a2⟩:=N1 hi
  rw [if_pos rfl]
  unfold mi
  refine ak.cast ?_ (PL (id:=id) (len:=L) n0 n8 hl a1 a2) rfl
  have k0:decide (a<B)=false:=bF (by omega)
  have k1:decide (abz.u64.wrap (a - B)>abz.u64.wrap (L:Int))=false:=by rw [bN (L:Int)];exact bF (by omega)
  have k2:decide (abz.u64.wrap (abz.u64.wrap (L:Int) - abz.u64.wrap (a - B))<abz.u64.wrap n)=false:=by rw [bN (L:Int),bN n];generalize abz.u64.wrap (a - B)=z at*;rw [bN];exact bF (by omega)
  have k3:decide (0≤abz.u64.wrap (a - B)∧abz.u64.wrap (a - B)≤abz.i64.wrap (abz.i64.wrap (abz.u64.wrap (a - B))+n)∧abz.i64.wrap (abz.i64.wrap (abz.u64.wrap (a - B))+n)≤abz.i64.wrap (abz.i64.wrap (abz.u64.wrap (a - B))+n)∧abz.i64.wrap (abz.i64.wrap (abz.u64.wrap (a - B))+n)≤(L:Int))=true:=by generalize abz.u64.wrap (a - B)=z at*;rw [aN,aN];exact b8 (by omega)
  rcases h with ⟨rfl,rfl,rfl,rfl⟩|⟨rfl,rfl,rfl,rfl⟩|⟨rfl,rfl,rfl,rfl⟩|⟨rfl,rfl,rfl,rfl⟩<;>exact ak.ai (aU:=aao 10) mixed (Z7 8 (tC (eF k0))++tC k0::(Z7 11 (tC (eF k1))++ [tC k1,tC k2,.cX _ true k3])) (by kernel_rfl)
 |false=>
  rw [if_neg (by decide)]
  by_cases p:a<B
  ·have k0:decide (a<B)=true:=b8 p
   rcases h with ⟨rfl,rfl,rfl,rfl⟩|⟨rfl,rfl,rfl,rfl⟩|⟨rfl,rfl,rfl,rfl⟩|⟨rfl,rfl,rfl,rfl⟩<;>exact ak.ai (aU:=aao 10) mixed (Z7 8 (tC (eF k0))++tC k0::(Z7 11 tF++ [tT,tT])) (by kernel_rfl)
  have k0:decide (a<B)=false:=bF p
  by_cases p1:abz.u64.wrap (a - B)>abz.u64.wrap (L:Int)
  ·have k1:=b8 p1
   rcases h with ⟨rfl,rfl,rfl,rfl⟩|⟨rfl,rfl,rfl,rfl⟩|⟨rfl,rfl,rfl,rfl⟩|⟨rfl,rfl,rfl,rfl⟩<;>exact ak.ai (aU:=aao 10) mixed (Z7 8 (tC (eF k0))++tC k0::(Z7 11 (tC (eF k1))++ [tC k1,tT])) (by kernel_rfl)
  have k1:=bF p1
  have k2:decide (abz.u64.wrap (abz.u64.wrap (L:Int) - abz.u64.wrap (a - B))<abz.u64.wrap n)=true:=by
   rcases QK hi with q|q|q
   ·omega
   ·rw [bN (L:Int)] at p1;omega
   ·rw [bN (L:Int)] at p1 ⊢;rw [bN n];generalize abz.u64.wrap (a - B)=z at*;rw [bN];exact b8 (by omega)
  rcases h with ⟨rfl,rfl,rfl,rfl⟩|⟨rfl,rfl,rfl,rfl⟩|⟨rfl,rfl,rfl,rfl⟩|⟨rfl,rfl,rfl,rfl⟩<;>exact ak.ai (aU:=aao 10) mixed (Z7 8 (tC (eF k0))++tC k0::(Z7 11 (tC (eF k1))++ [tC k1,tC k2])) (by kernel_rfl)
theorem FX (w:Bool) (hn:n=1∨n=2∨n=4∨n=8):ak Z9 146 [.ptr false 1 0,au a,av n,ax w] (L4 o0 nc nx cc cx fr st) (match Mq nc nx w a n with|some (id,B)=> .aL [.sub id (mi B a) 1 n.toNat (some n.toNat),av 0]|none=> .aL [.aY .tight 0 [],av 20]) (L4 o0 nc nx cc cx fr st):=by
 have h0:=yH o0 cc cx fr st nc nx UK VU a n (.inl ⟨rfl,rfl,rfl,rfl⟩) (by omega) (by omega)
 have h1:=yH o0 cc cx fr st nc nx UK VU a n (.inr (.inl ⟨rfl,rfl,rfl,rfl⟩)) (by omega) (by omega)
 have h2:=yH o0 cc cx fr st nc nx UK VU a n (.inr (.inr (.inl ⟨rfl,rfl,rfl,rfl⟩))) (by omega) (by omega)
 have h3:=yH o0 cc cx fr st nc nx UK VU a n (.inr (.inr (.inr ⟨rfl,rfl,rfl,rfl⟩))) (by omega) (by omega)
 unfold Mq
 by_cases b0:iP 1048576 nc a n=true∧w=false
 ·rw [if_pos b0]
  rw [if_pos b0.1] at h0
  obtain ⟨_,rfl⟩:=b0
  rcases hn with rfl|rfl|rfl|rfl<;>exact ak.ai (aU:=aao 10) mixed (pN h0++(Z7 8 tT++ [tF,tT,tT])) (by kernel_rfl)
 rw [if_neg b0]
 obtain ⟨e0,Wo⟩:∃e0:Bool,iP 1048576 nc a n=e0:=⟨_,rfl⟩
 rw [Wo] at h0 b0
 have hw:e0=true→w=true:=fun h=>by cases w with|true=>rfl|false=>exact absurd ⟨h,rfl⟩ b0
 clear b0 Wo
 cases Xe:iP 2097152 nx a n with
 |true=>
  rw [Xe] at h1
  rw [if_pos rfl]
  cases e0 with
  |true=>cases hw rfl;rcases hn with rfl|rfl|rfl|rfl<;>exact ak.ai (aU:=aao 10) mixed (pN h0++(cN++ .aH _ _ _ _ _ h1::yN)) (by kernel_rfl)
  |false=>rcases hn with rfl|rfl|rfl|rfl<;>exact ak.ai (aU:=aao 10) mixed (pN h0++(rN++ .aH _ _ _ _ _ h1::yN)) (by kernel_rfl)
 |false=>
 rw [Xe] at h1
 rw [if_neg (by decide)]
 cases XH:iP 3145728 64 a n with
 |true=>
  rw [XH] at h2
  rw [if_pos rfl]
  cases e0 with
  |true=>cases hw rfl;rcases hn with rfl|rfl|rfl|rfl<;>exact ak.ai (aU:=aao 10) mixed (pN h0++(cN++ .aH _ _ _ _ _ h1::(rN++ .aH _ _ _ _ _ h2::yN))) (by kernel_rfl)
  |false=>rcases hn with rfl|rfl|rfl|rfl<;>exact ak.ai (aU:=aao 10) mixed (pN h0++(rN++ .aH _ _ _ _ _ h1::(rN++ .aH _ _ _ _ _ h2::yN))) (by kernel_rfl)
 |false=>
 rw [XH] at h2
 rw [if_neg (by decide)]
 cases h3':iP 4194304 264 a n with
 |true=>
  rw [h3'] at h3
  rw [if_pos rfl]
  cases e0 with
  |true=>cases hw rfl;rcases hn with rfl|rfl|rfl|rfl<;>exact ak.ai (aU:=aao 10) mixed (pN h0++(cN++ .aH _ _ _ _ _ h1::(rN++ .aH _ _ _ _ _ h2::(rN++ .aH _ _ _ _ _ h3::yN)))) (by kernel_rfl)
  |false=>rcases hn with rfl|rfl|rfl|rfl<;>exact ak.ai (aU:=aao 10) mixed (pN h0++(rN++ .aH _ _ _ _ _ h1::(rN++ .aH _ _ _ _ _ h2::(rN++ .aH _ _ _ _ _ h3::yN)))) (by kernel_rfl)
 |false=>
 rw [h3'] at h3
 rw [if_neg (by decide)]
 cases e0 with
 |true=>cases hw rfl;rcases hn with rfl|rfl|rfl|rfl<;>exact ak.ai (aU:=aao 10) mixed (pN h0++(cN++ .aH _ _ _ _ _ h1::(rN++ .aH _ _ _ _ _ h2::(rN++ .aH _ _ _ _ _ h3::Z7 9 tF)))) (by kernel_rfl)
 |false=>rcases hn with rfl|rfl|rfl|rfl<;>exact ak.ai (aU:=aao 10) mixed (pN h0++(rN++ .aH _ _ _ _ _ h1::(rN++ .aH _ _ _ _ _ h2::(rN++ .aH _ _ _ _ _ h3::Z7 9 tF)))) (by kernel_rfl)
end
end Go.Proofs.YtbfpahigdpigpaaGreat
namespace Go.Ev
open Go Go.RowKit
def ln.rn (f:Nat→Nat):ln→ln
  | .tok t v=> .tok (f t) v
  |o=>o
mutual
def D.rn (f:Nat→Nat):D→D
  | .ptr q id off=> .ptr q (f id) off
  | .gl id=> .gl (f id)
  | .jx id=> .jx (f id)
  | .dm id sz n=> .dm (f id) sz n
  | .sub id off sz n c=> .sub (f id) off sz n c
  | .aY o sz xs=> .aY (o.rn f) sz xs
  | .agg cs=> .agg (D.jR f cs)
  | .aL cs=> .aL (D.jR f cs)
  | .fn g a b=> .fn g (D.jR f a) (D.jR f b)
  |d=>d
def D.jR (f:Nat→Nat):List D→List D
  | []=> []
  |d::r=>d.rn f::D.jR f r
end
theorem D.iu (f:Nat→Nat) (l:List D):D.jR f l=l.map (D.rn f):=by
 induction l with
 |nil=>simp [D.jR]
 |cons d r ih=>simp [D.jR,ih]
def Ob.rn (f:Nat→Nat):Ob→Ob
  | .box cs=> .box (D.jR f cs)
  | .lp k t ps ag bd=> .lp k (D.jR f t) ps ag bd
  |o=>o
def MM.pull (M:MM) (f:Nat→Nat):MM:=⟨M.cell,fun i=>M.box (f i),fun i v=>M.bX (f i) v,M.fM⟩
theorem b7.push {M:MM} {d:D} {v:Value} (h:b7 M d v) (f:Nat→Nat):∀ {M':MM},(∀b o v,M.cell b o=some v→M'.cell b o=some v)→(∀id b,M.box id=some b→M'.box (f id)=some b)→(∀t v x,M.bX t v=some x→M'.bX (f t) v=some x)→b7 M' (d.rn f) v:=by
 induction h with
 |undef v=>intro _ _ _ _;rw [D.rn];exact .undef v;all_goals (intros;contradiction)
 |int k n=>intro _ _ _ _;exact .int k n
 |bool b=>intro _ _ _ _;exact .bool b
 |str s=>intro _ _ _ _;exact .str s
 |fW=>intro _ _ _ _;exact .fW
 |ptr q h=>intro _ _ hb _;exact .ptr q (hb _ _ h)
 |eL q vs hx hc hr ih=>
  intro _ c _ _
  exact .eL q vs hx (fun j x h=>c _ _ _ (hc j x h)) (fun j x h=>(hr j x h).mono ⟨c,fun _ _ y=>y,fun _ _ _ y=>y,fun _ y=>y⟩)
 |gl h=>intro _ _ hb _;exact .gl (hb _ _ h)
 |jx h=>intro _ _ hb _;exact .jx (hb _ _ h)
 |dm h hh hc=>intro _ _ hb hs;exact .dm (hb _ _ h) (hs _ _ _ hh) hc
 |sub h hc hp ho=>intro _ _ hb _;exact .sub (hb _ _ h) hc hp ho
 |aY b off vs hl TZ ha T8 hc hr T5 ho ih=>
  rename_i o _ _ _ _ _
  intro _ c _ hs
  refine .aY b off vs hl TZ ha T8 (fun i x cs j y h1 h2 h3=>c _ _ _ (hc i x cs j y h1 h2 h3)) (fun i x cs j y h1 h2 h3=>(hr i x cs j y h1 h2 h3).mono ⟨c,fun _ _ y=>y,fun _ _ _ y=>y,fun _ y=>y⟩) T5 ?_
  cases o with
  |tok t v=>exact hs _ _ _ ho
  |_=>exact ho
 |b6=>intro _ _ _ _;exact .b6
 |fn h1 h2 r1 r2 i1 i2=>
  intro _ c hb hs
  rw [D.rn,D.iu,D.iu]
  refine .fn (by simpa using h1) (by simpa using h2) ?_ ?_
  ·intro i d v a b
   rw [aau,aat] at a
   obtain ⟨d0,h0,rfl⟩:=a
   exact i1 i d0 v h0 b c hb hs
  ·intro i d v a b
   rw [aau,aat] at a
   obtain ⟨d0,h0,rfl⟩:=a
   exact i2 i d0 v h0 b c hb hs
 |agg h r ih=>
  intro _ c hb hs
  rw [D.rn,D.iu]
  refine .agg (by simpa using h) ?_
  intro i d v a b
  rw [aau,aat] at a
  obtain ⟨d0,h0,rfl⟩:=a
  exact ih i d0 v h0 b c hb hs
 |aL h r ih=>
  intro _ c hb hs
  rw [D.rn,D.iu]
  refine .aL (by simpa using h) ?_
  intro i d v a b
  rw [aau,aat] at a
  obtain ⟨d0,h0,rfl⟩:=a
  exact ih i d0 v h0 b c hb hs
mutual
theorem b7.pull (M:MM) (f:Nat→Nat):∀(d:D) (v:Value),b7 M (d.rn f) v→b7 (M.pull f) d v
  | .undef,v,_=> .undef v
  | .int k n,_,h=>by cases h;exact .int k n
  | .bool b,_,h=>by cases h;exact .bool b
  | .str s,_,h=>by cases h;exact .str s
  | .fW,_,h=>by cases h;exact .fW
  | .b6,_,h=>by cases h;exact .b6
  | .ptr q id off,_,h=>by cases h with|ptr _ h=>exact .ptr q h
  | .eL q x off,_,h=>by cases h with|eL _ vs hx hc hr=>exact .eL q vs hx hc hr
  | .gl id,_,h=>by cases h with|gl h=>exact .gl h
  | .jx id,_,h=>by cases h with|jx h=>exact .jx h
  | .dm id sz n,_,h=>by cases h with|dm h hh hc=>exact .dm h hh hc
  | .sub id off sz n c,_,h=>by cases h with|sub h hc hp ho=>exact .sub h hc hp ho
  | .aY o sz xs,_,h=>by
    cases h with
    |aY b off vs hl TZ ha T8 hc hr T5 ho=>
      refine .aY b off vs hl TZ ha T8 hc hr T5 ?_
      cases o with
      |tok t v=>exact ho
      |_=>exact ho
  | .fn g a b,_,h=>by
    rw [D.rn,D.iu,D.iu] at h
    cases h with
    |fn h1 h2 r1 r2=>
      exact .fn (by simpa using h1) (by simpa using h2) (fun i d v x y=>b7.AE M f a i d v x (r1 i (d.rn f) v (by rw [aau,x];rfl) y)) (fun i d v x y=>b7.AE M f b i d v x (r2 i (d.rn f) v (by rw [aau,x];rfl) y))
  | .agg cs,_,h=>by
    rw [D.rn,D.iu] at h
    cases h with
    |agg h1 r=>exact .agg (by simpa using h1) (fun i d v x y=>b7.AE M f cs i d v x (r i (d.rn f) v (by rw [aau,x];rfl) y))
  | .aL cs,_,h=>by
    rw [D.rn,D.iu] at h
    cases h with
    |aL h1 r=>exact .aL (by simpa using h1) (fun i d v x y=>b7.AE M f cs i d v x (r i (d.rn f) v (by rw [aau,x];rfl) y))
theorem b7.AE (M:MM) (f:Nat→Nat):∀(l:List D) (i:Nat) (d:D) (v:Value),l[i]? =some d→b7 M (d.rn f) v→b7 (M.pull f) d v
  | [],i,d,v,h,_=>by simp at h
  |x::r,0,d,v,h,k=>by
    simp at h
    subst h
    exact b7.pull M f x v k
  |x::r,i+1,d,v,h,k=>b7.AE M f r i d v (by simpa using h) k
end
theorem cy.pull {M:MM} {f:Nat→Nat} {l:List D} {vs:Array Value} (h:cy M (D.jR f l) vs):cy (M.pull f) l vs:=by
 rw [D.iu] at h
 exact ⟨by simpa using h.1,fun i d v a b=>b7.pull M f d v (h.2 i (d.rn f) v (by rw [aau,a];rfl) b)⟩
theorem cy.push {M M':MM} {f:Nat→Nat} {l:List D} {vs:Array Value} (h:cy M l vs) (c:∀b o v,M.cell b o=some v→M'.cell b o=some v) (hb:∀id b,M.box id=some b→M'.box (f id)=some b) (hs:∀t v x,M.bX t v=some x→M'.bX (f t) v=some x):cy M' (D.jR f l) vs:=by
 rw [D.iu]
 refine ⟨by simpa using h.1,fun i d v a b=> ?_⟩
 rw [aau,aat] at a
 obtain ⟨d0,h0,rfl⟩:=a
 exact (h.2 i d0 v h0 b).push f c hb hs
def gL (tb:List Nat) (n i:Nat):Nat:=if i<tb.length then tb.getD i 0 else n+(i - tb.length)
def pD (tb:List Nat) (n j:Nat):Option Nat:=if j<n then tb.idxOf? j else some (tb.length+(j - n))
def Gy (tb:List Nat) (n:Nat) (s:List Ob):List Ob→Nat→List Ob
  | [],_=> []
  |x::t,j=>(match tb.idxOf? j with|some i=>(s.getD i .dead).rn (gL tb n)|none=>x)::Gy tb n s t (j+1)
def pJ (tb:List Nat) (t s:List Ob):List Ob:=Gy tb t.length s t 0++(s.drop tb.length).map (Ob.rn (gL tb t.length))
theorem wC (tb:List Nat) (n:Nat) (s:List Ob):∀t j,(Gy tb n s t j).length=t.length
 | [],_=>rfl
 |_::t,j=>by rw [Gy,aaw,wC tb n s t (j+1),aaw]
theorem EN (tb:List Nat) (n:Nat) (s:List Ob):∀t j i,i<t.length→(Gy tb n s t j)[i]? =some (match tb.idxOf? (j+i) with|some i=>(s.getD i .dead).rn (gL tb n)|none=>t.getD i .dead)
 | [],_,_,h=>by simp at h
 |x::t,j,0,_=>by rw [Gy];rfl
 |x::t,j,i+1,h=>by
  rw [Gy,List.getElem?_cons_succ,EN tb n s t (j+1) i (by simpa using h),show j+1+i=j+(i+1) by omega]
  rfl
theorem wB (tb:List Nat) (t s:List Ob):(pJ tb t s).length=t.length+(s.length - tb.length):=by
 rw [pJ,List.length_append,wC,List.length_map,List.length_drop]
theorem JO (tb:List Nat) (t s:List Ob) (j:Nat):bJ (pJ tb t s) j=match pD tb t.length j with|some i=>(bJ s i).rn (gL tb t.length)|none=>bJ t j:=by
 unfold bJ pJ pD
 rw [aaf,List.getElem?_append,wC]
 by_cases h:j<t.length
 ·rw [if_pos h,if_pos h,EN tb _ s t 0 j h,Nat.zero_add]
  rfl
 ·rw [if_neg h,if_neg h,aau,List.getElem?_drop]
  simp only [aaf]
  cases s[tb.length+(j - t.length)]? <;>rfl
theorem Oq (tb:List Nat) (n:Nat) (hd:tb.Nodup) (hb:∀x∈tb,x<n) (i:Nat):pD tb n (gL tb n i)=some i:=by
 unfold pD gL
 by_cases h:i<tb.length
 ·rw [if_pos h,aaf,aaN h]
  simp only [Option.getD_some]
  rw [if_pos (hb _ (List.getElem_mem h)),List.idxOf?_eq_some_iff]
  refine ⟨h,rfl,fun j hj e=> ?_⟩
  have hp:=List.pairwise_iff_getElem.mp hd j i (by omega) h hj
  exact hp e
 ·rw [if_neg h,if_neg (by omega)]
  congr 1
  omega
theorem Mo (tb:List Nat) (n:Nat) (j i:Nat) (h:pD tb n j=some i):gL tb n i=j:=by
 unfold pD at h
 unfold gL
 split at h
 ·rw [List.idxOf?_eq_some_iff] at h
  obtain ⟨h1,h2,_⟩:=h
  rw [if_pos h1,aaf,aaN h1]
  exact h2
 ·simp only [Option.some.injEq] at h
  subst h
  rw [if_neg (by omega)]
  omega
theorem Ob.Ou {f:Nat→Nat} {o:Ob} {cs:List D} (h:o.rn f= .box cs):∃c,o= .box c∧cs=D.jR f c:=by
 cases o<;>simp [Ob.rn] at h
 exact ⟨_,rfl,h.symm⟩
theorem Ob.Ot {f:Nat→Nat} {o:Ob} {v z:Nat} (h:o.rn f= .dD v z):o= .dD v z:=by
 cases o<;>simp [Ob.rn] at h
 obtain ⟨rfl,rfl⟩:=h
 rfl
theorem Ob.EM {f:Nat→Nat} {o:Ob} :(o.rn f).C4=o.C4:=by cases o<;>rfl
theorem Ob.Qd {f:Nat→Nat} {o:Ob} {k:Lk} {t:List D} {ps:Array Nat} {ag bd:Code} (h:o.rn f= .lp k t ps ag bd):∃t0,o= .lp k t0 ps ag bd∧t=D.jR f t0:=by
 cases o<;>simp [Ob.rn] at h
 obtain ⟨rfl,rfl,rfl,rfl,rfl⟩:=h
 exact ⟨_,rfl,rfl⟩
theorem ak.rn {P:Program} {g:FuncId} {args:List D} {s:List Ob} {d:D} {s':List Ob} (h:ak P g args s d s') (tb:List Nat) (t:List Ob) (hl:s.length=tb.length) (hd:tb.Nodup) (hb:∀x∈tb,x<t.length) (ht:pJ tb t s=t):
  ak P g (D.jR (gL tb t.length) args) t (d.rn (gL tb t.length)) (pJ tb t s'):=by
 have kf:=Oq tb t.length hd hb
 have fk:=Mo tb t.length
 have Wk:=JO tb t s'
 have YI:∀i,bJ t (gL tb t.length i)=(bJ s i).rn (gL tb t.length):=fun i=>by
  have:=JO tb t s (gL tb t.length i)
  rw [ht,kf] at this
  exact this
 have Z0:∀i,tb.length≤i→gL tb t.length i=t.length+(i - tb.length):=fun i hi=>by rw [gL,if_neg (by omega)]
 have hlen:=h.len
 refine ⟨h.Ij,by rw [wB];omega,fun w0 M own w vs hw hu hr=> ?_⟩
 let X1:Nat→Prop:=fun b=>w0.X b∨∃j,own b=some j∧pD tb t.length j=none∧¬M.fM b
 let w1:eJ:=⟨w,M.cell,X1⟩
 have hX:∀b,X1 b→b<w.heap.size:=by
  rintro b (q|⟨j,q,_⟩)
  ·exact hw.below.PZ q
  ·exact hw.owned b j q
 have bs:∀b i,¬w0.X b→own b=some (gL tb t.length i)→¬X1 b:=by
  rintro b i q e (k|⟨j,k1,k2,_⟩)
  ·exact q k
  ·rw [e,Option.some.injEq] at k1
   rw [← k1,kf] at k2
   cases k2
 have WW:ca w1 (M.pull (gL tb t.length)) (fun b=>(own b).bind (pD tb t.length)) (bJ s) w:=by
  have ow:∀b i,own b=some (gL tb t.length i)→(own b).bind (pD tb t.length)=some i:=fun b i e=>by rw [e];exact kf i
  refine ⟨⟨rfl,rfl,rfl,Nat.le_refl _,fun _ _=>rfl,hX⟩,hw.cells,fun b o v q _=>q,?_,?_,?_,?_,?_,fun b q=>⟨?_,(hw.fM b q).2⟩⟩
  ·intro b id e
   rw [Option.bind_eq_some_iff] at e
   obtain ⟨j,e1,_⟩:=e
   exact hw.owned b j e1
  ·intro id cs e
   obtain ⟨b,vs,ty,q⟩:=hw.box (gL tb t.length id) _ (by rw [YI,e];rfl)
   refine ⟨b,vs,ty,q.box,bs _ _ q.base q.own,ow _ _ q.own,q.none,q.dI,by simpa [D.iu] using q.len,fun i d v a c=>b7.pull M _ d v (q.rep i _ v (by rw [D.iu,aau,a];rfl) c),fun sz a len cap c=>q.room sz a len cap c⟩
  ·intro id ver sz e
   obtain ⟨a,len,cap,q⟩:=hw.dD (gL tb t.length id) ver sz (by rw [YI,e];rfl)
   refine ⟨a,len,cap,q.bX,q.last,q.room.imp (fun x=>x) fun ⟨b,vs,ty,fz,ha,r⟩=>⟨b,vs,ty,fz,ha,bs _ _ r.base r.own,ow _ _ r.own,r.dI,r.fz,r.cap,r.none⟩⟩
  ·intro id F e
   obtain ⟨b,T3,clock,q⟩:=hw.mp (gL tb t.length id) F (by rw [YI,Ob.EM,e])
   exact ⟨b,T3,clock,q.box,bs _ _ q.base q.own,ow _ _ q.own,q.none,q.dI,q.fits⟩
  ·intro id k tt ps ag bd e
   obtain ⟨l,r,q⟩:=hw.lp (gL tb t.length id) k _ ps ag bd (by rw [YI,e];rfl)
   exact ⟨l,r,q.box,bs _ _ q.base q.own,ow _ _ q.own,q.dI,q.st,q.pd,q.tm.pull,q.ps,q.ag,q.bd⟩
  ·rintro (k|⟨j,_,_,k⟩)
   ·exact (hw.fM b q).1 k
   ·exact k q
 have ZG:(M.pull (gL tb t.length)).upto s.length:=by
  constructor
  ·intro id hi
   exact hu.1 _ (by rw [Z0 id (by omega)];omega)
  ·intro id v hi
   exact hu.2 _ v (by rw [Z0 id (by omega)];omega)
 refine Calls.mono (h.run w1 _ _ w vs WW ZG hr.pull) ?_
 rintro e w' ⟨v,M',TW,rfl,q1,q2,q3,q4⟩
 let M2:MM:=⟨M'.cell,fun j=>match pD tb t.length j with|some i=>M'.box i|none=>M.box j,fun j v=>match pD tb t.length j with|some i=>M'.bX i v|none=>M.bX j v,M'.fM⟩
 have e1:∀i,M2.box (gL tb t.length i)=M'.box i:=fun i=>by show (match pD tb t.length (gL tb t.length i) with|some i=>M'.box i|none=>_)=_;rw [kf]
 have e2:∀i v,M2.bX (gL tb t.length i) v=M'.bX i v:=fun i v=>by show (match pD tb t.length (gL tb t.length i) with|some i=>M'.bX i v|none=>_)=_;rw [kf]
 have c1:∀b o v,M'.cell b o=some v→M2.cell b o=some v:=fun _ _ _ x=>x
 have b1:∀id b,M'.box id=some b→M2.box (gL tb t.length id)=some b:=fun id b x=>by rw [e1];exact x
 have s1:∀t' v x,M'.bX t' v=some x→M2.bX (gL tb t.length t') v=some x:=fun t' v x y=>by rw [e2];exact y
 have le:M.Le M2:=by
  refine ⟨q3.cell,?_,?_,q3.fM⟩
  ·intro j b e
   show (match pD tb t.length j with|some i=>M'.box i|none=>M.box j)=some b
   cases hk:pD tb t.length j with
   |none=>exact e
   |some i=>exact q3.box i b (by show M.box (gL tb t.length i)=some b;rw [fk j i hk];exact e)
  ·intro j v x e
   show (match pD tb t.length j with|some i=>M'.bX i v|none=>M.bX j v)=some x
   cases hk:pD tb t.length j with
   |none=>exact e
   |some i=>exact q3.bX i v x (by show M.bX (gL tb t.length i) v=some x;rw [fk j i hk];exact e)
 have mk:∀b j o,own b=some j→pD tb t.length j=none→w.heap[b]? =some o→(∀z,o≠ .deferred z)→X1 b:=fun b j o e k hb hn=> .inr ⟨j,e,k,fun hm=>by
  rw [(hw.fM b hm).2] at hb
  exact hn _ (Option.some.inj hb).symm⟩
 have YO:∀b o,X1 b→w.heap[b]? =some o→w'.heap[b]? =some o:=fun b o x y=>by rw [q1.below.block b x];exact y
 have X5:∀b o,X1 b→M.cell b o=none→M2.cell b o=none:=by
  intro b o x y
  show M'.cell b o=none
  cases e:M'.cell b o with
  |none=>rfl
  |some v=>
   have:M.cell b o=some v:=q1.mj b o v e x
   rw [y] at this
   cases this
 classical
 let U4:Nat→Option Nat:=fun b=>if X1 b then own b else (TW b).map (gL tb t.length)
 have ow:∀b i,¬X1 b→TW b=some i→U4 b=some (gL tb t.length i):=fun b i x e=>by show (if X1 b then _ else _)=_;rw [if_neg x,e];rfl
 have YD:∀b j,X1 b→own b=some j→U4 b=some j:=fun b j x e=>by show (if X1 b then _ else _)=_;rw [if_pos x];exact e
 have X7:∀b,¬X1 b→¬w0.X b:=fun b x y=>x (.inl y)
 have inv:∀j o,bJ (pJ tb t s') j=o→(∃i,gL tb t.length i=j∧(bJ s' i).rn (gL tb t.length)=o)∨(pD tb t.length j=none∧bJ t j=o):=by
  intro j o e
  rw [Wk] at e
  cases hk:pD tb t.length j with
  |none=>rw [hk] at e;exact .inr ⟨rfl,e⟩
  |some i=>rw [hk] at e;exact .inl ⟨i,fk j i hk,e⟩
 have n1:∀j,pD tb t.length j=none→M2.box j=M.box j:=fun j k=>by show (match pD tb t.length j with|some i=>M'.box i|none=>M.box j)=_;rw [k]
 have n2:∀j v,pD tb t.length j=none→M2.bX j v=M.bX j v:=fun j v k=>by show (match pD tb t.length j with|some i=>M'.bX i v|none=>M.bX j v)=_;rw [k]
 refine ⟨v,M2,U4,rfl,⟨?_,q1.cells,?_,?_,?_,?_,?_,?_,?_⟩,⟨?_,?_⟩,le,q4.push _ c1 b1 s1⟩
 ·exact ⟨q1.below.os.trans hw.below.os,q1.below.tape.trans hw.below.tape,q1.below.output.trans hw.below.output,Nat.le_trans hw.below.size q1.below.size,fun k hk=>(q1.below.block k (.inl hk)).trans (hw.below.block k hk),hw.below.lt⟩
 ·intro b o v k hb
  exact hw.mj b o v (q1.mj b o v k (.inl hb)) hb
 ·intro b id e
  have e:(if X1 b then own b else (TW b).map (gL tb t.length))=some id:=e
  split at e
  ·rename_i hx
   exact Nat.lt_of_lt_of_le (hX b hx) q1.below.size
  ·rw [aat] at e
   obtain ⟨i,e,_⟩:=e
   exact q1.owned b i e
 ·intro j cs e
  rcases inv j _ e with ⟨i,rfl,hi⟩|⟨hk,hj⟩
  ·obtain ⟨c,hc,rfl⟩:=Ob.Ou hi
   obtain ⟨b,vs,ty,q⟩:=q1.box i c hc
   refine ⟨b,vs,ty,b1 _ _ q.box,X7 _ q.base,ow _ _ q.base q.own,q.none,q.dI,by simpa [D.iu] using q.len,fun k d v x y=> ?_,fun sz a len cap x=>q.room sz a len cap (by rw [← e2];exact x)⟩
   rw [D.iu,aau,aat] at x
   obtain ⟨d0,h0,rfl⟩:=x
   exact (q.rep k d0 v h0 y).push _ c1 b1 s1
  ·obtain ⟨b,vs,ty,q⟩:=hw.box j cs hj
   have x:=mk b j _ q.own hk q.dI (fun z hz=>by cases hz)
   exact ⟨b,vs,ty,le.box _ _ q.box,q.base,YD _ _ x q.own,fun o=>X5 b o x (q.none o),YO b _ x q.dI,q.len,fun i d v a c=>(q.rep i d v a c).mono le,fun sz a len cap c=>q.room sz a len cap (by rw [← n2 _ _ hk];exact c)⟩
 ·intro j ver sz e
  rcases inv j _ e with ⟨i,rfl,hi⟩|⟨hk,hj⟩
  ·obtain ⟨a,len,cap,q⟩:=q1.dD i ver sz (Ob.Ot hi)
   exact ⟨a,len,cap,s1 _ _ _ q.bX,fun v hv=>by rw [e2];exact q.last v hv,q.room.imp (fun x=>x) fun ⟨b,vs,ty,fz,ha,r⟩=>⟨b,vs,ty,fz,ha,X7 _ r.base,ow _ _ r.base r.own,r.dI,r.fz,r.cap,r.none⟩⟩
  ·obtain ⟨a,len,cap,q⟩:=hw.dD j ver sz hj
   refine ⟨a,len,cap,le.bX _ _ _ q.bX,fun v hv=>by rw [n2 _ _ hk];exact q.last v hv,q.room.imp (fun x=>x) fun ⟨b,vs,ty,fz,ha,r⟩=> ?_⟩
   have x:=mk b j _ r.own hk r.dI (fun z hz=>by cases hz)
   exact ⟨b,vs,ty,fz,ha,r.base,YD _ _ x r.own,YO b _ x r.dI,r.fz,r.cap,fun o ho=>X5 b o x (r.none o ho)⟩
 ·intro j F e
  rcases inv j _ rfl with ⟨i,rfl,hi⟩|⟨hk,hj⟩
  ·rw [← hi,Ob.EM] at e
   obtain ⟨b,T3,clock,q⟩:=q1.mp i F e
   exact ⟨b,T3,clock,b1 _ _ q.box,X7 _ q.base,ow _ _ q.base q.own,q.none,q.dI,q.fits⟩
  ·rw [← hj] at e
   obtain ⟨b,T3,clock,q⟩:=hw.mp j F e
   have x:=mk b j _ q.own hk q.dI (fun z hz=>by cases hz)
   exact ⟨b,T3,clock,le.box _ _ q.box,q.base,YD _ _ x q.own,fun o=>X5 b o x (q.none o),YO b _ x q.dI,q.fits⟩
 ·intro j k tt ps ag bd e
  rcases inv j _ e with ⟨i,rfl,hi⟩|⟨hk,hj⟩
  ·obtain ⟨t0,h0,rfl⟩:=Ob.Qd hi
   obtain ⟨l,r,q⟩:=q1.lp i k t0 ps ag bd h0
   exact ⟨l,r,b1 _ _ q.box,X7 _ q.base,ow _ _ q.base q.own,q.dI,q.st,q.pd,q.tm.push c1 b1 s1,q.ps,q.ag,q.bd⟩
  ·obtain ⟨l,r,q⟩:=hw.lp j k tt ps ag bd hj
   have x:=mk l j _ q.own hk q.dI (fun z hz=>by cases hz)
   exact ⟨l,r,q.aU le (YD _ _ x q.own) (YO l _ x q.dI)⟩
 ·intro b q
  exact ⟨X7 _ (q1.fM b q).1,(q1.fM b q).2⟩
 ·intro j hj
  rw [wB] at hj
  show (match pD tb t.length j with|some i=>M'.box i|none=>M.box j)=none
  rw [pD,if_neg (by omega)]
  exact q2.1 _ (by omega)
 ·intro j v hj
  rw [wB] at hj
  show (match pD tb t.length j with|some i=>M'.bX i v|none=>M.bX j v)=none
  rw [pD,if_neg (by omega)]
  exact q2.2 _ v (by omega)
def Sh (w:World) (m:Nat):Option Addr→List Value
  |none=> []
  |some a=>(aao m).map fun k=>(w.cell? (a.add k)).getD undef
end Go.Ev
namespace Go.Proofs.YtbfpahigdpigpaaGreat
open Go Go.Ev
theorem eE (f:Nat→Nat) (l:List Int):D.jR f (bD l)=bD l:=by
 rw [D.iu,bD,List.map_map]
 rfl
def rE {P:Program} (f:Nat→Ev P):Nat→List (Ev P)
  |0=> [tF]
  |j+1=>tT::tT::f j::rE f j
abbrev rZ {P:Program} {g:FuncId} {x y z d:D} {n:Int} {s s':List Ob} (h:ak P g [x,y,av n,z] s d s') {r:List D} {k:Nat} {c:Nat→D} (q:∀j,j<n.toNat→r[k+j*1]? =some (c j)):List (Ev P):= .aH _ _ _ _ _ h:: .go 64::rE (fun j=>if e:j<n.toNat then .get _ _ _ (q j e) else tF) n.toNat
abbrev wZ {P:Program} {g:FuncId} {x y z d:D} {n:Int} {s s':List Ob} (h:ak P g [x,y,av n,z] s d s') {r:Nat→List D} {k:Nat} {c:Nat→D} (q:∀j,j<n.toNat→nM (r j) (k+j) [c j] (r (j+1))):List (Ev P):= .aH _ _ _ _ _ h:: .go 64::((aao n.toNat).flatMap (fun j=> [tT,tT,tT,if e:j<n.toNat then .ej _ _ _ _ (q j e) else tF,.raw])++ [tF])
section
variable (o0:Ob) (cb cx fr st:List Int) (hc:cb.length≤16384) (hx:cx.length≤256) (hf:fr.length=64) (hs:st.length=264) (a n:Int) (hn:n=1∨n=2∨n=4∨n=8)
abbrev sI:List Ob:=L4 o0 cb.length cx.length (bD cb) (bD cx) (bD fr) (bD st)
include hn
theorem xd {id:Nat} {l:List Int} (hI:(id=4∧l=cb)∨(id=7∧l=cx)∨(id=8∧l=fr)∨(id=9∧l=st)) (k:Nat) (hk:k+n.toNat≤l.length) (hA:ak Z9 146 [.ptr false 1 0,au a,av n,ax false] (sI o0 cb cx fr st) (.aL [.sub id k 1 n.toNat (some n.toNat),av 0]) (sI o0 cb cx fr st)):
  ak Z9 115 [.ptr false 1 0,au a,av n] (sI o0 cb cx fr st) (.aL [au (L0 l k n.toNat),av 0]) (sI o0 cb cx fr st):=by
 rw [L0,oz n.toNat k l hk]
 have q:∀j,j<n.toNat→(bD l)[k+j*1]? =some (aC (l.getD (k+j) 0)):=fun j h=>FT j (by omega)
 rcases hI with ⟨rfl,rfl⟩|⟨rfl,rfl⟩|⟨rfl,rfl⟩|⟨rfl,rfl⟩<;>rcases hn with rfl|rfl|rfl|rfl<;>exact ak.ai (aU:=aao 10) mixed (rZ hA q) (by kernel_rfl)
theorem BH (w:Int) {id:Nat} {l:List Int} {S:List Ob} (k:Nat) (hI:(id=7∧l=cx∧S=L4 o0 cb.length cx.length (bD cb) (F5 (bD cx) k w n.toNat) (bD fr) (bD st))∨(id=8∧l=fr∧S=L4 o0 cb.length cx.length (bD cb) (bD cx) (F5 (bD fr) k w n.toNat) (bD st))∨(id=9∧l=st∧S=L4 o0 cb.length cx.length (bD cb) (bD cx) (bD fr) (F5 (bD st) k w n.toNat))) (hk:k+n.toNat≤l.length) (hA:ak Z9 146 [.ptr false 1 0,au a,av n,ax true] (sI o0 cb cx fr st) (.aL [.sub id k 1 n.toNat (some n.toNat),av 0]) (sI o0 cb cx fr st)):
  ak Z9 113 [.ptr false 1 0,au a,av n,au w] (sI o0 cb cx fr st) (av 0) S:=by
 have q:∀j,j<n.toNat→nM (F5 (bD l) k w j) (k+j) _ (F5 (bD l) k w (j+1)):=fun j h=>OP l k w j (by omega)
 rcases hI with ⟨rfl,rfl,rfl⟩|⟨rfl,rfl,rfl⟩|⟨rfl,rfl,rfl⟩<;>rcases hn with rfl|rfl|rfl|rfl<;>exact ak.ai (aU:=aao 10) mixed (wZ hA q) (by kernel_rfl)
include hc hx hf hs
theorem Po:ak Z9 115 [.ptr false 1 0,au a,av n] (sI o0 cb cx fr st) (match jE cb cx fr st a n with|some z=> .aL [au z,av 0]|none=> .aL [au 0,av 20]) (sI o0 cb cx fr st):=by
 have hA:=FX o0 (bD cb) (bD cx) (bD fr) (bD st) cb.length cx.length hc hx a n false hn
 unfold jE
 unfold Mq at hA
 cases h0:iP 1048576 cb.length a n with
 |true=>
  rw [if_pos ⟨h0,rfl⟩] at hA
  exact xd o0 cb cx fr st a n hn (.inl ⟨rfl,rfl⟩) _ (of_le h0 (by omega)) hA
 |false=>
 rw [if_neg (by rw [h0];simp)] at hA
 cases h1:iP 2097152 cx.length a n with
 |true=>
  rw [if_pos h1] at hA
  exact xd o0 cb cx fr st a n hn (.inr (.inl ⟨rfl,rfl⟩)) _ (of_le h1 (by omega)) hA
 |false=>
 rw [if_neg (by rw [h1];simp)] at hA
 cases h2:iP 3145728 64 a n with
 |true=>
  rw [if_pos h2] at hA
  exact xd o0 cb cx fr st a n hn (.inr (.inr (.inl ⟨rfl,rfl⟩))) _ (by rw [hf];exact of_le h2 (by omega)) hA
 |false=>
 rw [if_neg (by rw [h2];simp)] at hA
 cases h3:iP 4194304 264 a n with
 |true=>
  rw [if_pos h3] at hA
  exact xd o0 cb cx fr st a n hn (.inr (.inr (.inr ⟨rfl,rfl⟩))) _ (by rw [hs];exact of_le h3 (by omega)) hA
 |false=>
 rw [if_neg (by rw [h3];simp)] at hA
 exact ak.ai (aU:=aao 10) mixed [.aH _ _ _ _ _ hA,.go 64,tF] (by kernel_rfl)
theorem Mh (w:Int):ak Z9 113 [.ptr false 1 0,au a,av n,au w] (sI o0 cb cx fr st) (match ir cx fr st a n w with|some _=> .int .i64 0|none=> .int .i64 20) (match ir cx fr st a n w with|some r=>L4 o0 cb.length cx.length (bD cb) (bD r.1) (bD r.2.1) (bD r.2.2)|none=>sI o0 cb cx fr st):=by
 have hA:=FX o0 (bD cb) (bD cx) (bD fr) (bD st) cb.length cx.length hc hx a n true hn
 unfold ir
 unfold Mq at hA
 rw [if_neg (by simp)] at hA
 cases h1:iP 2097152 cx.length a n with
 |true=>
  rw [if_pos h1] at hA
  have:=BH o0 cb cx fr st a n hn w _ (.inl ⟨rfl,rfl,rfl⟩) (of_le h1 (by omega)) hA
  rw [we] at this
  exact this
 |false=>
 rw [if_neg (by rw [h1];simp)] at hA
 cases h2:iP 3145728 64 a n with
 |true=>
  rw [if_pos h2] at hA
  have:=BH o0 cb cx fr st a n hn w _ (.inr (.inl ⟨rfl,rfl,rfl⟩)) (by rw [hf];exact of_le h2 (by omega)) hA
  rw [we] at this
  exact this
 |false=>
 rw [if_neg (by rw [h2];simp)] at hA
 cases h3:iP 4194304 264 a n with
 |true=>
  rw [if_pos h3] at hA
  have:=BH o0 cb cx fr st a n hn w _ (.inr (.inr ⟨rfl,rfl,rfl⟩)) (by rw [hs];exact of_le h3 (by omega)) hA
  rw [we] at this
  exact this
 |false=>
 rw [if_neg (by rw [h3];simp)] at hA
 exact ak.ai (aU:=aao 10) mixed [.aH _ _ _ _ _ hA,.go 64,tF] (by kernel_rfl)
end
abbrev dC (q:D) (cb:List Int):List D:= [aZ 1 (bD cb),q,.dm 3 1 64,.dm 5 1 264]
abbrev dS (y0 y1:Ob) (q:D) (cb fr st:List Int):List Ob:= [y0,y1,aF,ay (bD fr),ay (dC q cb),ay (bD st)]
abbrev BF (q:D) (y1:Ob) (cx:List Int):Prop:=(q= .dm 1 1 cx.length∧y1= .box (bD cx))∨(q= .aY .no 1 (bD cx)∧cx= [])
section
variable (y0 y1:Ob) (q:D) (cb cx fr st:List Int) (hq:BF q y1 cx) (hc:cb.length≤16384) (hx:cx.length≤256) (hf:fr.length=64) (hs:st.length=264) (a n:Int) (hn:n=1∨n=2∨n=4∨n=8)
include hq
theorem rM {d:D} {B:Int} {L:Nat} (n0:1≤n) (hl:L≤16384) (hd:(d= .aY .no 1 (bD cb)∧(bD cb).length=L)∨(d=q∧cx.length=L)∨(d= .dm 3 1 64∧L=64)∨(d= .dm 5 1 264∧L=264)):
  ∃k:Int,(iP B L a n=true→k=(mi B a:Int))∧ak Z9 84 [au a,av n,au B,d] (dS y0 y1 q cb fr st) (.aL [av k,ax (iP B L a n)]) (dS y0 y1 q cb fr st):=by
 have hB:0≤abz.u64.wrap (a - B):=by rw [bN];omega
 have hw:abz.u64.wrap (L:Int)=(L:Int):=by rw [bN];omega
 by_cases p:a<B
 ·have k0:decide (a<B)=true:=b8 p
  rw [show iP B L a n=false from bF (by omega)]
  refine ⟨0,(fun h=>by cases h),?_⟩
  rcases hd with ⟨rfl,rfl⟩|⟨rfl,rfl⟩|⟨rfl,rfl⟩|⟨rfl,rfl⟩<;>rcases hq with ⟨rfl,rfl⟩|⟨rfl,rfl⟩<;>exact ak.ai (aU:=aao 6) mixed (Z7 7 (tC (eF k0))++ [tC k0,tT]) (by kernel_rfl)
 have k0:decide (a<B)=false:=bF p
 have hk:∀v,decide (abz.u64.wrap (a - B)≥(L:Int))=v→decide (abz.u64.wrap (a - B)≥abz.u64.wrap (L:Int))=v:=fun v h=>by rw [hw];exact h
 by_cases p1:abz.u64.wrap (a - B)≥(L:Int)
 ·rw [show iP B L a n=false from bF (by omega)]
  refine ⟨0,(fun h=>by cases h),?_⟩
  have k1:=hk _ (b8 p1)
  rcases hd with ⟨rfl,rfl⟩|⟨rfl,rfl⟩|⟨rfl,rfl⟩|⟨rfl,rfl⟩<;>rcases hq with ⟨rfl,rfl⟩|⟨rfl,rfl⟩<;>exact ak.ai (aU:=aao 6) mixed (Z7 7 (tC (eF k0))++ [tC k0,tC k1]) (by kernel_rfl)
 have k1:=hk _ (bF p1)
 have YA:abz.i64.wrap (abz.u64.wrap (a - B))=(mi B a:Int):=by unfold mi;rw [aN];omega
 refine ⟨_,fun _=>rfl,?_⟩
 have e:D.aL [av (abz.i64.wrap (abz.u64.wrap (a - B))),ax (decide (abz.i64.wrap ((L:Int) - abz.i64.wrap (abz.u64.wrap (a - B)))≥n))]= .aL [av (mi B a:Int),ax (iP B L a n)]:=by
  rw [YA]
  congr 4
  unfold iP mi
  refine decide_eq_decide.2 ?_
  rw [aN];omega
 refine ak.cast ?_ e rfl
 clear e YA
 rcases hd with ⟨rfl,rfl⟩|⟨rfl,rfl⟩|⟨rfl,rfl⟩|⟨rfl,rfl⟩<;>rcases hq with ⟨rfl,rfl⟩|⟨rfl,rfl⟩<;>exact ak.ai (aU:=aao 6) mixed (Z7 7 (tC (eF k0))++ [tC k0,tC k1]) (by kernel_rfl)
theorem Li (w:Bool) (n0:1≤n) (hc:cb.length≤16384) (hx:cx.length≤256):∃(d:D) (k:Int) (ok:Bool),ak Z9 88 [.ptr false 4 0,au a,av n,ax w] (dS y0 y1 q cb fr st) (.aL [d,av k,ax ok]) (dS y0 y1 q cb fr st)∧
  ((iP 1048576 cb.length a n=true∧d= .aY .no 1 (bD cb)∧k=(mi 1048576 a:Int)∧ok= !w)∨
  (iP 1048576 cb.length a n=false∧iP 2097152 cx.length a n=true∧d=q∧k=(mi 2097152 a:Int)∧ok=true)∨
  (iP 1048576 cb.length a n=false∧iP 2097152 cx.length a n=false∧iP 3145728 64 a n=true∧d= .dm 3 1 64∧k=(mi 3145728 a:Int)∧ok=true)∨
  (iP 1048576 cb.length a n=false∧iP 2097152 cx.length a n=false∧iP 3145728 64 a n=false∧iP 4194304 264 a n=true∧d= .dm 5 1 264∧k=(mi 4194304 a:Int)∧ok=true)∨
  (iP 1048576 cb.length a n=false∧iP 2097152 cx.length a n=false∧iP 3145728 64 a n=false∧iP 4194304 264 a n=false∧d= .dm 5 1 264∧ok=false)):=by
 obtain ⟨k0,e0,h0⟩:=rM y0 y1 q cb cx fr st hq a n (B:=1048576) n0 (by rw [aQ];exact hc) (.inl ⟨rfl,rfl⟩)
 obtain ⟨k1,e1,h1⟩:=rM y0 y1 q cb cx fr st hq a n (B:=2097152) n0 (by omega) (.inr (.inl ⟨rfl,rfl⟩))
 obtain ⟨k2,e2,h2⟩:=rM y0 y1 q cb cx fr st hq a n (B:=3145728) (L:=64) n0 (by omega) (.inr (.inr (.inl ⟨rfl,rfl⟩)))
 obtain ⟨k3,e3,h3⟩:=rM y0 y1 q cb cx fr st hq a n (B:=4194304) (L:=264) n0 (by omega) (.inr (.inr (.inr ⟨rfl,rfl⟩)))
 rw [aQ] at h0 e0
 cases i0:iP 1048576 cb.length a n with
 |true=>
  rw [i0] at h0
  cases e0 i0
  exact ⟨_,_,_,by rcases hq with ⟨rfl,rfl⟩|⟨rfl,rfl⟩<;>exact ak.ai (aU:=aao 6) mixed [.aH _ _ _ _ _ h0,tT] (by kernel_rfl),.inl ⟨rfl,rfl,rfl,rfl⟩⟩
 |false=>
 rw [i0] at h0
 cases i1:iP 2097152 cx.length a n with
 |true=>
  rw [i1] at h1
  cases e1 i1
  exact ⟨_,_,_,by rcases hq with ⟨rfl,rfl⟩|⟨rfl,rfl⟩<;>exact ak.ai (aU:=aao 6) mixed [.aH _ _ _ _ _ h0,tF,.aH _ _ _ _ _ h1,tT] (by kernel_rfl),.inr (.inl ⟨rfl,rfl,rfl,rfl,rfl⟩)⟩
 |false=>
 rw [i1] at h1
 cases i2:iP 3145728 64 a n with
 |true=>
  rw [i2] at h2
  cases e2 i2
  exact ⟨_,_,_,by rcases hq with ⟨rfl,rfl⟩|⟨rfl,rfl⟩<;>exact ak.ai (aU:=aao 6) mixed [.aH _ _ _ _ _ h0,tF,.aH _ _ _ _ _ h1,tF,.aH _ _ _ _ _ h2,tT] (by kernel_rfl),.inr (.inr (.inl ⟨rfl,rfl,rfl,rfl,rfl,rfl⟩))⟩
 |false=>
 rw [i2] at h2
 refine ⟨.dm 5 1 264,k3,iP 4194304 264 a n,by rcases hq with ⟨rfl,rfl⟩|⟨rfl,rfl⟩<;>exact ak.ai (aU:=aao 6) mixed [.aH _ _ _ _ _ h0,tF,.aH _ _ _ _ _ h1,tF,.aH _ _ _ _ _ h2,tF,.aH _ _ _ _ _ h3] (by kernel_rfl),?_⟩
 cases i3:iP 4194304 264 a n with
 |true=>exact .inr (.inr (.inr (.inl ⟨rfl,rfl,rfl,rfl,rfl,e3 i3,rfl⟩)))
 |false=>exact .inr (.inr (.inr (.inr ⟨rfl,rfl,rfl,rfl,rfl,rfl⟩)))
end
def NP (w:Int):Nat→Int
  |0=>w
  |j+1=>(NP w j).fdiv 256
theorem Ju (w:Int):∀j,NP w j=w.fdiv (256^j)
 |0=>by simp [NP]
 |j+1=>by
  rw [NP,Ju w j,aaL _ (by decide),aaL _ (Int.pow_nonneg (by decide)),aaL _ (Int.pow_nonneg (by decide)),Int.ediv_ediv_of_nonneg (Int.pow_nonneg (by decide)),Int.pow_succ]
def NL (cs:List D) (k:Nat) (w:Int):Nat→List D
  |0=>cs
  |j+1=>(NL cs k w j).set (aal (abz.i64.wrap ((k:Int)+(j:Int)))*1) (.int .u8 (abz.u8.wrap (abz.u64.wrap ((Z8 64 (NP w j)&&&Z8 64 255).toNat:Int))))
theorem BI (l:List Int) (k:Nat) (w:Int):∀j,k+j≤16384→NL (bD l) k w j=bD (F6 l k w j)
 |0,_=>rfl
 |j+1,h=>by
  have e1:aal (abz.i64.wrap ((k:Int)+(j:Int)))*1=k+j*1:=by rw [aN];omega
  have e2:((Z8 64 (NP w j)&&&Z8 64 255).toNat:Int)=NP w j%256:=and_ones 64 8 (by omega) _
  rw [NL,BI l k w j (by omega),F6,e1,e2,Ju]
  have e3:abz.u8.wrap (abz.u64.wrap (w.fdiv (256^j)%256))=abz.u8.wrap (w.fdiv (256^j)):=by
   generalize w.fdiv (256^j)=z
   rw [bN,bo,bo];omega
  rw [e3]
  simp [bD,List.map_set]
theorem OQ (l:List Int) (k:Nat) (w:Int) (j:Nat) (h:k+j<l.length) (hl:l.length≤16384):nM (NL (bD l) k w j) (aal (abz.i64.wrap ((k:Int)+(j:Int)))*1) [aC (abz.u8.wrap (abz.u64.wrap ((Z8 64 (NP w j)&&&Z8 64 255).toNat:Int)))] (NL (bD l) k w (j+1)):=by
 rw [NL]
 exact na (by rw [BI l k w j (by omega),aQ,oq,aN];omega)
abbrev iN (n:Int):Nat:=if n=1 then 0 else if n=2 then 1 else if n=4 then 2 else 3
abbrev fZ {P:Program} {g:FuncId} {x y z d:D} {n:Int} {s s':List Ob} (h:ak P g [x,y,av n,z] s d s'):List (Ev P):=tF:: .inl::((Z7 (iN n) [tT,tT,tF]++Z7 (3 - iN n) [tF,tF,tT]).flatten++ [tF,.aH _ _ _ _ _ h])
def dE {P:Program} (f:Nat→List (Ev P)):Nat→List (Ev P)
  |0=> [tF]
  |j+1=>tT::(f j++dE f j)
abbrev gZ {P:Program} {g:FuncId} {x y z d:D} {n:Int} {s s':List Ob} (h:ak P g [x,y,av n,z] s d s') {r:List D} {i:Nat→Nat} {c:Nat→D} {b:Nat→Bool} (t:∀j,j<n.toNat→b j=true) (q:∀j,j<n.toNat→r[i j]? =some (c j)):List (Ev P):=
  fZ h++tF:: .go 64::dE (fun j=>if e:j<n.toNat then [.cX _ true (t j e),.get _ _ _ (q j e)] else []) n.toNat
abbrev Tf {P:Program} {g:FuncId} {x y z d:D} {n:Int} {s s':List Ob} (h:ak P g [x,y,av n,z] s d s') {r:Nat→List D} {i:Nat→Nat} {c:Nat→D} {b:Nat→Bool} (t:∀j,j<n.toNat→b j=true) (q:∀j,j<n.toNat→nM (r j) (i j) [c j] (r (j+1))):List (Ev P):=
  fZ h++tF:: .go 64::((aao n.toNat).flatMap (fun j=>tT::if e:j<n.toNat then [.cX _ true (t j e),.ej _ _ _ _ (q j e),.raw] else [])++ [tF])
section
variable (y0 y1:Ob) (q:D) (cb cx fr st:List Int) (hq:BF q y1 cx) (hc:cb.length≤16384) (hx:cx.length≤256) (hf:fr.length=64) (hs:st.length=264) (a n:Int) (hn:n=1∨n=2∨n=4∨n=8)
theorem S7 {l:List Int} {k:Nat} (hk:k+n.toNat≤l.length) (hl:l.length≤16384):∀j,j<n.toNat→(bD l)[aal (abz.i64.wrap ((k:Int)+(j:Int)))*1]? =some (aC (l.getD (k+j) 0)):=fun j h=>by
 rw [show aal (abz.i64.wrap ((k:Int)+(j:Int)))*1=k+j*1 by rw [aN];omega]
 exact FT j (by omega)
include hn
theorem Qg (k:Nat) (hk:k+n.toNat≤cb.length) (hc:cb.length≤16384) (hq:BF q y1 cx) (hA:ak Z9 88 [.ptr false 4 0,au a,av n,ax false] (dS y0 y1 q cb fr st) (.aL [aZ 1 (bD cb),av k,ax true]) (dS y0 y1 q cb fr st)):
  ak Z9 56 [.ptr false 4 0,au a,av n] (dS y0 y1 q cb fr st) (.aL [au (L0 cb k n.toNat),av 0]) (dS y0 y1 q cb fr st):=by
 rw [L0,oz n.toNat k cb hk]
 have g:∀j,j<n.toNat→(bD cb)[aal (abz.i64.wrap ((k:Int)+(j:Int)))]? =some (aC (cb.getD (k+j) 0)):=fun j h=>(Nat.mul_one _▸S7 n hk hc j h:)
 have t:∀j,j<n.toNat→decide (0≤abz.i64.wrap ((k:Int)+(j:Int)))=true:=fun j h=>by rw [aN];exact b8 (by omega)
 rcases hq with ⟨rfl,rfl⟩|⟨rfl,rfl⟩<;>rcases hn with rfl|rfl|rfl|rfl<;>exact ak.ai (aU:=aao 6) mixed (gZ hA t g) (by kernel_rfl)
theorem J7 {d:D} {l:List Int} {L:Nat} (hL:l.length=L) (hl:L≤264) (k:Nat) (hk:k+n.toNat≤L) (hd:(d= .dm 1 1 L∧l=cx∧q= .dm 1 1 L∧y1= .box (bD cx))∨(BF q y1 cx∧d= .dm 3 1 L∧l=fr∧L=64)∨(BF q y1 cx∧d= .dm 5 1 L∧l=st∧L=264)) (hA:ak Z9 88 [.ptr false 4 0,au a,av n,ax false] (dS y0 y1 q cb fr st) (.aL [d,av k,ax true]) (dS y0 y1 q cb fr st)):
  ak Z9 56 [.ptr false 4 0,au a,av n] (dS y0 y1 q cb fr st) (.aL [au (L0 l k n.toNat),av 0]) (dS y0 y1 q cb fr st):=by
 rw [L0,oz n.toNat k l (by omega)]
 have g:=S7 n (l:=l) (k:=k) (by omega) (by omega)
 have t:∀j,j<n.toNat→decide (0≤abz.i64.wrap ((k:Int)+(j:Int))∧abz.i64.wrap ((k:Int)+(j:Int))<(L:Int))=true:=fun j h=>by rw [aN];exact b8 (by omega)
 clear hL
 rcases hd with ⟨rfl,rfl,rfl,rfl⟩|⟨⟨rfl,rfl⟩|⟨rfl,rfl⟩,rfl,rfl,rfl⟩|⟨⟨rfl,rfl⟩|⟨rfl,rfl⟩,rfl,rfl,rfl⟩<;>rcases hn with rfl|rfl|rfl|rfl<;>exact ak.ai (aU:=aao 6) mixed (gZ hA t g) (by kernel_rfl)
theorem I0 (w:Int) {d:D} {l:List Int} {L:Nat} {S:List Ob} (hL:l.length=L) (hl:L≤264) (k:Nat) (hk:k+n.toNat≤L) (hd:(d= .dm 1 1 L∧l=cx∧q= .dm 1 1 L∧y1= .box (bD cx)∧S=dS y0 (ay (bD (F6 l k w n.toNat))) q cb fr st)∨(BF q y1 cx∧d= .dm 3 1 L∧l=fr∧L=64∧S=dS y0 y1 q cb (F6 l k w n.toNat) st)∨(BF q y1 cx∧d= .dm 5 1 L∧l=st∧L=264∧S=dS y0 y1 q cb fr (F6 l k w n.toNat))) (hA:ak Z9 88 [.ptr false 4 0,au a,av n,ax true] (dS y0 y1 q cb fr st) (.aL [d,av k,ax true]) (dS y0 y1 q cb fr st)):
  ak Z9 54 [.ptr false 4 0,au a,av n,au w] (dS y0 y1 q cb fr st) (av 0) S:=by
 have p:∀j,j<n.toNat→nM (NL (bD l) k w j) _ _ (NL (bD l) k w (j+1)):=fun j h=>OQ l k w j (by omega) (by omega)
 have t:∀j,j<n.toNat→decide (0≤abz.i64.wrap ((k:Int)+(j:Int))∧abz.i64.wrap ((k:Int)+(j:Int))<(L:Int))=true:=fun j h=>by rw [aN];exact b8 (by omega)
 have e:=BI l k w n.toNat (by omega)
 unfold dS at hd
 rw [← e] at hd
 clear hL e
 rcases hd with ⟨rfl,rfl,rfl,rfl,rfl⟩|⟨⟨rfl,rfl⟩|⟨rfl,rfl⟩,rfl,rfl,rfl,rfl⟩|⟨⟨rfl,rfl⟩|⟨rfl,rfl⟩,rfl,rfl,rfl,rfl⟩<;>rcases hn with rfl|rfl|rfl|rfl<;>exact ak.ai (aU:=aao 6) mixed (Tf hA t p) (by kernel_rfl)
end
def yX (q:D) (y1:Ob) (c:List Int):Ob:=match q with| .dm _ _ _=> .box (bD c)|_=>y1
theorem Kd {q:D} {y1:Ob} {cx:List Int} (h:BF q y1 cx) {B a n:Int} (hn:1≤n) (i:iP B cx.length a n=true):q= .dm 1 1 cx.length∧y1= .box (bD cx):=by
 rcases h with h|⟨_,rfl⟩
 ·exact h
 ·have:=N1 i
  have h0:0≤abz.u64.wrap (a - B):=by rw [bN];omega
  simp only [List.length_nil] at this
  omega
section
variable (y0 y1:Ob) (q:D) (cb cx fr st:List Int) (hq:BF q y1 cx) (hc:cb.length≤16384) (hx:cx.length≤256) (hf:fr.length=64) (hs:st.length=264) (a n:Int) (hn:n=1∨n=2∨n=4∨n=8)
include hn hq hc hx hf hs
theorem Nm:ak Z9 56 [.ptr false 4 0,au a,av n] (dS y0 y1 q cb fr st) (match jE cb cx fr st a n with|some z=> .aL [au z,av 0]|none=> .aL [au 0,av 20]) (dS y0 y1 q cb fr st):=by
 obtain ⟨d,k,ok,hA,h⟩:=Li y0 y1 q cb cx fr st hq a n false (by omega) hc hx
 unfold jE
 rcases h with ⟨i0,rfl,rfl,rfl⟩|⟨i0,i1,rfl,rfl,rfl⟩|⟨i0,i1,i2,rfl,rfl,rfl⟩|⟨i0,i1,i2,i3,rfl,rfl,rfl⟩|⟨i0,i1,i2,i3,rfl,rfl⟩
 ·rw [if_pos i0]
  exact Qg y0 y1 q cb cx fr st a n hn _ (of_le i0 (by omega)) hc hq hA
 ·rw [if_neg (by rw [i0];simp),if_pos i1]
  obtain ⟨rfl,rfl⟩:=Kd hq (by omega) i1
  exact J7 y0 _ _ cb cx fr st a n hn rfl (by omega) _ (of_le i1 (by omega)) (.inl ⟨rfl,rfl,rfl,rfl⟩) hA
 ·rw [if_neg (by rw [i0];simp),if_neg (by rw [i1];simp),if_pos i2]
  exact J7 y0 _ _ cb cx fr st a n hn hf (by omega) _ (of_le i2 (by omega)) (.inr (.inl ⟨hq,rfl,rfl,rfl⟩)) hA
 ·rw [if_neg (by rw [i0];simp),if_neg (by rw [i1];simp),if_neg (by rw [i2];simp),if_pos i3]
  exact J7 y0 _ _ cb cx fr st a n hn hs (by omega) _ (of_le i3 (by omega)) (.inr (.inr ⟨hq,rfl,rfl,rfl⟩)) hA
 ·rw [if_neg (by rw [i0];simp),if_neg (by rw [i1];simp),if_neg (by rw [i2];simp),if_neg (by rw [i3];simp)]
  rcases hq with ⟨rfl,rfl⟩|⟨rfl,rfl⟩<;>rcases hn with rfl|rfl|rfl|rfl<;>exact ak.ai (aU:=aao 6) mixed (fZ hA++ [tT]) (by kernel_rfl)
theorem Lo (w:Int):ak Z9 54 [.ptr false 4 0,au a,av n,au w] (dS y0 y1 q cb fr st) (match ir cx fr st a n w with|some _=> .int .i64 0|none=> .int .i64 20) (match ir cx fr st a n w with|some r=>dS y0 (yX q y1 r.1) q cb r.2.1 r.2.2|none=>dS y0 y1 q cb fr st):=by
 obtain ⟨d,k,ok,hA,h⟩:=Li y0 y1 q cb cx fr st hq a n true (by omega) hc hx
 have yq:∀c,BF q y1 c→yX q y1 c=y1:=fun c h=>by rcases h with ⟨rfl,rfl⟩|⟨rfl,_⟩<;>rfl
 have no:(d= .aY .no 1 (bD cb)∨d= .dm 5 1 264)→ok=false→ak Z9 54 [.ptr false 4 0,au a,av n,au w] (dS y0 y1 q cb fr st) (av 20) (dS y0 y1 q cb fr st):=fun hd e=>by
  subst e
  clear h
  rcases hd with rfl|rfl<;>rcases hq with ⟨rfl,rfl⟩|⟨rfl,rfl⟩<;>rcases hn with rfl|rfl|rfl|rfl<;>exact ak.ai (aU:=aao 6) mixed (fZ hA++ [tT]) (by kernel_rfl)
 unfold ir
 rcases h with ⟨i0,rfl,rfl,rfl⟩|⟨i0,i1,rfl,rfl,rfl⟩|⟨i0,i1,i2,rfl,rfl,rfl⟩|⟨i0,i1,i2,i3,rfl,rfl,rfl⟩|⟨i0,i1,i2,i3,rfl,rfl⟩
 ·have y0:=N1 i0
  rw [bN] at y0
  rw [if_neg (fun i=>by have y:=N1 i;rw [bN] at y;omega),if_neg (fun i=>by have y:=N1 i;rw [bN] at y;omega),if_neg (fun i=>by have y:=N1 i;rw [bN] at y;omega)]
  exact no (.inl rfl) rfl
 ·rw [if_pos i1]
  obtain ⟨rfl,rfl⟩:=Kd hq (by omega) i1
  exact I0 y0 _ _ cb cx fr st a n hn w rfl (by omega) _ (of_le i1 (by omega)) (.inl ⟨rfl,rfl,rfl,rfl,rfl⟩) hA
 ·rw [if_neg (by rw [i1];simp),if_pos i2]
  simp only [yq cx hq]
  exact I0 y0 _ _ cb cx fr st a n hn w hf (by omega) _ (of_le i2 (by omega)) (.inr (.inl ⟨hq,rfl,rfl,rfl,rfl⟩)) hA
 ·rw [if_neg (by rw [i1];simp),if_neg (by rw [i2];simp),if_pos i3]
  simp only [yq cx hq]
  exact I0 y0 _ _ cb cx fr st a n hn w hs (by omega) _ (of_le i3 (by omega)) (.inr (.inr ⟨hq,rfl,rfl,rfl,rfl⟩)) hA
 ·rw [if_neg (by rw [i1];simp),if_neg (by rw [i2];simp),if_neg (by rw [i3];simp)]
  exact no (.inr rfl) rfl
end
theorem m4 (l:List Int) (hc:cO (bD l)=some (bD l)) (bb:(bD l).all isByte=true) (hl:(bD l).length≤16384):aP Z9 50 ([aZ 1 (bD l)]) (aZ 1 (bD l)):=(aP.ai (d:= .aY (.fresh 1) 1 (bD l)) mixed Tryz.func50 (by kernel_rfl) [.len ((0:Nat)+aaa (bD l)) ((2147483648:Nat)) (by first|decide|omega|(simp;omega))]).to (by simp [wk,bf,cB])
theorem Gp (l:List Int) (hc:cO (bD l)=some (bD l)) (bb:(bD l).all isByte=true) (hl:(bD l).length≤16384) (h0:Nat.blt 0 (bD l).length=true):ak Z9 50 ([aZ 1 (bD l)]) ([]) (.dm 0 1 (bD l).length) ([ay (bD l)]):=(ak.ai (aU:= [0]) (d:= .dm 0 1 (aaa (bD l))) (s':= [ay (bD l)]) mixed [.go 0,.len (aaa (bD l)) ((2147483648:Nat)) (by first|decide|omega|(simp;omega)),.L7 _ _ hc,tC (v:=true) h0,.raw]).cast (by rfl) (by rfl)
theorem Q6 {P:Program} {f:FuncId} {args:List D} {s s':List Ob} {d:D} (h:ak P f args s d s'):ak P f args s d.bg s':=
 ⟨h.Ij,h.len,fun w0 M own w vs a b c=>Calls.mono (h.run w0 M own w vs a b c) fun _ _ ⟨v,M',TW,q1,q2,q3,q4,q5⟩=>⟨v,M',TW,q1,q2,q3,q4,q5.bg⟩⟩
section
variable (y0 y1:Ob) (q:D) (cb cx fr st:List Int) (hq:BF q y1 cx) (hx:cx.length≤256)
include hq hx
theorem Bm (hc:cb.length≤16384) (a:Int):ak Z9 51 [.ptr false 4 0,au a] (dS y0 y1 q cb fr st) (if iP 1048576 cb.length a 1=true then .aL [aZ 1 (bD (cb.drop (mi 1048576 a))),av 0] else .aL [.aY .tight 0 [],av 20]) (dS y0 y1 q cb fr st++if iP 1048576 cb.length a 1=true then [aF] else []):=by
 obtain ⟨k,e,h⟩:=rM y0 y1 q cb cx fr st hq a 1 (B:=1048576) (by decide) (by rw [aQ];exact hc) (.inl ⟨rfl,rfl⟩)
 rw [aQ] at h e
 cases i:iP 1048576 cb.length a 1 with
 |false=>
  rw [i] at h
  rcases hq with ⟨rfl,rfl⟩|⟨rfl,rfl⟩<;>exact ak.ai (aU:=aao 6) mixed [tF,.aH _ _ _ _ _ h,tT] (by kernel_rfl)
 |true=>
  rw [i] at h
  cases e i
  have le:=of_le i (by decide)
  have hS:=m4 (cb.drop (mi 1048576 a)) (eu _) (cD _) (by rw [aQ,List.length_drop];omega)
  rw [show bD (cb.drop (mi 1048576 a))=List.drop (mi 1048576 a) (bD cb) from List.map_drop ..] at hS ⊢
  have t:decide ((0:Int)≤(mi 1048576 a:Int)∧(mi 1048576 a:Int)≤((bD cb).length:Int))=true:=by rw [aQ];exact b8 (by omega)
  rcases hq with ⟨rfl,rfl⟩|⟨rfl,rfl⟩<;>exact ak.ai (aU:=aao 6) mixed [tF,.aH _ _ _ _ _ h,tF,.cX _ true t,aw hS] (by kernel_rfl)
theorem PF:ak Z9 30 [.ptr false 4 0] (dS y0 y1 q cb fr st) (aZ 1 (bD cx)) (dS y0 y1 q cb fr st++ [aF]):=by
 rcases hq with ⟨rfl,rfl⟩|⟨rfl,rfl⟩
 ·have hl:(bD cx).length=cx.length:=aQ cx
  have h:ak Z9 30 [.ptr false 4 0] (dS y0 (ay (bD cx)) (.dm 1 1 cx.length) cb fr st) (.aY (.tok 6 0) 1 (bD cx)) (dS y0 (ay (bD cx)) (.dm 1 1 cx.length) cb fr st++ [aF]):=(ak.ai (aU:=aao 6) mixed [tF,aO,.len cx.length 2147483648 (by omega),.go 2,.po _ _ _ _ (@A1 (bD cx) (cx.length*1) (by omega)),tC (v:=true) (cD cx)] (by kernel_rfl))
  exact Q6 h
 ·have hS:=m4 [] (eu _) (cD _) (by simp [bD])
  exact ak.ai (aU:=aao 6) mixed [tF,aw hS] (by kernel_rfl)
end
theorem Kc (X0 X2:List D) (b:List Int) (k:Nat) (bad w:Bool) (rr mm:Int) (l1:((bD b).length:Int)≤1000) (h:(k:Int)<((bD b).length:Int)) (v:Int) (hv:(bD b)[aal (abz.i64.wrap (abz.i64.wrap ((k:Int)+1) - 1))]? =some (aC v)):ak Z9 38 ([.ptr false 1 0]) ([ay X0,ay [aZ 1 (bD b),av ((k:Int)),ax bad,ax w,ao rr,ao mm],ay X2]) (av (abz.i64.wrap v)) ([ay X0,ay [aZ 1 (bD b),av (abz.i64.wrap ((k:Int)+1)),ax bad,ax w,ao rr,ao mm],ay X2]):=(ak.ai (aU:= [0,1,2]) (d:= .int .i64 (abz.wrap abz.i64 v)) (s':= [ay X0,ay [aZ 1 (bD b),av (abz.i64.wrap ((↑k:Int)+(1:Int))),ax bad,ax w,ao rr,ao mm],ay X2]) mixed [tC (by ((try simp only [aQ,dk,bo,aN,bN,bS,cI,cz,ki,fO,bne_eq_false_iff_eq,aaK,aaU,aae,aax] at*);(try unfold dy at*);omega):(decide ((↑k:Int)≥(↑(aaa (bD b)):Int)))=false),.cX (decide ((0:Int)≤abz.i64.wrap (abz.i64.wrap ((↑k:Int)+(1:Int)) - (1:Int)))) true (by ((try simp only [aQ,dk,bo,aN,bN,bS,cI,cz,ki,fO,bne_eq_false_iff_eq,aaK,aaU,aae,aax] at*);(try unfold dy at*);omega)),.get _ _ _ hv]).cast (by rfl) (by rfl)
theorem GK (X0 X2:List D) (b:List Int) (k:Nat) (bad w:Bool) (rr mm:Int) (l1:((bD b).length:Int)≤1000) (h:((bD b).length:Int)≤(k:Int)):ak Z9 38 ([.ptr false 1 0]) ([ay X0,ay [aZ 1 (bD b),av ((k:Int)),ax bad,ax w,ao rr,ao mm],ay X2]) (av 0) ([ay X0,ay [aZ 1 (bD b),av ((k:Int)),ax true,ax w,ao rr,ao mm],ay X2]):=(ak.ai (aU:= [0,1,2]) (d:= .int .i64 0) (s':= [ay X0,ay [aZ 1 (bD b),av (↑k:Int),ax true,ax w,ao rr,ao mm],ay X2]) mixed [tC (by ((try simp only [aQ,dk,bo,aN,bN,bS,cI,cz,ki,fO,bne_eq_false_iff_eq,aaK,aaU,aae,aax] at*);(try unfold dy at*);omega):(decide ((↑k:Int)≥(↑(aaa (bD b)):Int)))=true)]).cast (by rfl) (by rfl)
abbrev BD (X0 X2:List D) (b:List Int) (k:Nat) (bad w:Bool) (rr mm:Int):List Ob:= [ay X0,ay [aZ 1 (bD b),av (k:Int),ax bad,ax w,ao rr,ao mm],ay X2]
theorem dL {b:List Int} (hb:dr b) (k:Nat):0≤aK b k∧aK b k≤255:=by
 unfold aK
 rw [aaf]
 cases e:b[k]? with
 |none=>simp
 |some v=>simpa using hb v (List.mem_of_getElem? e)
theorem bA (X0 X2:List D) (b:List Int) (hb:dr b) (hl:b.length≤1000) (k:Nat) (bad w:Bool) (rr mm:Int):ak Z9 38 [.ptr false 1 0] (BD X0 X2 b k bad w rr mm) (av (aK b k)) (BD X0 X2 b (aM b k) (cm b k bad) w rr mm):=by
 have l1:((bD b).length:Int)≤1000:=by rw [aQ];omega
 by_cases h:k<b.length
 ·have hw:abz.i64.wrap ((k:Int)+1)=((k+1:Nat):Int):=by rw [aN];omega
  have Vh:abz.i64.wrap (abz.i64.wrap ((k:Int)+1) - 1)=(k:Int):=by rw [hw,aN];omega
  have hv:(bD b)[aal (abz.i64.wrap (abz.i64.wrap ((k:Int)+1) - 1))]? =some (aC (aK b k)):=by
   rw [Vh,Int.toNat_natCast]
   unfold aK bD
   simp [h,aaf]
  have:=Kc X0 X2 b k bad w rr mm l1 (by rw [aQ];omega) (aK b k) hv
  have hr:=dL hb k
  have e:abz.i64.wrap (aK b k)=aK b k:=by rw [aN];omega
  have e1:aM b k=k+1:=by unfold aM;rw [if_pos h]
  have e2:cm b k bad=bad:=by unfold cm;rw [bF (by omega),Bool.or_false]
  rw [hw,e] at this
  rw [e1,e2]
  exact this
 ·have:=GK X0 X2 b k bad w rr mm l1 (by rw [aQ];omega)
  have e0:aK b k=0:=by unfold aK;rw [aaf,List.getElem?_eq_none (by omega)];rfl
  have e1:aM b k=k:=by unfold aM;rw [if_neg h]
  have e2:cm b k bad=true:=by unfold cm;rw [b8 (by omega),Bool.or_true]
  rw [e0,e1,e2]
  exact this
theorem JM (X0 X2:List D) (b:List Int) (hb:dr b) (hl:b.length≤1000) (k:Nat) (bad w:Bool) (rr mm:Int) (u:Int) (hs:aP Z9 59 [au (abz.u64.wrap (0+abz.u64.wrap (abz.u64.wrap (aK b (k))*1))),ao 8] (au u)):ak Z9 37 ([.ptr false 1 0,av 1]) ([ay X0,ay [aZ 1 (bD b),av ((k:Int)),ax (bad),ax w,ao rr,ao mm],ay X2]) (av (abz.i64.wrap u)) ([ay X0,ay [aZ 1 (bD b),av ((aM b (k):Nat)),ax (cm b (k) (bad)),ax w,ao rr,ao mm],ay X2,aF]):=(ak.ai (aU:= [0,1,2]) (d:= .int .i64 (abz.wrap abz.i64 u)) (s':= [ay X0,ay [aZ 1 (bD b),av (↑(aM b k):Int),ax (cm b k bad),ax w,ao rr,ao mm],ay X2,aF]) mixed [.go 64,tT,.aH _ _ _ _ _ (@bA (X0) (X2) (b) hb hl (k) (bad) (w) (rr) (mm)),tT,tF,aw hs]).cast (by rfl) (by rfl)
theorem JL (X0 X2:List D) (b:List Int) (hb:dr b) (hl:b.length≤1000) (k:Nat) (bad w:Bool) (rr mm:Int) (u:Int) (hs:aP Z9 59 [au (abz.u64.wrap (abz.u64.wrap (abz.u64.wrap (abz.u64.wrap (0+abz.u64.wrap (abz.u64.wrap (aK b (k))*1))+abz.u64.wrap (abz.u64.wrap (aK b (aM b (k)))*256))+abz.u64.wrap (abz.u64.wrap (aK b (aM b (aM b (k))))*65536))+abz.u64.wrap (abz.u64.wrap (aK b (aM b (aM b (aM b (k)))))*16777216))),ao 32] (au u)):ak Z9 37 ([.ptr false 1 0,av 4]) ([ay X0,ay [aZ 1 (bD b),av ((k:Int)),ax (bad),ax w,ao rr,ao mm],ay X2]) (av (abz.i64.wrap u)) ([ay X0,ay [aZ 1 (bD b),av ((aM b (aM b (aM b (aM b (k)))):Nat)),ax (cm b (aM b (aM b (aM b (k)))) (cm b (aM b (aM b (k))) (cm b (aM b (k)) (cm b (k) (bad))))),ax w,ao rr,ao mm],ay X2,aF]):=(ak.ai (aU:= [0,1,2]) (d:= .int .i64 (abz.wrap abz.i64 u)) (s':= [ay X0,ay [aZ 1 (bD b),av (↑(aM b (aM b (aM b (aM b k)))):Int),ax (cm b (aM b (aM b (aM b k))) (cm b (aM b (aM b k)) (cm b (aM b k) (cm b k bad)))),ax w,ao rr,ao mm],ay X2,aF]) mixed [.go 64,tT,.aH _ _ _ _ _ (@bA (X0) (X2) (b) hb hl (k) (bad) (w) (rr) (mm)),tT,tT,.aH _ _ _ _ _ (@bA (X0) (X2) (b) hb hl (aM b k) (cm b k bad) (w) (rr) (mm)),tT,tT,.aH _ _ _ _ _ (@bA (X0) (X2) (b) hb hl (aM b (aM b k)) (cm b (aM b k) (cm b k bad)) (w) (rr) (mm)),tT,tT,.aH _ _ _ _ _ (@bA (X0) (X2) (b) hb hl (aM b (aM b (aM b k))) (cm b (aM b (aM b k)) (cm b (aM b k) (cm b k bad))) (w) (rr) (mm)),tT,tF,aw hs]).cast (by rfl) (by rfl)
theorem Oh {a b c d:Int} (ha:0≤a∧a≤255) (hb:0≤b∧b≤255) (hc:0≤c∧c≤255) (hd:0≤d∧d≤255):
  abz.u64.wrap (abz.u64.wrap (abz.u64.wrap (abz.u64.wrap (0+abz.u64.wrap (abz.u64.wrap a*1))+abz.u64.wrap (abz.u64.wrap b*256))+abz.u64.wrap (abz.u64.wrap c*65536))+abz.u64.wrap (abz.u64.wrap d*16777216))=a+256*b+65536*c+16777216*d:=by
 simp only [bN]
 omega
theorem Jv {v:Int} (h:0≤v∧v≤4294967295):abz.i64.wrap (eV v 32)=abz.i32.wrap v:=by
 rw [show eV v 32=abz.u64.wrap (abz.i32.wrap v) from rfl,aN,bN,nF]
 omega
theorem P8 {v:Int} (h:0≤v∧v≤255):abz.i64.wrap (eV v 8)=abz.i8.wrap v:=by
 rw [show eV v 8=abz.u64.wrap (abz.i8.wrap v) from rfl,aN,bN,dk]
 omega
theorem dV (X0 X2:List D) (b:List Int) (hb:dr b) (hl:b.length≤1000) (k:Nat) (bad w:Bool) (rr mm:Int):ak Z9 37 [.ptr false 1 0,av 4] (BD X0 X2 b k bad w rr mm) (av (ez b k)) (BD X0 X2 b (dA b k) (dG b k bad) w rr mm++ [aF]):=by
 have h0:=dL hb k
 have h1:=dL hb (aM b k)
 have h2:=dL hb (aM b (aM b k))
 have h3:=dL hb (aM b (aM b (aM b k)))
 have e:=Oh h0 h1 h2 h3
 have:=JL X0 X2 b hb hl k bad w rr mm (eV (aK b k+256*aK b (aM b k)+65536*aK b (aM b (aM b k))+16777216*aK b (aM b (aM b (aM b k)))) 32) (by rw [e];exact kv _)
 rw [Jv (by omega)] at this
 exact this
theorem CV (X0 X2:List D) (b:List Int) (hb:dr b) (hl:b.length≤1000) (k:Nat) (bad w:Bool) (rr mm:Int):ak Z9 37 [.ptr false 1 0,av 1] (BD X0 X2 b k bad w rr mm) (av (uk b k)) (BD X0 X2 b (aM b k) (cm b k bad) w rr mm++ [aF]):=by
 have h0:=dL hb k
 have e:abz.u64.wrap (0+abz.u64.wrap (abz.u64.wrap (aK b k)*1))=aK b k:=by simp only [bN];omega
 have:=JM X0 X2 b hb hl k bad w rr mm (eV (aK b k) 8) (by rw [e];exact so _)
 rw [P8 h0] at this
 exact this
abbrev zX:List D:= [ao 0,ao 0,ao 0,ao 0,ao 0,av 0,av 0,ao 0]
abbrev xC (op w dst src base af aj cc:Int):List D:= [ao op,ao w,ao dst,ao src,ao base,av af,av aj,ao cc]
abbrev bR (b:List Int) (a:Int) (x w:Bool) (rr mm:Int):Ob:= .box [aZ 1 (bD b),av a,ax x,ax w,ao rr,ao mm]
abbrev fQ:HS:=⟨[0,2,5,6],[0,1,2],[]⟩
abbrev tQ (b:List Int) (n:Int) (half:Bool):List D:=((aZ 1 (bD b))::(cF)::(.ptr false 0 0)::(cF)::(cF)::(.ptr false 1 0)::(.ptr false 2 0)::(av n)::(ax half)::(un 19++(av n)::(un 200)))
abbrev tU (b:List Int):List D:=((aZ 1 (bD b))::(cF)::(.ptr false 0 0)::(cF)::(cF)::(.ptr false 1 0)::(.ptr false 2 0)::(un 222))
theorem ie:(∀l:List Int,(bD l).length=l.length)∧(∀n:Int,abz.i8.wrap n=(n+128)%256 - 128)∧(∀n:Int,abz.u8.wrap n=n%256)∧(∀n:Int,abz.i64.wrap n=(n+9223372036854775808)%18446744073709551616 - 9223372036854775808)∧(∀n:Int,abz.u64.wrap n=n%18446744073709551616)∧(∀ {p:Prop} [Decidable p],(decide p=true)=p)∧(∀ {p:Prop} [Decidable p],(decide p=false)↔ ¬p)∧(∀ {α:Type} [BEq α] [LawfulBEq α] {a b:α},(a==b)=true↔a=b)∧(∀ {α:Type} [BEq α] [LawfulBEq α] {a b:α},(a !=b)=true↔a≠b)∧(∀ {α:Type} [BEq α] [LawfulBEq α] {a b:α},(a==b)=false↔a≠b)∧(∀ {α:Type} [BEq α] [LawfulBEq α] {a b:α},(a !=b)=false↔a=b)∧(∀(b:Bool),((!b)=true)=(b=false))∧(∀(b:Bool),((!b)=false)=(b=true))∧(∀(a b:Bool),((a&&b)=true)=(a=true∧b=true))∧(∀(a b:Bool),((a||b)=true)=(a=true∨b=true)):=
 ⟨aQ,dk,bo,aN,bN,@bS,@cI,@cz,@ki,@fO,@bne_eq_false_iff_eq,by intro b;cases b<;>simp,by intro b;cases b<;>simp,by intro a b;simp,by intro a b;simp⟩
end Go.Proofs.YtbfpahigdpigpaaGreat
