import Derived.Test.YtbfpahigdpigpaaGreatV08
import Derived.Test.YtbfpahigdpigpaaGreatV12
import Derived.Test.YtbfpahigdpigpaaGreatV13
import Derived.Test.YtbfpahigdpigpaaGreatV14
import Derived.Test.YtbfpahigdpigpaaGreatV15
import Derived.Test.YtbfpahigdpigpaaGreatV16
import Derived.Test.YtbfpahigdpigpaaGreatV17
import Derived.Test.YtbfpahigdpigpaaGreatV19
open BitVec renaming ofInt→Zw
open List renaming replicate→Zx,length→ZA,getD_eq_getElem?_getD→ZF,range→ZL,append_assoc→ZM,length_append→ZR,nil_append→ZT,append_nil→aaH,length_singleton→aaJ,drop_drop→aaM,isPrefixOf_iff_prefix→aaN
open Go.Proofs.Tryz renaming prog→Zy,f4→aam,f21→aaq
open Bool renaming and_eq_true→ZD
open Int renaming not_lt→ZH,toNat→ZJ,toNat_natCast→aaE
open Nat renaming le_refl→ZP
open Go.Value renaming int→aap
open Go renaming IntKind→aaY
/- Contracts and plain laws that a statement's proof leans on (texts merged:MdRf,XQ8A,XQ9,XQ9A,DSB,DSC,DPC,EEB,EEC,DPD,EC0,ECB,EM9C,EM9D,EM10,EM11,EM12,EM13,EM14,EM15). -/
set_option linter.unusedVariables false
set_option linter.unusedSimpArgs false
set_option maxRecDepth 100000
set_option maxHeartbeats 8000000
namespace Go.Ev
open Go
theorem kq {x y:XS} {a b:Nat} (h:x=y) (k:a=b):NP.mk x a false=NP.mk y b false:=by rw [h,k]
theorem Aq:∀n:Fin 32,aC (n.val:Int)=1→(n.val=0∨n.val=2∨n.val=3∨n.val=4∨n.val=5∨n.val=6∨n.val=7∨n.val=8)∧0≤bh (n.val:Int)∧bh (n.val:Int)≤255:=by decide+kernel
theorem IB {n:Fin 32} (h:aC (n.val:Int)=1) {b:List Int} {half:Bool} {W rr mm:Int} {k:Nat} {bad:Bool} (hv:¬aM b k<192):
  bQ b (bh (n.val:Int)) half W rr mm k bad=⟨⟨(n.val:Int),W,dc (aM b k) mm,di (aM b k) rr,0,0,0,0⟩,aN b k,gq b k bad⟩:=by
 obtain ⟨h,_⟩:=Aq n h
 rcases h with e|e|e|e|e|e|e|e<;>rw [e]<;>simp [bQ,bh,ph,hv]
theorem xX:∀n:Fin 32,aC (n.val:Int)=3∨aC (n.val:Int)=4∨aC (n.val:Int)=5→(n.val:Int)≠1→(let c:=bh (n.val:Int);(c=129∨c=193∨c=211∨c=247)∧jR c (bO (n.val:Int))=n.val∧(aC (n.val:Int)=3→c=129∨(n.val:Int)=15)∧(aC (n.val:Int)=4→c=193∧(n.val:Int)≠15)∧(aC (n.val:Int)=5→c≠129∧c≠193∧(n.val:Int)≠15)):=by decide+kernel
theorem kG {n:Int} (h:n=129∨n=193∨n=211∨n=247) {b:List Int} {half:Bool} {W rr mm:Int} {k:Nat} {bad:Bool} :
  bQ b n half W rr mm k bad=mA b n (jR n (di (aM b k) rr%8)) W (dc (aM b k) mm) (aN b k) (gq b k bad):=by
 rcases h with e|e|e|e<;>rw [e]<;>simp [bQ]
theorem s8 {aa n:Int} (hb:aa=193∨aa=211) (n0:0≤n) (n1:n≤7):jR aa n≠15:=by
 have h:∀m:Fin 8,jR 193 (m.val:Int)≠15∧jR 211 (m.val:Int)≠15:=by decide+kernel
 have:=h ⟨n.toNat,by omega⟩
 have e:((n.toNat:Nat):Int)=n:=by omega
 simp only [e] at this
 rcases hb with rfl|rfl
 ·exact this.1
 ·exact this.2
theorem l0 {b:List Int} {k:Nat} (h:k≤b.length):dZ b k≤b.length∧dF b k≤b.length:=by
 unfold dZ dF
 have h1:=jy h
 have h2:=jy h1
 exact ⟨by split<;>omega,jy (jy h2)⟩
theorem OU (b:List Int):ER b 0≤b.length:=by
 have h0:ur b 0≤b.length:=by unfold ur;split;exact jy (Nat.zero_le _);exact Nat.zero_le _
 unfold ER
 split
 ·exact jy (jy h0)
 ·exact jy h0
theorem gi {c:Prop} [Decidable c] {r s:NP} {n:Nat} (h1:r.at_≤n) (h2:s.at_≤n):(if c then r else s).at_≤n:=by split<;>assumption
theorem J1 {b:List Int} {W rr mm:Int} {k:Nat} {bad:Bool} (hk:k≤b.length):(mV b W rr mm k bad).at_≤b.length:=by
 have h1:=jy hk
 have h2:=jy h1
 have q1:=l0 (l0 h1).1
 have q2:=l0 h1
 unfold mV
 exact gi h2 (gi h1 (gi h2 (gi q2.2 (gi q1.2 (gi q1.2 h1)))))
theorem JY {b:List Int} {n W mm:Int} {k:Nat} {bad:Bool} (hk:k≤b.length):(sx b n W mm k bad).at_≤b.length:=by
 unfold sx
 exact gi (jy hk) (gi (l0 hk).2 hk)
theorem JZ {b:List Int} {n o W ab:Int} {k:Nat} {bad:Bool} (hk:k≤b.length):(mA b n o W ab k bad).at_≤b.length:=by
 unfold mA
 exact gi (l0 hk).2 (gi (jy hk) hk)
theorem J2 (b:List Int):(lG b).at_≤b.length:=by
 have hk:=OU b
 have h1:=jy hk
 have m0:=l0 (l0 hk).1
 unfold lG bQ
 exact gi (gi m0.2 h1) (gi h1 (gi (JZ h1) (gi (l0 h1).2 (gi m0.2 (gi m0.2 (gi h1 (gi (l0 hk).2 (gi hk (gi (J1 hk) (JY hk))))))))))
set_option maxHeartbeats 2000000 in
theorem Mv {op w ab ae aa af ai cc : Int} (h : bL op w ab ae aa af ai cc = true) (t : List Int) :
    lG (aD op w ab ae aa af ai cc++t)=⟨⟨op,w,ab,ae,aa,af,ai,cc⟩,(aD op w ab ae aa af ai cc).length,false⟩:=by
  obtain ⟨⟨d0,d1,s0,s1,b0,b1,p0,p1,i0,i1⟩,hs⟩:=dA h
  have U3:aC op≠0:=by
    intro e
    rw [e] at hs
    simp [iK] at hs
  obtain ⟨k,rfl⟩:=sH U3
  unfold iK at hs
  split at hs
  · rename_i Wk
    simp only [ZD,bX] at hs
    obtain ⟨hw,rfl,rfl,rfl,rfl⟩:=hs
    have ew:=iV hw
    rcases Wk with h1|h1
    ·
      obtain ⟨c1,c2,c3,-⟩:=oo k h1
      obtain ⟨-,u0,u1⟩:=Aq k h1
      have e:aD (k.val:Int) w ab ae 0 0 0 0=bp (decide (w=64)) ae ab false++ [bh (k.val:Int),bm ae ab]:=by simp only [aD,h1,if_true]
      obtain ⟨q,hq,hd,ha⟩:=gy (b:=aD (k.val:Int) w ab ae 0 0 0 0++t) (wide:=decide (w=64)) (al:=false) (t:=bm ae ab::t) s0 s1 d0 d1 u0 u1 c2 c3 (by rw [e];simp)
      obtain ⟨g1,g2,g3,g4,g5,_⟩:=sw s0 s1 d0 d1 hd
      rw [ha,IB h1 g1,g2,g3,g4,g5,ew]
      refine kq rfl ?_
      rw [hq,e];simp
    ·
      have hk:(k.val:Int)=16:=by
        have:=gY (op:=(k.val:Int)) (by omega)
        revert h1
        rcases this with e|e|e|e|e|e|e|e|e|e|e|e|e|e|e|e|e|e|e|e|e|e|e|e|e|e|e|e|e|e|e|e<;>rw [e]<;>decide
      rw [hk]
      have e:aD 16 w ab ae 0 0 0 0=bp (decide (w=64)) ab ae false++ [15,175,bm ab ae]:=by
        simp only [aD,show aC 16=2 from rfl,show bh 16=175 from rfl,if_true,show ¬(2:Int)=1 by decide,if_false]
      obtain ⟨q,hq,hd,ha⟩:=gy (b:=aD 16 w ab ae 0 0 0 0++t) (wide:=decide (w=64)) (al:=false) (c:=15) (t:=175::bm ab ae::t) d0 d1 s0 s1 (by decide) (by decide) (by decide) (by decide) (by rw [e];simp)
      obtain ⟨_,v0,a0,x0,h1⟩:=fj hd
      rw [← a0] at h1
      obtain ⟨g1,g2,g3,g4,g5,_⟩:=sw d0 d1 s0 s1 h1
      rw [ha,ew]
      simp only [bQ,mV]
      rw [v0,g2,g3,g4,x0,g5]
      simp
      rw [a0,hq,e];simp
  · rename_i WN
    have n1:¬aC (k.val:Int)=1:=fun e=>WN (.inl e)
    have n2:¬aC (k.val:Int)=2:=fun e=>WN (.inr e)
    split at hs
    ·
      rename_i h3
      simp only [ZD,bX] at hs
      obtain ⟨hw,rfl,rfl,rfl,rfl⟩:=hs
      have ew:=iV hw
      by_cases hk:(k.val:Int)=1
      · rw [hk]
        rcases ej hw with rfl|rfl
        · have e : aD 1 32 ab 0 0 0 ai 0 = bp false 0 ab false ++ ((184 + ab % 8) :: a8 ai) := by
            simp [aD,show aC 1=3 from rfl]
          obtain ⟨q,hq,hd,ha⟩:=gy (b:=aD 1 32 ab 0 0 0 ai 0++t) (wide:=false) (al:=false) (c:=184+ab%8) (t:=a8 ai++t) (r:=0) (by decide) (by decide) d0 d1 (by omega) (by omega) (by omega) (by omega) (by rw [e];simp)
          obtain ⟨f1,f2,f3,f4⟩:=lZ i0 i1 hd
          rw [ha]
          simp only [bQ]
          rw [if_neg (by omega),if_neg (by omega),if_neg (by omega),if_neg (by omega),if_neg (by omega),if_neg (by omega),if_neg (by omega),if_neg (by omega),if_neg (by omega),if_neg (by omega)]
          unfold sx
          rw [if_neg (by omega),if_pos (by omega),f1,f2,f3]
          have ed:aaY.i8.wrap (aaY.i8.wrap (aaY.i64.wrap (184+ab%8 - 184))+aaY.i8.wrap (8*(ab / 8)))=ab:=by
            rw [aX,dh,dh,dh];omega
          rw [ed]
          refine kq rfl ?_
          rw [hq,e];simp [a8]
        · have e : aD 1 64 ab 0 0 0 ai 0 = bp true 0 ab false ++ (199 :: bm 0 ab :: a8 ai) := by
            simp [aD,show aC 1=3 from rfl,show bh 1=199 from rfl,show bO 1=0 from rfl]
          obtain ⟨q,hq,hd,ha⟩:=gy (b:=aD 1 64 ab 0 0 0 ai 0++t) (wide:=true) (al:=false) (c:=199) (t:=bm 0 ab::(a8 ai++t)) (r:=0) (by decide) (by decide) d0 d1 (by decide) (by decide) (by decide) (by decide) (by rw [e];simp)
          obtain ⟨g1,g2,g3,g4,g5,g6⟩:=sw (by decide) (by decide) d0 d1 hd
          rw [← g4] at g6
          obtain ⟨f1,f2,f3,f4⟩:=lZ i0 i1 g6
          rw [ha]
          simp only [bQ]
          rw [g3,g5,f1,f2,f3,g4]
          simp
          rw [hq,e];simp [a8]
      · obtain ⟨c1,c2,c3,c4,c5,c6,c7,c8,c9,Tp,TJ,Tx,u0,u1⟩:=gP k (.inl h3)
        obtain ⟨r1,r2,r3,-⟩:=xX k (.inl h3) hk
        have e:aD (k.val:Int) w ab 0 0 0 ai 0=bp (decide (w=64)) 0 ab false++(bh (k.val:Int)::bm (bO (k.val:Int)) ab::a8 ai):=by
          simp only [aD,h3,hk,show ¬(3:Int)=1 by decide,show ¬(3:Int)=2 by decide,show ¬(3:Int)=6 by decide,if_false,if_true,false_and]
        obtain ⟨q,hq,hd,ha⟩:=gy (b:=aD (k.val:Int) w ab 0 0 0 ai 0++t) (wide:=decide (w=64)) (al:=false) (t:=bm (bO (k.val:Int)) ab::(a8 ai++t)) (r:=0) (by decide) (by decide) d0 d1 (by omega) (by omega) c2 c3 (by rw [e];simp)
        obtain ⟨g2,g3,g4,g5,g6⟩:=Ce u0 u1 d0 d1 hd
        rw [← g4] at g6
        obtain ⟨f1,f2,f3,f4⟩:=lZ i0 i1 g6
        rw [ha,kG r1,show (0:Int) / 8=0 by decide,g2,r2,g3,g5]
        unfold mA
        rw [if_pos (r3 h3),f1,f2,f3,g4,ew]
        refine kq rfl ?_
        rw [hq,e];simp [a8]
    · rename_i n3
      split at hs
      ·
        rename_i h4
        simp only [ZD,bX] at hs
        obtain ⟨hw,rfl,rfl,rfl,rfl,j0,j1⟩:=hs
        have ew:=iV hw
        have Uo:=ej hw
        obtain ⟨c1,c2,c3,c4,c5,c6,c7,c8,c9,Tp,TJ,Tx,u0,u1⟩:=gP k (.inr (.inl h4))
        obtain ⟨r1,r2,-,r3,-⟩:=xX k (.inr (.inl h4)) (by intro e;rw [e] at h4;revert h4;decide)
        have e:aD (k.val:Int) w ab 0 0 0 ai 0=bp (decide (w=64)) 0 ab false++ [bh (k.val:Int),bm (bO (k.val:Int)) ab,ai%256]:=by
          simp only [aD,h4,show ¬(4:Int)=1 by decide,show ¬(4:Int)=2 by decide,show ¬(4:Int)=6 by decide,show ¬(4:Int)=3 by decide,if_false,if_true]
        obtain ⟨q,hq,hd,ha⟩:=gy (b:=aD (k.val:Int) w ab 0 0 0 ai 0++t) (wide:=decide (w=64)) (al:=false) (t:=bm (bO (k.val:Int)) ab::(ai%256)::t) (r:=0) (by decide) (by decide) d0 d1 (by omega) (by omega) c2 c3 (by rw [e];simp)
        obtain ⟨g2,g3,g4,g5,g6⟩:=Ce u0 u1 d0 d1 hd
        rw [← g4] at g6
        obtain ⟨_,v0,a0,x0,_⟩:=fj g6
        obtain ⟨q1,q2⟩:=r3 h4
        rw [ha,kG r1,show (0:Int) / 8=0 by decide,g2,r2,g3,g5]
        unfold mA
        rw [if_neg (by rintro (h | h); · omega
                       · exact q2 h),if_pos q1,v0,a0,x0,g4,ew]
        refine kq ?_ ?_
        · congr 1;omega
        · rw [hq,e];simp
      · rename_i n4
        split at hs
        ·
          rename_i h5
          simp only [ZD,bX] at hs
          obtain ⟨hw,rfl,rfl,rfl,rfl,rfl⟩:=hs
          have ew:=iV hw
          obtain ⟨c1,c2,c3,c4,c5,c6,c7,c8,c9,Tp,TJ,Tx,u0,u1⟩:=gP k (.inr (.inr h5))
          obtain ⟨r1,r2,-,-,r3⟩:=xX k (.inr (.inr h5)) (by intro e;rw [e] at h5;revert h5;decide)
          have e:aD (k.val:Int) w ab 0 0 0 0 0=bp (decide (w=64)) 0 ab false++ [bh (k.val:Int),bm (bO (k.val:Int)) ab]:=by
            simp only [aD,h5,show ¬(5:Int)=1 by decide,show ¬(5:Int)=2 by decide,show ¬(5:Int)=6 by decide,show ¬(5:Int)=3 by decide,show ¬(5:Int)=4 by decide,if_false,if_true]
          obtain ⟨q,hq,hd,ha⟩:=gy (b:=aD (k.val:Int) w ab 0 0 0 0 0++t) (wide:=decide (w=64)) (al:=false) (t:=bm (bO (k.val:Int)) ab::t) (r:=0) (by decide) (by decide) d0 d1 (by omega) (by omega) c2 c3 (by rw [e];simp)
          obtain ⟨g2,g3,g4,g5,g6⟩:=Ce u0 u1 d0 d1 hd
          obtain ⟨q1,q2,q3⟩:=r3 h5
          rw [ha,kG r1,show (0:Int) / 8=0 by decide,g2,r2,g3,g5]
          unfold mA
          rw [if_neg (by rintro (h | h); · exact q1 h
                         · exact q3 h),if_neg q2,g4,ew]
          refine kq rfl ?_
          rw [hq,e];simp
        · rename_i n5
          split at hs
          ·
            rename_i h6
            have hk:=qV k h6
            rw [hk] at h6 ⊢
            simp only [ZD,bX] at hs
            obtain ⟨⟨hw,rfl,rfl,rfl⟩,hc⟩:=hs
            have ew:=iV hw
            simp only [cT,bX] at hc
            have e:aD 25 w ab ae 0 0 0 cc=bp (decide (w=64)) ab ae false++ [15,64+cc,bm ab ae]:=by
              simp [aD,show aC 25=6 from rfl]
            obtain ⟨q,hq,hd,ha⟩:=gy (b:=aD 25 w ab ae 0 0 0 cc++t) (wide:=decide (w=64)) (al:=false) (c:=15) (t:=(64+cc)::bm ab ae::t) d0 d1 s0 s1 (by decide) (by decide) (by decide) (by decide) (by rw [e];simp)
            obtain ⟨_,v0,a0,x0,h1⟩:=fj hd
            rw [← a0] at h1
            obtain ⟨g1,g2,g3,g4,g5,_⟩:=sw d0 d1 s0 s1 h1
            rw [ha]
            simp only [bQ,mV]
            rw [v0,g2,g3,g4,x0,g5]
            have ec:aaY.i8.wrap (aaY.i64.wrap (64+cc - 64))=cc:=by rw [aX,dh];omega
            rw [ec,if_neg (by decide),if_neg (by decide),if_neg (by decide),if_neg (by decide),if_neg (by decide),if_neg (by decide),if_neg (by decide),if_neg (by decide),if_neg (by decide),if_pos (by decide),if_neg (by omega),if_neg (by omega),if_pos (by omega),a0,ew]
            refine kq rfl ?_
            rw [hq,e];simp
          · rename_i n6
            split at hs
            ·
              rename_i h7
              have hk:=qU k h7
              rw [hk] at h7 ⊢
              simp only [ZD,bX] at hs
              obtain ⟨hw,rfl,rfl,rfl⟩:=hs
              have e:aD 26 w ab 0 aa af 0 0=bp (decide (w=64)) ab aa false++((if w=8 then [15,182] else if w=16 then [15,183] else [139])++bA ab aa af):=by
                simp [aD,show aC 26=7 from rfl]
              rcases ff hw with rfl|rfl|rfl|rfl
              · rw [if_pos rfl] at e
                obtain ⟨q,hq,hd,ha⟩:=gy (b:=aD 26 8 ab 0 aa af 0 0++t) (wide:=decide ((8:Int)=64)) (al:=false) (c:=15) (t:=182::(bA ab aa af++t)) d0 d1 b0 b1 (by decide) (by decide) (by decide) (by decide) (by rw [e];simp)
                obtain ⟨_,v0,a0,x0,h1⟩:=fj hd
                rw [← a0] at h1
                obtain ⟨g0,g1,g2,g3,g4,g5,g6⟩:=mU d0 d1 b0 b1 p0 p1 h1
                rw [ha]
                simp only [bQ,mV]
                rw [v0,g2,g3,g4,x0,g6,g5,a0]
                simp
                rw [hq,e];simp
                omega
              · rw [if_neg (by decide),if_pos rfl] at e
                obtain ⟨q,hq,hd,ha⟩:=gy (b:=aD 26 16 ab 0 aa af 0 0++t) (wide:=decide ((16:Int)=64)) (al:=false) (c:=15) (t:=183::(bA ab aa af++t)) d0 d1 b0 b1 (by decide) (by decide) (by decide) (by decide) (by rw [e];simp)
                obtain ⟨_,v0,a0,x0,h1⟩:=fj hd
                rw [← a0] at h1
                obtain ⟨g0,g1,g2,g3,g4,g5,g6⟩:=mU d0 d1 b0 b1 p0 p1 h1
                rw [ha]
                simp only [bQ,mV]
                rw [v0,g2,g3,g4,x0,g6,g5,a0]
                simp
                rw [hq,e];simp
                omega
              · rw [if_neg (by decide),if_neg (by decide)] at e
                obtain ⟨q,hq,hd,ha⟩:=gy (b:=aD 26 32 ab 0 aa af 0 0++t) (wide:=decide ((32:Int)=64)) (al:=false) (c:=139) (t:=bA ab aa af++t) d0 d1 b0 b1 (by decide) (by decide) (by decide) (by decide) (by rw [e];simp)
                obtain ⟨g0,g1,g2,g3,g4,g5,g6⟩:=mU d0 d1 b0 b1 p0 p1 hd
                rw [ha]
                simp only [bQ]
                rw [g2,g3,g4,g6,g5]
                simp
                rw [hq,e];simp
                omega
              · rw [if_neg (by decide),if_neg (by decide)] at e
                obtain ⟨q,hq,hd,ha⟩:=gy (b:=aD 26 64 ab 0 aa af 0 0++t) (wide:=decide ((64:Int)=64)) (al:=false) (c:=139) (t:=bA ab aa af++t) d0 d1 b0 b1 (by decide) (by decide) (by decide) (by decide) (by rw [e];simp)
                obtain ⟨g0,g1,g2,g3,g4,g5,g6⟩:=mU d0 d1 b0 b1 p0 p1 hd
                rw [ha]
                simp only [bQ]
                rw [g2,g3,g4,g6,g5]
                simp
                rw [hq,e];simp
                omega
            · rename_i n7
              split at hs
              ·
                rename_i h8
                have hk:=qT k h8
                rw [hk] at h8 ⊢
                simp only [ZD,bX] at hs
                obtain ⟨hw,rfl,rfl,rfl⟩:=hs
                have e:aD 27 w 0 ae aa af 0 0=(if w=16 then [102] else [])++(bp (decide (w=64)) ae aa (decide (w=8))++((if w=8 then [136] else [137])++bA ae aa af)):=by
                  simp [aD,show aC 27=8 from rfl]
                rcases ff hw with rfl|rfl|rfl|rfl
                · rw [if_neg (by decide),if_pos rfl,ZT] at e
                  obtain ⟨q,hq,hd,ha⟩:=gy (b:=aD 27 8 0 ae aa af 0 0++t) (wide:=decide ((8:Int)=64)) (al:=decide ((8:Int)=8)) (c:=136) (t:=bA ae aa af++t) s0 s1 b0 b1 (by decide) (by decide) (by decide) (by decide) (by rw [e];simp)
                  obtain ⟨g0,g1,g2,g3,g4,g5,g6⟩:=mU s0 s1 b0 b1 p0 p1 hd
                  rw [ha]
                  simp only [bQ]
                  rw [g2,g3,g4,g6,g5]
                  simp
                  rw [hq,e];simp
                  omega
                · rw [if_pos rfl,if_neg (by decide)] at e
                  obtain ⟨q,hq,hd,ha⟩:=LU (b:=aD 27 16 0 ae aa af 0 0++t) (wide:=decide ((16:Int)=64)) (al:=decide ((16:Int)=8)) (c:=137) (t:=bA ae aa af++t) s0 s1 b0 b1 (by decide) (by decide) (by decide) (by rw [e];simp)
                  obtain ⟨g0,g1,g2,g3,g4,g5,g6⟩:=mU s0 s1 b0 b1 p0 p1 hd
                  rw [ha]
                  simp only [bQ]
                  rw [g2,g3,g4,g6,g5,if_pos trivial,if_pos ⟨g0,g1⟩]
                  refine kq rfl ?_
                  rw [hq,e];simp
                  omega
                · rw [if_neg (by decide),if_neg (by decide),ZT] at e
                  obtain ⟨q,hq,hd,ha⟩:=gy (b:=aD 27 32 0 ae aa af 0 0++t) (wide:=decide ((32:Int)=64)) (al:=decide ((32:Int)=8)) (c:=137) (t:=bA ae aa af++t) s0 s1 b0 b1 (by decide) (by decide) (by decide) (by decide) (by rw [e];simp)
                  obtain ⟨g0,g1,g2,g3,g4,g5,g6⟩:=mU s0 s1 b0 b1 p0 p1 hd
                  rw [ha]
                  simp only [bQ]
                  rw [g2,g3,g4,g6,g5,if_pos trivial,if_pos ⟨g0,g1⟩]
                  refine kq rfl ?_
                  rw [hq,e];simp
                  omega
                · rw [if_neg (by decide),if_neg (by decide),ZT] at e
                  obtain ⟨q,hq,hd,ha⟩:=gy (b:=aD 27 64 0 ae aa af 0 0++t) (wide:=decide ((64:Int)=64)) (al:=decide ((64:Int)=8)) (c:=137) (t:=bA ae aa af++t) s0 s1 b0 b1 (by decide) (by decide) (by decide) (by decide) (by rw [e];simp)
                  obtain ⟨g0,g1,g2,g3,g4,g5,g6⟩:=mU s0 s1 b0 b1 p0 p1 hd
                  rw [ha]
                  simp only [bQ]
                  rw [g2,g3,g4,g6,g5,if_pos trivial,if_pos ⟨g0,g1⟩]
                  refine kq rfl ?_
                  rw [hq,e];simp
                  omega
              · rename_i n8
                split at hs
                ·
                  rename_i h9
                  have hk:=qS k h9
                  rw [hk] at h9 ⊢
                  simp only [ZD,bX,mC] at hs
                  obtain ⟨hw,rfl,rfl,rfl,rfl,rfl⟩:=hs
                  have e:aD 28 w 0 0 0 0 ai 0=if w=8 then [235,ai%256] else 233::a8 ai:=by
                    simp [aD,show aC 28=9 from rfl]
                  rcases hw with rfl|⟨rfl,j0,j1⟩
                  · rw [if_neg (by decide)] at e
                    obtain ⟨hd,ha⟩:=lN (b:=aD 28 32 0 0 0 0 ai 0++t) (c:=233) (t:=a8 ai++t) (by decide) (by decide) (by decide) (by decide) (by rw [e];simp)
                    obtain ⟨f1,f2,f3,f4⟩:=lZ i0 i1 hd
                    rw [ha]
                    simp only [bQ]
                    rw [f1,f2,f3]
                    simp
                    rw [e];simp [a8]
                  · rw [if_pos rfl] at e
                    obtain ⟨hd,ha⟩:=lN (b:=aD 28 8 0 0 0 0 ai 0++t) (c:=235) (t:=(ai%256)::t) (by decide) (by decide) (by decide) (by decide) (by rw [e];simp)
                    obtain ⟨_,v0,a0,x0,_⟩:=fj hd
                    rw [ha]
                    simp only [bQ,uo]
                    rw [v0,a0,x0]
                    have ei:aaY.i8.wrap (ai%256)=ai:=by rw [dh];omega
                    rw [ei]
                    simp
                    rw [e];simp
                · rename_i n9
                  split at hs
                  ·
                    rename_i UE
                    have hk:=oQ k UE
                    rw [hk] at UE ⊢
                    simp only [ZD,bX,mC] at hs
                    obtain ⟨⟨hw,rfl,rfl,rfl,rfl⟩,hc⟩:=hs
                    simp only [cT,bX] at hc
                    have e:aD 29 w 0 0 0 0 ai cc=if w=8 then [112+cc,ai%256] else 15::(128+cc)::a8 ai:=by
                      simp [aD,show aC 29=10 from rfl]
                    rcases hw with rfl|⟨rfl,j0,j1⟩
                    · rw [if_neg (by decide)] at e
                      obtain ⟨hd,ha⟩:=lN (b:=aD 29 32 0 0 0 0 ai cc++t) (c:=15) (t:=(128+cc)::(a8 ai++t)) (by decide) (by decide) (by decide) (by decide) (by rw [e];simp)
                      obtain ⟨_,v0,a0,x0,h1⟩:=fj hd
                      rw [← a0] at h1
                      obtain ⟨f1,f2,f3,f4⟩:=lZ i0 i1 h1
                      rw [ha]
                      simp only [bQ,mV]
                      rw [v0,f1,f2,f3,x0]
                      have ec:aaY.i8.wrap (aaY.i64.wrap (128+cc - 128))=cc:=by rw [aX,dh];omega
                      rw [ec,if_neg (by decide),if_neg (by decide),if_neg (by decide),if_neg (by decide),if_neg (by decide),if_neg (by decide),if_neg (by decide),if_neg (by decide),if_neg (by decide),if_pos (by decide),if_neg (by omega),if_neg (by omega),if_neg (by omega),if_pos (by omega),a0]
                      refine kq rfl ?_
                      rw [e];simp [a8]
                    · rw [if_pos rfl] at e
                      obtain ⟨hd,ha⟩:=lN (b:=aD 29 8 0 0 0 0 ai cc++t) (c:=112+cc) (t:=(ai%256)::t) (by omega) (by omega) (by omega) (by omega) (by rw [e];simp)
                      obtain ⟨_,v0,a0,x0,_⟩:=fj hd
                      rw [ha]
                      simp only [bQ]
                      rw [if_neg (by omega),if_neg (by omega),if_neg (by omega),if_neg (by omega),if_neg (by omega),if_neg (by omega),if_neg (by omega),if_neg (by omega),if_neg (by omega),if_neg (by omega)]
                      unfold sx uo
                      rw [if_pos (by omega),v0,a0,x0]
                      have ei:aaY.i8.wrap (ai%256)=ai:=by rw [dh];omega
                      have ec:aaY.i8.wrap (aaY.i64.wrap (112+cc - 112))=cc:=by rw [aX,dh];omega
                      rw [ei,ec]
                      refine kq rfl ?_
                      rw [e];simp
                  · rename_i Zi
                    split at hs
                    · rename_i Vn
                      simp only [bX] at hs
                      obtain ⟨rfl,rfl,rfl,rfl,rfl,rfl,rfl⟩:=hs
                      rcases oP k Vn with hk|hk<;>rw [hk]
                      · have e:aD 30 0 0 0 0 0 0 0= [195]:=rfl
                        obtain ⟨hd,ha⟩:=lN (b:=aD 30 0 0 0 0 0 0 0++t) (c:=195) (t:=t) (by decide) (by decide) (by decide) (by decide) (by rw [e];rfl)
                        rw [ha]
                        simp only [bQ]
                        simp
                        rw [e];rfl
                      · have e:aD 31 0 0 0 0 0 0 0= [15,5]:=rfl
                        obtain ⟨hd,ha⟩:=lN (b:=aD 31 0 0 0 0 0 0 0++t) (c:=15) (t:=5::t) (by decide) (by decide) (by decide) (by decide) (by rw [e];rfl)
                        obtain ⟨_,v0,a0,x0,h1⟩:=fj hd
                        rw [ha]
                        simp only [bQ,mV]
                        rw [v0,a0,x0]
                        simp
                        rw [e];rfl
                    · cases hs
theorem Lv (b:List Int):Lw b=iC b:=by
 unfold iC
 by_cases hf:jo b (jK b)=true
 ·rw [if_pos hf]
  have h:=hf
  unfold jo at h
  rw [ZD,aaN] at h
  obtain ⟨hm,t,ht⟩:=h
  have e:lG b=⟨jK b,(cW (jK b)).length,false⟩:=by
   have:=Mv hm t
   rw [show aD (jK b).op (jK b).w (jK b).ab (jK b).ae (jK b).aa (jK b).af (jK b).ai (jK b).cc=cW (jK b) from rfl,ht] at this
   exact this
  unfold Lw
  simp only [e]
  have Wy:cW (jK b)=b.take (cW (jK b)).length:=by
   have:=congrArg (List.take (cW (jK b)).length) ht
   rw [List.take_left] at this
   exact this
  rw [if_pos ⟨trivial,hm,trivial,Wy⟩]
 ·rw [if_neg hf]
  unfold Lw
  simp only
  split
  ·rename_i h
   obtain ⟨_,h1,h2,h3⟩:=h
   have:jo b (lG b).x=true:=by
    unfold jo
    rw [ZD,aaN]
    exact ⟨h1,by rw [h3];exact List.take_prefix _ _⟩
   exact absurd (by rw [(nK this).1];exact this) hf
  ·rfl
end Go.Ev
namespace Go.Proofs.YtbfpahigdpigpaaGreat
open Go Go.Ev
abbrev P3 (b:List Int) (n:Int) (half:Bool):List D:=((bj 1 (bD b))::(mH)::(.ptr false 0 0)::(mH)::(mH)::(.ptr false 1 0)::(.ptr false 2 0)::(aq n)::(ax half)::(un 19++(aq n)::(un 200)))
abbrev IV (b:List Int):List D:=((bj 1 (bD b))::(mH)::(.ptr false 0 0)::(mH)::(mH)::(.ptr false 1 0)::(.ptr false 2 0)::(un 222))
abbrev Q0 (b:List Int) (at_:Int) (bad w:Bool) (rr mm:Int) (x:List D):List Ob:= [aA [ak 0,ak 0,ak 0,ak 0,ak 0,aq 0,aq 0,ak 0],aA [bj 1 (bD b),aq at_,ax bad,ax w,ak rr,ak mm],aA x]
abbrev QZ (op w ab ae aa af ai cc:Int):List D:= [ak op,ak w,ak ab,ak ae,ak aa,aq af,aq ai,ak cc]
abbrev R7 (b:List Int) (r:NP) (w:Bool) (rr mm:Int):List Ob:=Q0 b (r.at_:Int) r.bad w rr mm (QZ r.x.op r.x.w r.x.ab r.x.ae r.x.aa r.x.af r.x.ai r.x.cc)
theorem QA (a:Int):aaY.i8.wrap ((Zw 8 a&&&Zw 8 7).toNat:Int)=a%8:=by
 have:=AF a
 rw [bw] at this
 rw [← this]
 have h:0≤((Zw 8 a&&&Zw 8 7).toNat:Int)∧((Zw 8 a&&&Zw 8 7).toNat:Int)<256:=by
  have:=(Zw 8 a&&&Zw 8 7).isLt
  omega
 congr 1
 omega
theorem FG {b:List Int} {k:Nat} (h:k<b.length):(bD b)[ZJ (k:Int)]? =some (ay (aM b k)):=by
 rw [aaE]
 unfold aM bD
 simp [h,ZF]
set_option maxHeartbeats 2000000 in
theorem OD (b : List Int) (hb : dx b) (hl : b.length ≤ 1000) (k : Nat) (bad w half : Bool) (rr mm W n : Int) (n0 : 0 ≤ n) (n1 : n ≤ 255) :
    aF Zy (dB aaq 0) ⟨[0,2,5,6],[0,1,2],[]⟩ 3 (P3 b n half) (Q0 b (k:Int) bad w rr mm (QZ (-1) W 0 0 0 0 0 0)) .norm (IV b) (R7 b (bQ b n half W rr mm k bad) w rr mm):=by
  have hv:=dV hb k
  have hl1:=aG b
  by_cases c:n=137
  · subst c
    by_cases hk:k<b.length
    · have hx:=FG hk
      by_cases h:aM b k<192
      · cases half
        · have:=ME b hb hl k bad w false rr mm W hv.1 hv.2 (by omega) hx h
          rw [show bQ b 137 false W rr mm k bad=⟨⟨27,W,0,di (aM b k) rr,dc (aM b k) mm,eN b (dZ b k),0,0⟩,dF b (dZ b k),dI b (dZ b k) (j3 b k bad)⟩ by simp [bQ,hk,h]]
          exact this
        · have:=MD b hb hl k bad w true rr mm W hv.1 hv.2 (by omega) hx h
          rw [show bQ b 137 true W rr mm k bad=⟨⟨27,16,0,di (aM b k) rr,dc (aM b k) mm,eN b (dZ b k),0,0⟩,dF b (dZ b k),dI b (dZ b k) (j3 b k bad)⟩ by simp [bQ,hk,h]]
          exact this
      · have:=OQ b hb hl k bad w half rr mm W hv.1 hv.2 (by omega) hx (by omega)
        rw [show bQ b 137 half W rr mm k bad=⟨⟨0,W,dc (aM b k) mm,di (aM b k) rr,0,0,0,0⟩,aN b k,gq b k bad⟩ by simp [bQ,h]]
        exact this
    · have:=OP b hb hl k bad w half rr mm W hv.1 hv.2 (by omega)
      rw [show bQ b 137 half W rr mm k bad=⟨⟨0,W,dc (aM b k) mm,di (aM b k) rr,0,0,0,0⟩,aN b k,gq b k bad⟩ by simp [bQ,hk]]
      exact this
  by_cases c1:n=1
  · subst c1;rw [show bQ b 1 half W rr mm k bad=⟨⟨2,W,dc (aM b k) mm,di (aM b k) rr,0,0,0,0⟩,aN b k,gq b k bad⟩ by simp [bQ,ph]];exact Rp b hb hl k bad w half rr mm W hv.1 hv.2
  by_cases c9:n=9
  · subst c9;rw [show bQ b 9 half W rr mm k bad=⟨⟨3,W,dc (aM b k) mm,di (aM b k) rr,0,0,0,0⟩,aN b k,gq b k bad⟩ by simp [bQ,ph]];exact Ro b hb hl k bad w half rr mm W hv.1 hv.2
  by_cases XL:n=33
  · subst XL;rw [show bQ b 33 half W rr mm k bad=⟨⟨4,W,dc (aM b k) mm,di (aM b k) rr,0,0,0,0⟩,aN b k,gq b k bad⟩ by simp [bQ,ph]];exact Qa b hb hl k bad w half rr mm W hv.1 hv.2
  by_cases c41:n=41
  · subst c41;rw [show bQ b 41 half W rr mm k bad=⟨⟨5,W,dc (aM b k) mm,di (aM b k) rr,0,0,0,0⟩,aN b k,gq b k bad⟩ by simp [bQ,ph]];exact P9 b hb hl k bad w half rr mm W hv.1 hv.2
  by_cases c49:n=49
  · subst c49;rw [show bQ b 49 half W rr mm k bad=⟨⟨6,W,dc (aM b k) mm,di (aM b k) rr,0,0,0,0⟩,aN b k,gq b k bad⟩ by simp [bQ,ph]];exact P8 b hb hl k bad w half rr mm W hv.1 hv.2
  by_cases c57:n=57
  · subst c57;rw [show bQ b 57 half W rr mm k bad=⟨⟨7,W,dc (aM b k) mm,di (aM b k) rr,0,0,0,0⟩,aN b k,gq b k bad⟩ by simp [bQ,ph]];exact P7 b hb hl k bad w half rr mm W hv.1 hv.2
  by_cases c133:n=133
  · subst c133;rw [show bQ b 133 half W rr mm k bad=⟨⟨8,W,dc (aM b k) mm,di (aM b k) rr,0,0,0,0⟩,aN b k,gq b k bad⟩ by simp [bQ,ph]];exact OI b hb hl k bad w half rr mm W hv.1 hv.2
  have hg:∀aa:Int,(aa=129∨aa=193∨aa=211∨aa=247)→aQ Zy 36 [aq aa,ak (aaY.i8.wrap ((Zw 8 (di (aM b k) rr)&&&Zw 8 7).toNat:Int))] (ak (jR aa (di (aM b k) rr%8))):=by
    intro aa h
    rw [QA]
    exact K3 h (by omega) (by omega)
  by_cases c129:n=129
  · subst c129
    rw [kG (.inl rfl)]
    have:=OL b hb hl k bad w half rr mm W hv.1 hv.2 _ (hg 129 (by decide))
    unfold mA
    rw [if_pos (.inl rfl)]
    exact this
  by_cases c193:n=193
  · subst c193
    have ho:jR 193 (di (aM b k) rr%8)≠15:=s8 (.inl rfl) (by omega) (by omega)
    rw [kG (.inr (.inl rfl))]
    have:=OK b hb hl k bad w half rr mm W hv.1 hv.2 _ (hg 193 (by decide)) ho
    unfold mA
    rw [if_neg (by rintro (h | h); · omega
                   · exact ho h),if_pos rfl]
    exact this
  by_cases c211:n=211
  · subst c211
    have ho:jR 211 (di (aM b k) rr%8)≠15:=s8 (.inr rfl) (by omega) (by omega)
    rw [kG (.inr (.inr (.inl rfl)))]
    have:=OJ b hb hl k bad w half rr mm W hv.1 hv.2 _ (hg 211 (by decide)) ho
    unfold mA
    rw [if_neg (by rintro (h | h); · omega
                   · exact ho h),if_neg (by decide)]
    exact this
  by_cases c247:n=247
  · subst c247
    rw [kG (.inr (.inr (.inr rfl)))]
    have hq:=hg 247 (by decide)
    by_cases ho:jR 247 (di (aM b k) rr%8)=15
    · rw [ho] at hq ⊢
      have:=My b hb hl k bad w half rr mm W hv.1 hv.2 hq
      unfold mA
      rw [if_pos (.inr rfl)]
      exact this
    · have:=Mz b hb hl k bad w half rr mm W hv.1 hv.2 _ hq ho
      unfold mA
      rw [if_neg (by rintro (h | h); · omega
                     · exact ho h),if_neg (by decide)]
      exact this
  by_cases c199:n=199
  · subst c199;rw [show bQ b 199 half W rr mm k bad=⟨⟨1,W,dc (aM b k) mm,0,0,0,eN b (aN b k),0⟩,dF b (aN b k),dI b (aN b k) (gq b k bad)⟩ by simp [bQ]];exact Qd b hb hl k bad w half rr mm W hv.1 hv.2
  by_cases c139:n=139
  · subst c139;rw [show bQ b 139 half W rr mm k bad=⟨⟨26,W,di (aM b k) rr,0,dc (aM b k) mm,eN b (dZ b k),0,0⟩,dF b (dZ b k),dI b (dZ b k) (j3 b k bad)⟩ by simp [bQ]];exact Qf b hb hl k bad w half rr mm W hv.1 hv.2
  by_cases c136:n=136
  · subst c136;rw [show bQ b 136 half W rr mm k bad=⟨⟨27,8,0,di (aM b k) rr,dc (aM b k) mm,eN b (dZ b k),0,0⟩,dF b (dZ b k),dI b (dZ b k) (j3 b k bad)⟩ by simp [bQ]];exact Qg b hb hl k bad w half rr mm W hv.1 hv.2
  by_cases c235:n=235
  · subst c235;rw [show bQ b 235 half W rr mm k bad=⟨⟨28,8,0,0,0,0,uo b k,0⟩,aN b k,cu b k bad⟩ by simp [bQ]];exact Qb b hb hl k bad w half rr mm W hv.1 hv.2
  by_cases c233:n=233
  · subst c233;rw [show bQ b 233 half W rr mm k bad=⟨⟨28,W,0,0,0,0,eN b k,0⟩,dF b k,dI b k bad⟩ by simp [bQ]];exact Qc b hb hl k bad w half rr mm W hv.1 hv.2
  by_cases c195:n=195
  · subst c195;rw [show bQ b 195 half W rr mm k bad=⟨⟨30,0,0,0,0,0,0,0⟩,k,bad⟩ by simp [bQ]];exact Qe b hb hl k bad w half rr mm W hv.1 hv.2
  by_cases Ut:n=15
  · subst Ut
    rw [show bQ b 15 half W rr mm k bad=mV b W rr mm k bad by simp [bQ]]
    unfold mV
    by_cases h175:aM b k=175
    · simp only [if_pos h175];exact MA b hb hl k bad w half rr mm W hv.1 hv.2 h175
    by_cases h5:aM b k=5
    · simp only [if_neg h175,if_pos h5];exact J3 b hb hl k bad w half rr mm W hv.1 hv.2 h5
    by_cases h64:64≤aM b k∧aM b k<80
    · simp only [if_neg h175,if_neg h5,if_pos h64];exact J4 b hb hl k bad w half rr mm W hv.1 hv.2 h64.1 h64.2
    by_cases h128:128≤aM b k∧aM b k<144
    · simp only [if_neg h175,if_neg h5,if_neg h64,if_pos h128];exact MC b hb hl k bad w half rr mm W hv.1 hv.2 h128.1 h128.2
    by_cases h182:aM b k=182
    · simp only [if_neg h175,if_neg h5,if_neg h64,if_neg h128,if_pos h182];exact OO b hb hl k bad w half rr mm W hv.1 hv.2 h182
    by_cases h183:aM b k=183
    · simp only [if_neg h175,if_neg h5,if_neg h64,if_neg h128,if_neg h182,if_pos h183];exact MB b hb hl k bad w half rr mm W hv.1 hv.2 h183
    simp only [if_neg h175,if_neg h5,if_neg h64,if_neg h128,if_neg h182,if_neg h183]
    exact OM b hb hl k bad w half rr mm W hv.1 hv.2 h175 h5 h182 h183 (by omega) (by omega)
  have e:bQ b n half W rr mm k bad=sx b n W mm k bad:=by
    simp only [bQ]
    rw [if_neg c,if_neg (by omega),if_neg (by omega),if_neg c199,if_neg c139,if_neg c136,if_neg c235,if_neg c233,if_neg c195,if_neg Ut]
  rw [e]
  unfold sx
  by_cases h112:112≤n∧n<128
  · simp only [if_pos h112];exact Mx b hb hl k bad w half rr mm W hv.1 hv.2 n n0 n1 h112.1 h112.2
  by_cases h184:184≤n∧n<192
  · simp only [if_neg h112,if_pos h184];exact Mw b hb hl k bad w half rr mm W hv.1 hv.2 n n0 n1 h184.1 h184.2
  simp only [if_neg h112,if_neg h184]
  exact OH b hb hl k bad w half rr mm W hv.1 hv.2 n n0 n1 (by omega) (by omega) c c1 c9 XL c41 c49 c57 c133 c129 c193 c211 c247 c199 c139 c136 c235 c233 c195 Ut
abbrev JB (b:List Int):List D:=P3 b (IW b 0) (aM b 0==102)
abbrev JC (b:List Int) (w:Bool) (W:Int):List Ob:=Q0 b (ER b 0:Int) (MG b 0 false) w (J7 b 0) (J9 b 0) (QZ (-1) W 0 0 0 0 0 0)
abbrev L0 (b:List Int) (at_:Nat) (w bad:Bool) (op wd ab ae aa af ai cc:Int):List Ob:=Q0 b (at_:Int) bad w (J7 b 0) (J9 b 0) (QZ op wd ab ae aa af ai cc)
theorem lh {n0:Nat} {c:Code} {t:List D} {s:List Ob} {ex:Ex} {t':List D} {s':List Ob} (h:cS Zy n0 c t s ex t' s'):cS Zy n0 c t s ex t' s':=h
theorem gg (X0 X2:List D) (b:List Int) (hb:dx b) (hl:b.length≤1000):ao Zy 32 [.ptr false 1 0] [aA X0,aA [bj 1 (bD b),aq 0,ax false,ax false,ak 0,ak 0],aA X2] (.aL [aq (IW b 0),ax (aM b 0==102)]) (Bq X0 X2 b (ER b 0) (MG b 0 false) (kK b 0) (J7 b 0) (J9 b 0)):=
 Gz X0 X2 b hb hl 0 false
theorem DP (b:List Int) (hb:dx b) (hl:b.length≤1000) (hw:kK b 0=false) (at_:Nat) (op w ab ae aa af ai cc:Int) (hx:cS Zy 3 (dB aaq 0) (JB b) (JC b (kK b 0) 32) .norm (IV b) (L0 b at_ (kK b 0) true op w ab ae aa af ai cc)):aQ Zy 21 ([bj 1 (bD b)]) (.aL [xD 0 0 0 0 0 0 0 0,aq 0,aq 30]):=by
 have c0:=lh hx
 exact (L5 (d:= .aL [(xD 0 0 0 0 0 0 0 0),aq 0,aq 30]) [.aI _ _ _ _ _ (@gg (zX) ((xC (-1) 32 0 0 0 0 0 0)) b hb hl),tC hw,.dQ ⟨[0,2,5,6,7,8,28],[0,1,2],[]⟩ _ _ _ _ _ _ _ c0,tF,tF,tF,tT,tT]).to (by first|rfl|(simp [wk];done)|(simp [wk,a7,xD];done)|(simp [wk,a7];done))
theorem DM (b:List Int) (hb:dx b) (hl:b.length≤1000) (hw:kK b 0=false) (at_:Nat) (op w ab ae aa af ai cc:Int) (hx:cS Zy 3 (dB aaq 0) (JB b) (JC b (kK b 0) 32) .norm (IV b) (L0 b at_ (kK b 0) false op w ab ae aa af ai cc)) (hm:aQ Zy 41 [xD op w ab ae aa af ai cc] (ax false)):aQ Zy 21 ([bj 1 (bD b)]) (.aL [xD 0 0 0 0 0 0 0 0,aq 0,aq 30]):=by
 have c0:=lh hx
 exact (L5 (d:= .aL [(xD 0 0 0 0 0 0 0 0),aq 0,aq 30]) [.aI _ _ _ _ _ (@gg (zX) ((xC (-1) 32 0 0 0 0 0 0)) b hb hl),tC hw,.dQ ⟨[0,2,5,6,7,8,28],[0,1,2],[]⟩ _ _ _ _ _ _ _ c0,tT,tT,aw hm,tT,tF,tT]).to (by first|rfl|(simp [wk];done)|(simp [wk,a7,xD];done)|(simp [wk,a7];done))
theorem DN (b:List Int) (hb:dx b) (hl:b.length≤1000) (hw:kK b 0=false) (at_:Nat) (op w ab ae aa af ai cc:Int) (hx:cS Zy 3 (dB aaq 0) (JB b) (JC b (kK b 0) 32) .norm (IV b) (L0 b at_ (kK b 0) false op w ab ae aa af ai cc)) (hm:aQ Zy 41 [xD op w ab ae aa af ai cc] (ax true)) (own:List Int) (Wb:aQ Zy 42 [xD op w ab ae aa af ai cc] (.aL [bj 1 (bD own),aq 0])) (he:(((bD own).length:Int)==(at_:Int))=false):aQ Zy 21 ([bj 1 (bD b)]) (.aL [xD 0 0 0 0 0 0 0 0,aq 0,aq 30]):=by
 have c0:=lh hx
 exact (L5 (d:= .aL [(xD 0 0 0 0 0 0 0 0),aq 0,aq 30]) ([.aI _ _ _ _ _ (@gg (zX) ((xC (-1) 32 0 0 0 0 0 0)) b hb hl),tC hw,.dQ ⟨[0,2,5,6,7,8,28],[0,1,2],[]⟩ _ _ _ _ _ _ _ c0,tT,tT,aw hm,tT,tF,tF,aw Wb]++Zx 10 (tC (eF (nt he)))++ [tC (nt he),tT])).to (by first|rfl|(simp [wk];done)|(simp [wk,a7,xD];done)|(simp [wk,a7];done))
theorem DL (b:List Int) (hb:dx b) (hl:b.length≤1000) (hw:kK b 0=false) (at_:Nat) (op w ab ae aa af ai cc:Int) (hx:cS Zy 3 (dB aaq 0) (JB b) (JC b (kK b 0) 32) .norm (IV b) (L0 b at_ (kK b 0) false op w ab ae aa af ai cc)) (hm:aQ Zy 41 [xD op w ab ae aa af ai cc] (ax true)) (own:List Int) (Wb:aQ Zy 42 [xD op w ab ae aa af ai cc] (.aL [bj 1 (bD own),aq 0])) (ha:(at_:Int)≤((bD b).length:Int)) (he:(((bD own).length:Int)==(at_:Int))=true) (hs:((iG (bD own)).toList==(iG (List.take (ZJ (at_:Int)) (bD b))).toList)=false):aQ Zy 21 ([bj 1 (bD b)]) (.aL [xD 0 0 0 0 0 0 0 0,aq 0,aq 30]):=by
 have c0:=lh hx
 exact (L5 (d:= .aL [(xD 0 0 0 0 0 0 0 0),aq 0,aq 30]) ([.aI _ _ _ _ _ (@gg (zX) ((xC (-1) 32 0 0 0 0 0 0)) b hb hl),tC hw,.dQ ⟨[0,2,5,6,7,8,28],[0,1,2],[]⟩ _ _ _ _ _ _ _ c0,tT,tT,aw hm,tT,tF,tF,aw Wb,tC (eF (nt he)),tC (eF (nt he)),tC (v:=true) (@Ee own)]++Zx 6 (tC (eF (nt he)))++ [.cM (decide (0≤(↑at_:Int)∧(↑at_:Int)≤(↑(ZA (bD b)):Int))) true (by ((try simp only [aG,cO] at*);(try unfold dK at*);omega)),tC (eF (nt he)),tC (v:=true) (@kh b (ZJ (↑at_:Int))),tC (eF (nt he)),tC (nt he),tC (nt hs)])).to (by first|rfl|(simp [wk];done)|(simp [wk,a7,xD];done)|(simp [wk,a7];done))
theorem Iu (b:List Int) (hb:dx b) (hl:b.length≤1000) (hw:kK b 0=false) (at_:Nat) (op w ab ae aa af ai cc:Int) (hx:cS Zy 3 (dB aaq 0) (JB b) (JC b (kK b 0) 32) .norm (IV b) (L0 b at_ (kK b 0) false op w ab ae aa af ai cc)) (hm:aQ Zy 41 [xD op w ab ae aa af ai cc] (ax true)) (own:List Int) (Wb:aQ Zy 42 [xD op w ab ae aa af ai cc] (.aL [bj 1 (bD own),aq 0])) (ha:(at_:Int)≤((bD b).length:Int)) (he:(((bD own).length:Int)==(at_:Int))=true) (hs:((iG (bD own)).toList==(iG (List.take (ZJ (at_:Int)) (bD b))).toList)=true):aQ Zy 21 ([bj 1 (bD b)]) (.aL [xD op w ab ae aa af ai cc,aq (at_:Int),aq 0]):=by
 have c0:=lh hx
 exact (L5 (d:= .aL [(xD op w ab ae aa af ai cc),aq (↑at_:Int),aq 0]) ([.aI _ _ _ _ _ (@gg (zX) ((xC (-1) 32 0 0 0 0 0 0)) b hb hl),tC hw,.dQ ⟨[0,2,5,6,7,8,28],[0,1,2],[]⟩ _ _ _ _ _ _ _ c0,tT,tT,aw hm,tT,tF,tF,aw Wb,tC (eF (nt he)),tC (eF (nt he)),tC (v:=true) (@Ee own)]++Zx 6 (tC (eF (nt he)))++ [.cM (decide (0≤(↑at_:Int)∧(↑at_:Int)≤(↑(ZA (bD b)):Int))) true (by ((try simp only [aG,cO] at*);(try unfold dK at*);omega)),tC (eF (nt he)),tC (v:=true) (@kh b (ZJ (↑at_:Int))),tC (eF (nt he)),tC (nt he),tC (nt hs)])).to (by first|rfl|(simp [wk];done)|(simp [wk,a7,xD];done)|(simp [wk,a7];done))
theorem DK (b:List Int) (hb:dx b) (hl:b.length≤1000) (hw:kK b 0=true) (at_:Nat) (op w ab ae aa af ai cc:Int) (hx:cS Zy 3 (dB aaq 0) (JB b) (JC b (kK b 0) 64) .norm (IV b) (L0 b at_ (kK b 0) true op w ab ae aa af ai cc)):aQ Zy 21 ([bj 1 (bD b)]) (.aL [xD 0 0 0 0 0 0 0 0,aq 0,aq 30]):=by
 have c0:=lh hx
 exact (L5 (d:= .aL [(xD 0 0 0 0 0 0 0 0),aq 0,aq 30]) [.aI _ _ _ _ _ (@gg (zX) ((xC (-1) 32 0 0 0 0 0 0)) b hb hl),tC hw,.dQ ⟨[0,2,5,6,7,8,28],[0,1,2],[]⟩ _ _ _ _ _ _ _ c0,tF,tF,tF,tT,tT]).to (by first|rfl|(simp [wk];done)|(simp [wk,a7,xD];done)|(simp [wk,a7];done))
theorem DI (b:List Int) (hb:dx b) (hl:b.length≤1000) (hw:kK b 0=true) (at_:Nat) (op w ab ae aa af ai cc:Int) (hx:cS Zy 3 (dB aaq 0) (JB b) (JC b (kK b 0) 64) .norm (IV b) (L0 b at_ (kK b 0) false op w ab ae aa af ai cc)) (hm:aQ Zy 41 [xD op w ab ae aa af ai cc] (ax false)):aQ Zy 21 ([bj 1 (bD b)]) (.aL [xD 0 0 0 0 0 0 0 0,aq 0,aq 30]):=by
 have c0:=lh hx
 exact (L5 (d:= .aL [(xD 0 0 0 0 0 0 0 0),aq 0,aq 30]) [.aI _ _ _ _ _ (@gg (zX) ((xC (-1) 32 0 0 0 0 0 0)) b hb hl),tC hw,.dQ ⟨[0,2,5,6,7,8,28],[0,1,2],[]⟩ _ _ _ _ _ _ _ c0,tT,tT,aw hm,tT,tF,tT]).to (by first|rfl|(simp [wk];done)|(simp [wk,a7,xD];done)|(simp [wk,a7];done))
theorem DJ (b:List Int) (hb:dx b) (hl:b.length≤1000) (hw:kK b 0=true) (at_:Nat) (op w ab ae aa af ai cc:Int) (hx:cS Zy 3 (dB aaq 0) (JB b) (JC b (kK b 0) 64) .norm (IV b) (L0 b at_ (kK b 0) false op w ab ae aa af ai cc)) (hm:aQ Zy 41 [xD op w ab ae aa af ai cc] (ax true)) (own:List Int) (Wb:aQ Zy 42 [xD op w ab ae aa af ai cc] (.aL [bj 1 (bD own),aq 0])) (he:(((bD own).length:Int)==(at_:Int))=false):aQ Zy 21 ([bj 1 (bD b)]) (.aL [xD 0 0 0 0 0 0 0 0,aq 0,aq 30]):=by
 have c0:=lh hx
 exact (L5 (d:= .aL [(xD 0 0 0 0 0 0 0 0),aq 0,aq 30]) ([.aI _ _ _ _ _ (@gg (zX) ((xC (-1) 32 0 0 0 0 0 0)) b hb hl),tC hw,.dQ ⟨[0,2,5,6,7,8,28],[0,1,2],[]⟩ _ _ _ _ _ _ _ c0,tT,tT,aw hm,tT,tF,tF,aw Wb]++Zx 10 (tC (eF (nt he)))++ [tC (nt he),tT])).to (by first|rfl|(simp [wk];done)|(simp [wk,a7,xD];done)|(simp [wk,a7];done))
theorem DH (b:List Int) (hb:dx b) (hl:b.length≤1000) (hw:kK b 0=true) (at_:Nat) (op w ab ae aa af ai cc:Int) (hx:cS Zy 3 (dB aaq 0) (JB b) (JC b (kK b 0) 64) .norm (IV b) (L0 b at_ (kK b 0) false op w ab ae aa af ai cc)) (hm:aQ Zy 41 [xD op w ab ae aa af ai cc] (ax true)) (own:List Int) (Wb:aQ Zy 42 [xD op w ab ae aa af ai cc] (.aL [bj 1 (bD own),aq 0])) (ha:(at_:Int)≤((bD b).length:Int)) (he:(((bD own).length:Int)==(at_:Int))=true) (hs:((iG (bD own)).toList==(iG (List.take (ZJ (at_:Int)) (bD b))).toList)=false):aQ Zy 21 ([bj 1 (bD b)]) (.aL [xD 0 0 0 0 0 0 0 0,aq 0,aq 30]):=by
 have c0:=lh hx
 exact (L5 (d:= .aL [(xD 0 0 0 0 0 0 0 0),aq 0,aq 30]) ([.aI _ _ _ _ _ (@gg (zX) ((xC (-1) 32 0 0 0 0 0 0)) b hb hl),tC hw,.dQ ⟨[0,2,5,6,7,8,28],[0,1,2],[]⟩ _ _ _ _ _ _ _ c0,tT,tT,aw hm,tT,tF,tF,aw Wb,tC (eF (nt he)),tC (eF (nt he)),tC (v:=true) (@Ee own)]++Zx 6 (tC (eF (nt he)))++ [.cM (decide (0≤(↑at_:Int)∧(↑at_:Int)≤(↑(ZA (bD b)):Int))) true (by ((try simp only [aG,cO] at*);(try unfold dK at*);omega)),tC (eF (nt he)),tC (v:=true) (@kh b (ZJ (↑at_:Int))),tC (eF (nt he)),tC (nt he),tC (nt hs)])).to (by first|rfl|(simp [wk];done)|(simp [wk,a7,xD];done)|(simp [wk,a7];done))
theorem It (b:List Int) (hb:dx b) (hl:b.length≤1000) (hw:kK b 0=true) (at_:Nat) (op w ab ae aa af ai cc:Int) (hx:cS Zy 3 (dB aaq 0) (JB b) (JC b (kK b 0) 64) .norm (IV b) (L0 b at_ (kK b 0) false op w ab ae aa af ai cc)) (hm:aQ Zy 41 [xD op w ab ae aa af ai cc] (ax true)) (own:List Int) (Wb:aQ Zy 42 [xD op w ab ae aa af ai cc] (.aL [bj 1 (bD own),aq 0])) (ha:(at_:Int)≤((bD b).length:Int)) (he:(((bD own).length:Int)==(at_:Int))=true) (hs:((iG (bD own)).toList==(iG (List.take (ZJ (at_:Int)) (bD b))).toList)=true):aQ Zy 21 ([bj 1 (bD b)]) (.aL [xD op w ab ae aa af ai cc,aq (at_:Int),aq 0]):=by
 have c0:=lh hx
 exact (L5 (d:= .aL [(xD op w ab ae aa af ai cc),aq (↑at_:Int),aq 0]) ([.aI _ _ _ _ _ (@gg (zX) ((xC (-1) 32 0 0 0 0 0 0)) b hb hl),tC hw,.dQ ⟨[0,2,5,6,7,8,28],[0,1,2],[]⟩ _ _ _ _ _ _ _ c0,tT,tT,aw hm,tT,tF,tF,aw Wb,tC (eF (nt he)),tC (eF (nt he)),tC (v:=true) (@Ee own)]++Zx 6 (tC (eF (nt he)))++ [.cM (decide (0≤(↑at_:Int)∧(↑at_:Int)≤(↑(ZA (bD b)):Int))) true (by ((try simp only [aG,cO] at*);(try unfold dK at*);omega)),tC (eF (nt he)),tC (v:=true) (@kh b (ZJ (↑at_:Int))),tC (eF (nt he)),tC (nt he),tC (nt hs)])).to (by first|rfl|(simp [wk];done)|(simp [wk,a7,xD];done)|(simp [wk,a7];done))
theorem EP {b:List Int} (hb:dx b) (k:Nat):0≤IW b k∧IW b k≤255:=by
 unfold IW
 split<;>exact dV hb _
theorem JX (b:List Int) (hb:dx b) (hl:b.length≤1000) (W:Int) (hW:(if kK b 0 then 64 else 32)=W):cS Zy 3 (dB aaq 0) (JB b) (JC b (kK b 0) W) .norm (IV b) (R7 b (lG b) (kK b 0) (J7 b 0) (J9 b 0)):=by
 subst hW
 exact aF.piece (ZP 3) (OD b hb hl (ER b 0) (MG b 0 false) (kK b 0) (aM b 0==102) (J7 b 0) (J9 b 0) (if kK b 0 then 64 else 32) (IW b 0) (EP hb 0).1 (EP hb 0).2)
theorem Jj {own b:List Int} {k:Nat} (ho:dx own) (hb:dx b) (h:own≠b.take k):((iG (bD own)).toList==(iG (List.take (ZJ (k:Int)) (bD b))).toList)=false:=by
 rw [aaE,← yv]
 cases e:((iG (bD own)).toList==(iG (bD (b.take k))).toList) with
 |false=>rfl
 |true=>exact absurd (LP ho (fun x hx=>hb x (List.mem_of_mem_take hx)) (beq_iff_eq.1 e)) h
theorem Et {own b:List Int} {k:Nat} (h:own=b.take k):((iG (bD own)).toList==(iG (List.take (ZJ (k:Int)) (bD b))).toList)=true:=by
 rw [aaE,← yv,h]
 exact beq_self_eq_true _
theorem Ip (b:List Int) (hb:dx b) (hl:b.length≤1000):aQ Zy 21 [bj 1 (bD b)] (EF (Lw b)):=by
 have hx:=JX b hb hl
 have Vm:=J2 b
 unfold Lw
 generalize lG b=r at hx Vm
 obtain ⟨⟨op,w,ab,ae,aa,af,ai,cc⟩,at_,bad⟩:=r
 have hm:=bf op w ab ae aa af ai cc
 have VH:(at_:Int)≤((bD b).length:Int):=by rw [aG];exact Int.ofNat_le.2 Vm
 have XN:bL op w ab ae aa af ai cc=true→aQ Zy 42 [xD op w ab ae aa af ai cc] (.aL [bj 1 (bD (cW ⟨op,w,ab,ae,aa,af,ai,cc⟩)),aq 0]):=by
  intro hq
  have Uy:op≤127:=by
   have:=KO (x:=⟨op,w,ab,ae,aa,af,ai,cc⟩) hq
   simp only [ic,List.mem_cons,List.not_mem_nil,or_false] at this
   omega
  have:=nU op w ab ae aa af ai cc Uy
  simp only [mi,qm,hq,if_true] at this
  exact this
 have hlen:(cW ⟨op,w,ab,ae,aa,af,ai,cc⟩).length≠at_→(((bD (cW ⟨op,w,ab,ae,aa,af,ai,cc⟩)).length:Int)==(at_:Int))=false:=by
  intro h
  rw [aG,gp]
  omega
 have Vy:(cW ⟨op,w,ab,ae,aa,af,ai,cc⟩).length=at_→(((bD (cW ⟨op,w,ab,ae,aa,af,ai,cc⟩)).length:Int)==(at_:Int))=true:=by
  intro h
  rw [aG,cF]
  omega
 have W9:kK b 0=false→_:=fun hw=>hx 32 (by rw [hw];rfl)
 have W7:kK b 0=true→_:=fun hw=>hx 64 (by rw [hw];rfl)
 clear hx
 cases hw:kK b 0
 all_goals
  cases bad
  case true=>
   rw [if_neg (by rintro ⟨h,_⟩;cases h)]
   first|exact DP b hb hl hw at_ op w ab ae aa af ai cc (W9 hw)|exact DK b hb hl hw at_ op w ab ae aa af ai cc (W7 hw)
  cases hq:bL op w ab ae aa af ai cc
  case false=>
   rw [hq] at hm
   rw [if_neg (by rintro ⟨_,h,_⟩;rw [show nW ⟨op,w,ab,ae,aa,af,ai,cc⟩=false from hq] at h;cases h)]
   first|exact DM b hb hl hw at_ op w ab ae aa af ai cc (W9 hw) hm|exact DI b hb hl hw at_ op w ab ae aa af ai cc (W7 hw) hm
  rw [hq] at hm
  have TS:=XN hq
  have Yj:dx (cW ⟨op,w,ab,ae,aa,af,ai,cc⟩):=qI hq
  by_cases he:(cW ⟨op,w,ab,ae,aa,af,ai,cc⟩).length=at_
  ·by_cases hs:cW ⟨op,w,ab,ae,aa,af,ai,cc⟩=b.take at_
   ·rw [if_pos ⟨rfl,hq,he,hs⟩]
    have hr:EF (some ⟨op,w,ab,ae,aa,af,ai,cc⟩)= .aL [xD op w ab ae aa af ai cc,aq (at_:Int),aq 0]:=by rw [← he];rfl
    rw [hr]
    first|exact Iu b hb hl hw at_ op w ab ae aa af ai cc (W9 hw) hm _ TS VH (Vy he) (Et hs)|exact It b hb hl hw at_ op w ab ae aa af ai cc (W7 hw) hm _ TS VH (Vy he) (Et hs)
   ·rw [if_neg (by rintro ⟨_,_,_,h⟩;exact hs h)]
    first|exact DL b hb hl hw at_ op w ab ae aa af ai cc (W9 hw) hm _ TS VH (Vy he) (Jj Yj hb hs)|exact DH b hb hl hw at_ op w ab ae aa af ai cc (W7 hw) hm _ TS VH (Vy he) (Jj Yj hb hs)
  ·rw [if_neg (by rintro ⟨_,_,h,_⟩;exact he h)]
   first|exact DN b hb hl hw at_ op w ab ae aa af ai cc (W9 hw) hm _ TS (hlen he)|exact DJ b hb hl hw at_ op w ab ae aa af ai cc (W7 hw) hm _ TS (hlen he)
theorem Iq (b:List Int) (hb:dx b) (hl:b.length≤1000):aQ Zy 21 [bj 1 (bD b)] (EF (iC b)):=by
 rw [← Lv]
 exact Ip b hb hl
theorem BM (n:Nat) (s:List Ob):∀(tl:List Ob) (j:Nat),6≤j→Gi (ZL 6) n s tl j=tl
 | [],_,_=>rfl
 |o::tl,j,h=>by
  have:(ZL 6).idxOf? j=none:=by rw [List.idxOf?_eq_none_iff];simp;omega
  rw [Gi,this,BM n s tl (j+1) (by omega)]
theorem R8 (o0 o1 o2 o3 o4 o5:Ob) (tl ex:List Ob) {y1:Ob} {q:D} {cx:List Int} (cb fr st:List Int) (hq:Bs q y1 cx) (hy:y1= .dead∨∃i s n,q= .dz i s n) (c2:List Int):
  tZ (ZL 6) (o0::o1::o2::o3::o4::o5::tl) (dS .dead (yX q y1 c2) q cb fr st++ex)=dS .dead (yX q y1 c2) q cb fr st++(tl++ex.map (Ob.rn (gE (ZL 6) (tl.length+6)))):=by
 rcases hq with ⟨rfl,rfl⟩|⟨rfl,rfl⟩
 ·show [aY,aA (D.jN (gE (ZL 6) (tl.length+6)) (bD c2)),aY,aA (D.jN (gE (ZL 6) (tl.length+6)) (bD fr)),aA (dC (.dz 1 1 cx.length) cb),aA (D.jN (gE (ZL 6) (tl.length+6)) (bD st))]++Gi (ZL 6) (tl.length+6) _ tl 6++_=_
  rw [ef,ef,ef,BM _ _ _ _ (ZP 6),ZM]
  rfl
 ·obtain rfl:y1= .dead:=by
   rcases hy with h|⟨i,s,n,h⟩
   ·exact h
   ·cases h
  show [aY,aY,aY,aA (D.jN (gE (ZL 6) (tl.length+6)) (bD fr)),aA (dC (bj 1 (bD [])) cb),aA (D.jN (gE (ZL 6) (tl.length+6)) (bD st))]++Gi (ZL 6) (tl.length+6) _ tl 6++_=_
  rw [ef,ef,BM _ _ _ _ (ZP 6),ZM]
  rfl
theorem Gr (b:List Int):iC (b.take 20)=iC b:=by
 have back:∀ {x:XS} {c:List Int},nW x=true→cW x<+:c→iC c=some x:=fun h p=>by
  obtain ⟨t,rfl⟩:=p
  exact Gt h t
 cases h:iC b with
 |some x=>
  obtain ⟨h1,h2⟩:=uJ h
  exact back h1 (List.prefix_take_iff.2 ⟨h2,by have:=(IC x).2;omega⟩)
 |none=>
  cases h':iC (b.take 20) with
  |none=>rfl
  |some x=>
   obtain ⟨h1,h2⟩:=uJ h'
   rw [back h1 (h2.trans (List.take_prefix ..))] at h
   cases h
theorem QE (l:List Int):List.take (ZJ (if (20:Int)<((bD l).length:Int) then (20:Int) else ((bD l).length:Int))) (bD l)=bD (l.take 20):=by
 rw [aG]
 split
 ·exact (yv ..).symm
 ·rw [show ZJ (l.length:Int)=l.length by omega,List.take_of_length_le (by rw [aG];exact ZP _),List.take_of_length_le (by omega)]
abbrev tS (y1:Ob) (q:D) (cb:List Int) (e:mu) (v:Nat) (dd:List Ob):List Ob:= .dead::y1::aY::aA (bD e.fr)::aA (dC q cb)::aA (bD e.st)::aA (uD e.m (wD e.an) (iq e.tr) v):: .ey v 3::dd
section
variable (y1:Ob) (q:D) (cb cx fr st:List Int) (hq:Bs q y1 cx) (hy:y1= .dead∨∃i s n,q= .dz i s n) (hc:cb.length≤16384) (hx:cx.length≤256) (hf:fr.length=64) (hs:st.length=264) (tl:List Ob)
theorem QX:∀x∈ZL 6,x<(dS .dead y1 q cb fr st++tl).length:=fun x h=>by
 rw [ZR]
 have:=List.mem_range.1 h
 show x<6+_
 omega
include hq hy
theorem NR:yX q y1 cx=y1:=by rcases hq with ⟨rfl,rfl⟩|⟨rfl,_⟩<;>rfl
theorem JG (ex:List Ob):tZ (ZL 6) (dS .dead y1 q cb fr st++tl) (dS .dead y1 q cb fr st++ex)=dS .dead y1 q cb fr st++(tl++ex.map (Ob.rn (gE (ZL 6) (tl.length+6)))):=by
 have:=R8 .dead y1 .dead (aA (bD fr)) (aA (dC q cb)) (aA (bD st)) tl ex cb fr st hq hy cx
 rw [NR y1 q cx hq hy] at this
 exact this
include hc hx
theorem Nr (a:Int) (h:je 1048576 cb.length a 1=true):ao Zy 51 [.ptr false 4 0,av a] (dS .dead y1 q cb fr st++tl) (.aL [bj 1 (bD (cb.drop (mG 1048576 a))),aq 0]) (dS .dead y1 q cb fr st++(tl++ [aY])):=by
 have h1:=A9 .dead y1 q cb cx fr st hq hx hc a
 rw [if_pos h,if_pos h] at h1
 have h2:=h1.rn (ZL 6) (dS .dead y1 q cb fr st++tl) rfl (List.nodup_range) (QX y1 q cb fr st tl) (by have:=JG y1 q cb cx fr st hq hy tl [];simpa using this)
 rw [JG y1 q cb cx fr st hq hy tl [aY]] at h2
 exact h2
theorem Ns (a:Int) (h:je 1048576 cb.length a 1=false):ao Zy 51 [.ptr false 4 0,av a] (dS .dead y1 q cb fr st++tl) (.aL [.bc .tight 0 [],aq 20]) (dS .dead y1 q cb fr st++tl):=by
 have h1:=A9 .dead y1 q cb cx fr st hq hx hc a
 rw [if_neg (by rw [h];decide),if_neg (by rw [h];decide)] at h1
 have e:tZ (ZL 6) (dS .dead y1 q cb fr st++tl) (dS .dead y1 q cb fr st)=dS .dead y1 q cb fr st++tl:=by have:=JG y1 q cb cx fr st hq hy tl [];simpa using this
 have h2:=h1.rn (ZL 6) (dS .dead y1 q cb fr st++tl) rfl (List.nodup_range) (QX y1 q cb fr st tl) e
 rw [aaH,e] at h2
 exact h2
include hf hs
theorem KT (a n:Int) (hn:n=1∨n=2∨n=4∨n=8):ao Zy 56 [.ptr false 4 0,av a,aq n] (dS .dead y1 q cb fr st++tl) (match jW cb cx fr st a n with|some z=> .aL [av z,aq 0]|none=> .aL [av 0,aq 20]) (dS .dead y1 q cb fr st++tl):=by
 have e:tZ (ZL 6) (dS .dead y1 q cb fr st++tl) (dS .dead y1 q cb fr st)=dS .dead y1 q cb fr st++tl:=by have:=JG y1 q cb cx fr st hq hy tl [];simpa using this
 have h:=(Nw .dead y1 q cb cx fr st hq hc hx hf hs a n hn).rn (ZL 6) (dS .dead y1 q cb fr st++tl) rfl (List.nodup_range) (QX y1 q cb fr st tl) e
 rw [e] at h
 cases hl:jW cb cx fr st a n<;>(rw [hl] at h;exact h)
theorem Mh (a n w:Int) (hn:n=1∨n=2∨n=4∨n=8):ao Zy 54 [.ptr false 4 0,av a,aq n,av w] (dS .dead y1 q cb fr st++tl) (match iH cx fr st a n w with|some _=> .int .i64 0|none=> .int .i64 20) (match iH cx fr st a n w with|some r=>dS .dead (yX q y1 r.1) q cb r.2.1 r.2.2++tl|none=>dS .dead y1 q cb fr st++tl):=by
 have e:tZ (ZL 6) (dS .dead y1 q cb fr st++tl) (dS .dead y1 q cb fr st)=dS .dead y1 q cb fr st++tl:=by have:=JG y1 q cb cx fr st hq hy tl [];simpa using this
 have h:=(Ls .dead y1 q cb cx fr st hq hc hx hf hs a n hn w).rn (ZL 6) (dS .dead y1 q cb fr st++tl) rfl (List.nodup_range) (QX y1 q cb fr st tl) e
 cases hl:iH cx fr st a n w with
 |none=>rw [hl] at h;simp only [e] at h;exact h
 |some r=>
  rw [hl] at h
  have e2:=R8 .dead y1 .dead (aA (bD fr)) (aA (dC q cb)) (aA (bD st)) tl [] cb r.2.1 r.2.2 hq hy r.1
  rw [aaH,List.map_nil,aaH] at e2
  simp only at h
  rw [show tZ (ZL 6) (dS .dead y1 q cb fr st++tl) (dS .dead (yX q y1 r.1) q cb r.2.1 r.2.2)=_ from e2] at h
  exact h
end
theorem JI (v:Int):aQ Zy 128 [aq v] (aq (nh v:Int)):=by
 unfold nh
 by_cases h0:0≤v
 ·by_cases h1:v≤15
  ·rw [if_pos ⟨h0,h1⟩]
   have e:Int.tmod v 6=((v.toNat%6:Nat):Int):=by rw [Int.tmod_eq_emod_of_nonneg h0];omega
   rw [← e]
   exact Gj v h0 h1
  ·rw [if_neg (fun h=>h1 h.2)];exact wv v (by omega)
 ·rw [if_neg (fun h=>h0 h.1)];exact wu v (by omega)
theorem MF (m:au) (v:Int) (hn:aQ Zy 85 [.agg (eV m)] (.aL [aq v,ax true])):aQ Zy 86 [.agg (eV m)] (bj 1 (wD (pL m (nh v)))):=by
 have ha:=JI v
 have h5:=FI v
 generalize nh v=n at ha h5
 have:n=0∨n=1∨n=2∨n=3∨n=4∨n=5:=by omega
 rcases this with rfl|rfl|rfl|rfl|rfl|rfl
 ·exact Cn m v hn ha
 ·exact Cm m v hn ha
 ·exact Cl m v hn ha
 ·exact Ck m v hn ha
 ·exact Cj m v hn ha
 ·exact Ci m v hn ha
theorem Io (y1:Ob) (q:D) (cb:List Int) (hb:dx cb) (hc:cb.length≤16384) (e:mu) (hq:Bs q y1 e.cx) (hy:y1= .dead∨∃i s n,q= .dz i s n) (hx:e.cx.length≤256) (hf:e.fr.length=64) (hs:e.st.length=264) (ht:e.tr.length≤100000):
  ∃(v:Nat) (dd:List Ob),(v=0∨v=1∧(bF cb e).2=true)∧ao Zy 29 [.ptr false 6 0] (tS y1 q cb e 0 []) (.aL [ak (bF cb e).1.en,ax (bF cb e).2]) (tS (yX q y1 (bF cb e).1.cx) q cb (bF cb e).1 v dd):=by
 obtain ⟨m,cx,fr,st,an,tr,en⟩:=e
 simp only at hq hx hf hs ht
 have VM:=NR y1 q cx hq hy
 cases h0:je 1048576 cb.length m.pc 1 with
 |false=>
  have es:bF cb ⟨m,cx,fr,st,an,tr,en⟩=(⟨m,cx,fr,st,an,tr,3⟩,false):=by unfold bF;rw [if_neg (by rw [h0];decide)]
  rw [es]
  refine ⟨0,[],.inl rfl,?_⟩
  simp only [VM]
  exact Bx _ _ _ _ _ _ _ _ 20 (by decide) (Ns y1 q cb cx fr st hq hy hc hx [aA (uD m (wD an) (iq tr) 0),.ey 0 3] m.pc h0)
 |true=>
  have hF:=fun Ww=>Nr y1 q cb cx fr st hq hy hc hx [aA (uD m Ww (iq tr) 0),.ey 0 3] m.pc h0
  have hr:=Iq ((cb.drop (mG 1048576 m.pc)).take 20) (fun y hy=>hb y (List.mem_of_mem_drop (List.mem_of_mem_take hy))) (by rw [List.length_take];omega)
  rw [Gr,← QE] at hr
  cases hM:iC (cb.drop (mG 1048576 m.pc)) with
  |none=>
   rw [hM] at hr
   have es:bF cb ⟨m,cx,fr,st,an,tr,en⟩=(⟨m,cx,fr,st,an,tr,3⟩,false):=by unfold bF;rw [if_pos h0,hM]
   rw [es]
   refine ⟨0,Zx 3 .dead,.inl rfl,?_⟩
   simp only [VM]
   exact FT _ _ _ _ _ _ _ _ _ (hF _) 0 0 0 0 0 0 0 0 0 30 hr (by decide)
  |some x=>
   rw [hM] at hr
   have hm:=zZ hM
   have hd:=fun ld=>BX m x ld (rk hm)
   have VP:=fun ld=>Od (m:=m) (ld:=ld) hm
   obtain ⟨op,w,ab,ae,aa,af,ai,cc⟩:=x
   have UM:bL op w ab ae aa af ai cc=true:=hm
   have Uy:=rk UM
   obtain ⟨⟨d0,d1,s0,s1,b0,b1,_⟩,_⟩:=dA UM
   by_cases US:op=31
   ·subst US
    have ha:=An m 31 w ab ae aa af ai cc Uy (by decide) (by decide) (by decide) UM
    have hn:=Mo m
    cases WC:qO m.q0 with
    |false=>
     rw [WC] at hn
     have es:bF cb ⟨m,cx,fr,st,an,tr,en⟩=(⟨m,cx,fr,st,an,tr,3⟩,false):=by
      simp [bF,h0,hM,WC]
     rw [es]
     refine ⟨0,Zx 5 .dead,.inl rfl,?_⟩
     simp only [VM]
     exact yW _ _ _ _ _ _ _ _ _ (hF _) _ _ _ _ _ _ _ _ _ hr rfl _ _ _ ha _ hn
    |true=>
     rw [WC] at hn
     cases an with
     |nil=>
      have es:bF cb ⟨m,cx,fr,st,[],tr,en⟩=(⟨m,cx,fr,st,[],tr,2⟩,false):=by
       simp [bF,h0,hM,WC]
      rw [es]
      refine ⟨0,Zx 5 .dead,.inl rfl,?_⟩
      simp only [VM]
      exact yV _ _ _ _ _ _ _ _ (hF _) _ _ _ _ _ _ _ _ _ hr rfl _ _ _ ha _ hn
     |cons a0 ar=>
      have es:bF cb ⟨m,cx,fr,st,a0::ar,tr,en⟩=(⟨(fm m ⟨31,w,ab,ae,aa,af,ai,cc⟩ a0).1,cx,fr,st,ar,tr++ [⟨kL m.q0,pL m (nh (kL m.q0)),a0⟩],0⟩,true):=by
       simp [bF,h0,hM,WC]
      rw [es]
      have hD:=hd a0
      rw [VP a0 (.inr (.inr (.inr rfl)))] at hD
      have hg:=MF m _ hn
      have et:iq (tr++ [⟨kL m.q0,pL m (nh (kL m.q0)),a0⟩])=iq tr++ [.agg [aq (kL m.q0),bj 1 (wD (pL m (nh (kL m.q0)))),av a0]]:=by simp [iq,Oi.d]
      refine ⟨1,Zx 9 .dead,.inr ⟨rfl,rfl⟩,?_⟩
      simp only [VM]
      have:=FV _ _ _ _ _ (wD ar) _ _ _ a0 _ (hF _) _ _ _ _ _ _ _ _ _ hr rfl rfl _ _ _ ha _ (by simpa [iq] using ht) hn hg _ _ hD rfl
      rw [← et] at this
      exact this
   have TU:∀k,op≠k→(op==k)=false:=fun k h=>by simpa using h
   by_cases Uj:op=27
   ·subst Uj
    have hw:=pt UM (.inr rfl)
    have YA:=ff hw
    have ha:=Gx m w ab ae aa af ai cc d0 d1 s0 s1 b0 b1 (by omega) (by omega) UM
    have Ty:=Gh m w ab ae aa af ai cc d0 d1 s0 s1 b0 b1 hw UM
    have hW:=Mh y1 q cb cx fr st hq hy hc hx hf hs [aA (uD m (wD an) (iq tr) 0),.ey 0 3,aY,aY,xB 27 w ab ae aa af ai cc,aY,aY] (u64 (rg m.rl aa+u64 af)) (w / 8) (aJ (rg m.rl ae) w) (by omega)
    cases hS:iH cx fr st (u64 (rg m.rl aa+u64 af)) (w / 8) (aJ (rg m.rl ae) w) with
    |none=>
     rw [hS] at hW
     have es:bF cb ⟨m,cx,fr,st,an,tr,en⟩=(⟨m,cx,fr,st,an,tr,3⟩,false):=by
      simp [bF,h0,hM,hS]
     rw [es]
     refine ⟨0,Zx 5 .dead,.inl rfl,?_⟩
     simp only [VM]
     exact wb _ _ _ _ _ _ _ _ _ (hF _) _ _ _ _ _ _ _ _ _ hr rfl rfl _ _ ha _ Ty hW
    |some r=>
     rw [hS] at hW
     have es:bF cb ⟨m,cx,fr,st,an,tr,en⟩=(⟨(fm m ⟨27,w,ab,ae,aa,af,ai,cc⟩ 0).1,r.1,r.2.1,r.2.2,an,tr,0⟩,true):=by
      simp [bF,h0,hM,hS]
     rw [es]
     have hD:=hd 0
     rw [VP 0 (.inr (.inl rfl))] at hD
     exact ⟨0,Zx 7 .dead,.inl rfl,Bw _ _ _ _ _ _ _ _ _ _ _ _ (hF _) _ _ _ _ _ _ _ _ _ hr rfl rfl rfl _ _ ha _ Ty hW _ _ hD rfl⟩
   by_cases UQ:op=26
   ·subst UQ
    have hw:=pt UM (.inl rfl)
    have YA:=ff hw
    have ha:=Gy m w ab ae aa af ai cc d0 d1 s0 s1 b0 b1 (by omega) (by omega) UM
    have hL:=KT y1 q cb cx fr st hq hy hc hx hf hs [aA (uD m (wD an) (iq tr) 0),.ey 0 3,aY,aY,xB 26 w ab ae aa af ai cc,aY] (u64 (rg m.rl aa+u64 af)) (w / 8) (by omega)
    cases hS:jW cb cx fr st (u64 (rg m.rl aa+u64 af)) (w / 8) with
    |none=>
     rw [hS] at hL
     have es:bF cb ⟨m,cx,fr,st,an,tr,en⟩=(⟨m,cx,fr,st,an,tr,3⟩,false):=by
      simp [bF,h0,hM,hS]
     rw [es]
     refine ⟨0,Zx 4 .dead,.inl rfl,?_⟩
     simp only [VM]
     exact qo _ _ _ _ _ _ _ _ _ (hF _) _ _ _ _ _ _ _ _ _ hr rfl rfl _ _ ha hL
    |some z=>
     rw [hS] at hL
     have es:bF cb ⟨m,cx,fr,st,an,tr,en⟩=(⟨(fm m ⟨26,w,ab,ae,aa,af,ai,cc⟩ z).1,cx,fr,st,an,tr,0⟩,true):=by
      simp [bF,h0,hM,hS]
     rw [es]
     have hD:=hd z
     rw [VP z (.inl rfl)] at hD
     refine ⟨0,Zx 6 .dead,.inl rfl,?_⟩
     simp only [VM]
     exact FU _ _ _ _ _ _ _ _ _ (hF _) _ _ _ _ _ _ _ _ _ hr rfl rfl rfl _ _ ha _ hL _ _ hD rfl
   by_cases UX:op=30
   ·subst UX
    have ha:=Gw m w ab ae aa af ai cc d0 d1 s0 s1 b0 b1 UM
    have hL:=KT y1 q cb cx fr st hq hy hc hx hf hs [aA (uD m (wD an) (iq tr) 0),.ey 0 3,aY,aY,xB 30 w ab ae aa af ai cc,aY] m.q4 8 (by omega)
    cases hS:jW cb cx fr st m.q4 8 with
    |none=>
     rw [hS] at hL
     have es:bF cb ⟨m,cx,fr,st,an,tr,en⟩=(⟨m,cx,fr,st,an,tr,3⟩,false):=by
      simp [bF,h0,hM,hS]
     rw [es]
     refine ⟨0,Zx 4 .dead,.inl rfl,?_⟩
     simp only [VM]
     exact qo _ _ _ _ _ _ _ _ _ (hF _) _ _ _ _ _ _ _ _ _ hr rfl rfl _ _ ha hL
    |some z=>
     rw [hS] at hL
     have hD:=hd z
     rw [VP z (.inr (.inr (.inl rfl)))] at hD
     by_cases hz:z=0
     ·have es:bF cb ⟨m,cx,fr,st,an,tr,en⟩=(⟨(fm m ⟨30,w,ab,ae,aa,af,ai,cc⟩ z).1,cx,fr,st,an,tr,1⟩,false):=by
       simp [bF,h0,hM,hS,hz]
      rw [es]
      refine ⟨0,Zx 6 .dead,.inl rfl,?_⟩
      simp only [VM]
      exact FR _ _ _ _ _ _ _ _ _ (hF _) _ _ _ _ _ _ _ _ _ hr rfl rfl rfl _ _ ha _ hL _ _ hD rfl (by rw [hz];rfl)
     ·have es:bF cb ⟨m,cx,fr,st,an,tr,en⟩=(⟨(fm m ⟨30,w,ab,ae,aa,af,ai,cc⟩ z).1,cx,fr,st,an,tr,0⟩,true):=by
       simp [bF,h0,hM,hS,hz]
      rw [es]
      refine ⟨0,Zx 6 .dead,.inl rfl,?_⟩
      simp only [VM]
      exact Jh _ _ _ _ _ _ _ _ _ (hF _) _ _ _ _ _ _ _ _ _ hr rfl rfl rfl _ _ ha _ hL _ _ hD rfl (bne hz)
   have ha:=An m op w ab ae aa af ai cc Uy (TU _ UQ) (TU _ Uj) (TU _ UX) UM
   have hD:=hd 0
   by_cases h2:(fm m ⟨op,w,ab,ae,aa,af,ai,cc⟩ 0).2=0
   ·have es:bF cb ⟨m,cx,fr,st,an,tr,en⟩=(⟨(fm m ⟨op,w,ab,ae,aa,af,ai,cc⟩ 0).1,cx,fr,st,an,tr,0⟩,true):=by
     simp [bF,h0,hM,US,Uj,UQ,UX,h2]
    rw [es]
    refine ⟨0,Zx 6 .dead,.inl rfl,?_⟩
    simp only [VM]
    exact FX _ _ _ _ _ _ _ _ _ (hF _) _ _ _ _ _ _ _ _ _ hr (TU _ US) (TU _ UX) _ _ ha _ _ hD h2
   ·have es:bF cb ⟨m,cx,fr,st,an,tr,en⟩=(⟨m,cx,fr,st,an,tr,3⟩,false):=by
     simp [bF,h0,hM,US,Uj,UQ,UX,h2]
    rw [es]
    refine ⟨0,Zx 6 .dead,.inl rfl,?_⟩
    simp only [VM]
    exact yY _ _ _ _ _ _ _ _ _ (hF _) _ _ _ _ _ _ _ _ _ hr (TU _ US) _ _ ha _ _ hD h2
abbrev Ja:List Nat:= [1,2,6,3,4,5,7,11]
def q1 (nx:Nat):Nat→D|0=> .dz 1 1 nx|_=> .bc .no 1 (bD [])
abbrev Og (r nx:Nat) (cb:List Int) (e:mu) (k:Int) (w v:Nat) (dd:List Ob):List Ob:=Lu r nx cb (bD e.cx) (bD e.fr) (bD e.st) (wD e.an) (iq e.tr) e.m k w v dd
theorem R9 (r nx:Nat) (hr:r=0∨r=1) (cb:List Int) (e0 e:mu) (k:Int) (w v0 v:Nat) (dd:List Ob):
  tZ Ja (Og r nx cb e0 k w v0 []) (tS (z2 (bD e.cx) r) (q1 nx r) cb e v dd)=Og r nx cb e k w v (dd.map (Ob.rn (gE Ja 12))):=by
 rcases hr with rfl|rfl
 ·show oR 0::aY::aA (D.jN (gE Ja 12) (bD e.cx))::aA (D.jN (gE Ja 12) (bD e.fr))::aA [bj 1 (bD cb),zq nx 0,.dz 3 1 64,.dz 5 1 264]::aA (D.jN (gE Ja 12) (bD e.st))::aY::aA (uP e.m (wD e.an) (iq e.tr) v)::oR k:: .ey w 1:: .ey w 22:: .ey v 3::dd.map (Ob.rn (gE Ja 12))=_
  rw [ef,ef,ef]
  rfl
 ·show oR 0::aY::aY::aA (D.jN (gE Ja 12) (bD e.fr))::aA [bj 1 (bD cb),zq nx 1,.dz 3 1 64,.dz 5 1 264]::aA (D.jN (gE Ja 12) (bD e.st))::aY::aA (uP e.m (wD e.an) (iq e.tr) v)::oR k:: .ey w 1:: .ey w 22:: .ey v 3::dd.map (Ob.rn (gE Ja 12))=_
  rw [ef,ef]
  rfl
theorem Nv (r nx:Nat) (hr:r=0∨r=1) (cb:List Int) (hb:dx cb) (hc:cb.length≤16384) (e:mu) (hx:e.cx.length=nx) (h1:r=1→nx=0) (hn:nx≤256) (hf:e.fr.length=64) (hs:e.st.length=264) (ht:e.tr.length≤100000) (k:Int) (w:Nat):
  ∃(v:Nat) (dd:List Ob),(v=0∨v=1∧(bF cb e).2=true)∧ao Zy 29 [.ptr false 7 0] (Og r nx cb e k w 0 []) (.aL [ak (bF cb e).1.en,ax (bF cb e).2]) (Og r nx cb (bF cb e).1 k w v dd):=by
 have hq:Bs (q1 nx r) (z2 (bD e.cx) r) e.cx:=by
  rcases hr with rfl|rfl
  ·exact .inl ⟨by rw [hx];rfl,rfl⟩
  ·have:e.cx= []:=List.eq_nil_of_length_eq_zero (hx.trans (h1 rfl))
   exact .inr ⟨by rw [this];rfl,this⟩
 have hy:z2 (bD e.cx) r= .dead∨∃i s n,q1 nx r= .dz i s n:=by
  rcases hr with rfl|rfl
  ·exact .inr ⟨_,_,_,rfl⟩
  ·exact .inl rfl
 obtain ⟨v,dd,hv,hS⟩:=Io _ _ cb hb hc e hq hy (by omega) hf hs ht
 have e1:yX (q1 nx r) (z2 (bD e.cx) r) (bF cb e).1.cx=z2 (bD (bF cb e).1.cx) r:=by rcases hr with rfl|rfl<;>rfl
 rw [e1] at hS
 have h:=hS.rn Ja (Og r nx cb e k w 0 []) rfl (by decide) (show ∀x∈Ja,x<12 by decide) (R9 r nx hr cb e e k w 0 0 [])
 rw [R9 r nx hr cb e (bF cb e).1 k w 0 v dd] at h
 exact ⟨v,_,hv,h⟩
def sK (cb:List Int):Nat→mu→List au
  |0,_=> []
  |f+1,e=>e.m::(match bF cb e with
    |(e2,true)=>sK cb f e2
    |(_,false)=> [])
def Fh (l:List au):List D:=l.map fun m=> .agg (eV m)
theorem Rq {m:au} (h0:0≤m.pc) (h1:m.pc≤18446744073709551615):Q3 m.pc (G2 m.pc):=by
 unfold Q3 G2
 simp only [bX,cJ]
 rw [bZ]
 by_cases p:m.pc<1048576
 ·exact .inl ⟨by omega,by rw [if_neg (by omega)]⟩
 by_cases p1:m.pc≤1064960
 ·exact .inr (.inr ⟨by omega,p1,by rw [if_pos (by omega)]⟩)
 ·exact .inr (.inl ⟨by omega,p1,by rw [if_neg (by omega)]⟩)
theorem vq (r nx:Nat) (hr:r=0∨r=1) (cb:List Int) (hb:dx cb) (hc:cb.length≤16384) (h1:r=1→nx=0) (hn:nx≤256):∀(f:Nat) (e:mu) (pl l:List D),pl.length+f≤100000→l.length+f≤100000→sF e.m→e.en=0→e.cx.length=nx→e.fr.length=64→e.st.length=264→e.tr.length+f≤100000→
  cX Zy (dT Tryz.f13 0) 9 (L8 f pl l) (Og r nx cb e 0 0 0 []) (.exit 0) (L8 (ko cb f e).2 (pl++iD (oa cb f e)) (l++Fh (sK cb f e))) (Og r nx cb (ko cb f e).1 (ko cb f e).1.en 0 0 [])
 |0,e,pl,l,_,_,WS,h0,hx,hf,hs,ht=>by
  have:=Py r nx hr cb e.cx e.fr e.st (wD e.an) (iq e.tr) pl l e.m ((0:Nat):Int) (Int.le_refl _)
  rw [ca,ca,ca] at this
  rw [ko,oa,sK,h0,iD,Fh,List.map_nil,List.map_nil,aaH,aaH]
  exact cX.last this (fun h=>by cases h)
 |f+1,e,pl,l,lp,ll,WS,h0,hx,hf,hs,ht=>by
  have hw:aaY.i64.wrap (((f+1:Nat):Int) - 1)=(f:Int):=by rw [aX];omega
  obtain ⟨v,dd,hv,hS⟩:=Nv r nx hr cb hb hc e hx h1 hn hf hs (by omega) 0 1
  have VO:=wc cb e
  have TY:=qR cb e
  have Xb:=Mj cb e WS
  have hq:=Rq WS.1 WS.2
  rw [ko,oa,sK]
  cases Ty:bF cb e with
  |mk e2 b=>
   rw [Ty] at hS hv VO TY Xb
   simp only at hS hv VO TY Xb
   cases b with
   |true=>
    obtain ⟨t,Wy,hl⟩:=TY.tr
    have ih:=vq r nx hr cb hb hc h1 hn f e2 (pl++ [aq (G2 e.m.pc)]) (l++ [.agg (eV e.m)]) (by rw [ZR,aaJ];omega) (by rw [ZR,aaJ];omega) Xb (VO.1 rfl) (TY.cx.trans hx) (TY.fr.trans hf) (TY.st.trans hs) (by rw [Wy,ZR];omega)
    have:=QK r nx hr cb e.cx e.fr e.st (wD e.an) (iq e.tr) pl l e.m ((f+1:Nat):Int) _ (by omega) (by omega) (by omega) e2.cx e2.fr e2.st (wD e2.an) (iq e2.tr) e2.m _ dd hq v (by rcases hv with h|⟨h,_⟩<;>omega) hS
    rw [ca,ca,ca,hw] at this
    rw [ZM,ZM] at ih
    exact cX.j4 this ih
   |false=>
    rcases hv with rfl|⟨_,h⟩
    ·have:=QJ r nx hr cb e.cx e.fr e.st (wD e.an) (iq e.tr) pl l e.m ((f+1:Nat):Int) _ (by omega) (by omega) (by omega) e2.cx e2.fr e2.st (wD e2.an) (iq e2.tr) e2.m _ dd hq hS
     rw [ca,ca,ca,hw] at this
     exact cX.last this (fun h=>by cases h)
    ·cases h
def DR (cb:List Int) (lv:Int):Nat→mu→Nat→Nat×Nat
  |0,_,n=>(n,0)
  |f+1,e,n=>if (n:Int)+1=lv then (n+1,1) else match bF cb e with
    |(e2,true)=>DR cb lv f e2 (n+1)
    |(_,false)=>(n+1,2)
def RQ (k:Nat):Ex:=if k=0 then .exit 0 else .ret
def RC (k:Nat):Lk:=if k=1 then .exit 0 else .ready
theorem LB (cb:List Int) (lv:Int):∀(f:Nat) (e:mu) (n:Nat),(DR cb lv f e n).2≤2∧n≤(DR cb lv f e n).1∧(DR cb lv f e n).1≤n+f∧((DR cb lv f e n).1=n+(oa cb f e).length∨((DR cb lv f e n).1:Int)=lv)
 |0,e,n=>⟨by simp [DR],ZP _,ZP _,.inl rfl⟩
 |f+1,e,n=>by
  rw [DR,oa]
  split
  ·exact ⟨by simp,by simp,by simp only [];omega,.inr (by simp only [];omega)⟩
  ·cases hs:bF cb e with
   |mk e2 b=>
    cases b with
    |true=>
     obtain ⟨h0,h1,h2,h3⟩:=LB cb lv f e2 (n+1)
     refine ⟨h0,by simp only [];omega,by simp only [];omega,?_⟩
     simp only [List.length_cons]
     rcases h3 with h|h
     ·exact .inl (by omega)
     ·exact .inr h
    |false=>exact ⟨by simp,by simp,by simp only [];omega,.inl (by simp)⟩
theorem u9 (cb:List Int) (hb:dx cb) (hc:cb.length≤16384) (nx:Nat) (Vf:nx≤256) (lv:Int) (V:List Int) (M:List au) (hV:V.length≤100000):∀(f:Nat) (e:mu) (n:Nat),V.drop n=oa cb f e→M.drop n=sK cb f e→n+f≤100000→e.en=0→e.cx.length=nx→e.fr.length=64→e.st.length=264→e.tr.length+f≤100000→
  cX Zy (dT Tryz.f45 0) 28 vT (vS lv (iD V) (Fh M) (n:Int) (sP (dP aam 0) (dN aam 0) .ready) (f:Int) e.m (bD cb) (bD e.cx) (bD e.fr) (bD e.st) (wD e.an) (iq e.tr) e.en cb.length nx 0 []) (RQ (DR cb lv f e n).2) kU (vO lv (iD V) ((DR cb lv f e n).1:Nat) (sP (dP aam 0) (dN aam 0) (RC (DR cb lv f e n).2)))
 |0,e,n,_,_,_,h0,hx,hf,hs,ht=>by
  rw [DR]
  exact cX.last (Pm lv (iD V) (Fh M) cb e.cx e.fr e.st (wD e.an) (iq e.tr) ((0:Nat):Int) e.en n cb.length nx e.m (Int.le_refl _)) (fun h=>by cases h)
 |f+1,e,n,hv,hm,hn,h0,hx,hf,hs,ht=>by
  have hw:aaY.i64.wrap (((f+1:Nat):Int) - 1)=(f:Int):=by rw [aX];omega
  have VN:aaY.i64.wrap ((n:Int)+1)=((n+1:Nat):Int):=by rw [aX];omega
  rw [oa] at hv
  rw [sK] at hm
  have hnV:n<V.length:=by
   rcases Nat.lt_or_ge n V.length with h|h
   ·exact h
   ·rw [List.drop_of_length_le h] at hv;cases hv
  have gv:(iD V)[ZJ (n:Int)]? =some (aq (G2 e.m.pc)):=by
   rw [aaE]
   refine Pp ?_
   have:=congrArg (·[0]?) hv
   simpa using this
  have gm:(Fh M)[ZJ (n:Int)]? =some (.agg (eV e.m)):=by
   rw [aaE,Fh,List.getElem?_map]
   have:=congrArg (·[0]?) hm
   simp only [List.getElem?_drop,Nat.add_zero,List.getElem?_cons_zero] at this
   rw [this];rfl
  have ho:=Kk lv (iD V) (Fh M) n (sP (dP aam 0) (dN aam 0) .ready) ((f+1:Nat):Int) cb e.cx e.fr e.st (wD e.an) (iq e.tr) e.m e.en cb.length nx
  obtain ⟨r1,r2⟩:=RD lv (iD V) (Fh M) cb e.cx e.fr e.st (wD e.an) (iq e.tr) ((f+1:Nat):Int) e.en n cb.length nx e.m (by omega) (by rw [KW];omega) _ gv gm (by omega) ho
  rw [DR]
  by_cases g:(n:Int)+1=lv
  ·rw [if_pos g]
   have:=r1 (by rw [VN,cF];omega)
   rw [VN] at this
   exact cX.last this (fun h=>by cases h)
  rw [if_neg g]
  have r2:=r2 (by rw [VN,gp];omega)
  obtain ⟨v,dd,hvv,hS⟩:=F7 lv (iD V) (Fh M) (aaY.i64.wrap ((n:Int)+1)) (sP (dP aam 0) (dN aam 0) .ready) (aaY.i64.wrap (((f+1:Nat):Int) - 1)) (aA (eV e.m)) cb hb hc nx Vf e hx hf hs (by omega)
  have VO:=wc cb e
  have TY:=qR cb e
  cases Ty:bF cb e with
  |mk e2 b=>
   rw [Ty] at hS hvv VO TY hv hm
   simp only at hS hvv VO TY hv hm
   obtain ⟨r3,r4⟩:=r2 e2.cx e2.fr e2.st (wD e2.an) (iq e2.tr) e2.m e2.en dd
   cases b with
   |true=>
    obtain ⟨t',Wy,hl3⟩:=TY.tr
    have dv:V.drop (n+1)=oa cb f e2:=by have:=congrArg (List.drop 1) hv;simpa [aaM,Nat.add_comm] using this
    have dm:M.drop (n+1)=sK cb f e2:=by have:=congrArg (List.drop 1) hm;simpa [aaM,Nat.add_comm] using this
    have ih:=u9 cb hb hc nx Vf lv V M hV f e2 (n+1) dv dm (by omega) (VO.1 rfl) (TY.cx.trans hx) (TY.fr.trans hf) (TY.st.trans hs) (by rw [Wy,ZR];omega)
    have:=r3 v (by rcases hvv with h|⟨h,_⟩<;>omega) hS
    rw [ca,ca,ca,ca,hw,VN] at this
    exact cX.j4 this ih
   |false=>
    rcases hvv with rfl|⟨_,h⟩
    ·have:=r4 hS
     rw [VN] at this
     exact cX.last this (fun h=>by cases h)
    ·cases h
abbrev St (lv:Int) (vs ms:List D) (lp:Ob) (cc cx an:List D) (f:Int):List Ob:= .box [aq lv]::aA [ax false]::aY::aY::aA [bj 1 vs]::aA [bj 22 ms]::aY::aY::aY::aY::aY::aA [aq 0]::lp::aA (Pb 16 19 20 21 cc.length cx.length)::aY::aY::aA (cc.map D.bn)::aY::aY::aA (cx.map D.bn)::aA ((Zx 64 (hP (aap aaY.u8 0))).map D.bn)::aA ((Zx 264 (hP (aap aaY.u8 0))).map D.bn)::aY::aA [av 0,av 0,av 0,av 0,av 4194560,av 0,av 0,av 0,av 0,av 0,av 0,av 0,av 0,av 0,av 0,av 0,ax false,ax false,ax false,ax false,ax false,av 1048576,.ptr false 13 0,bj 1 an,.bc (.tok 28 0) 3 [],ak 0]::aA [aq f]::aA [.ptr false 23 0]::aY::aA [.ptr false 24 0]:: .ey 0 3:: []
theorem RE (ex:Ex) (lk:Lk) (lv:Int) (V:List Int) (M:List au) (cb cx an:List Int) (f n k:Nat) (hb:dx cb) (lc:(bD cb).length≤16384) (lx:(bD cx).length≤256) (hf:f≤100000) (hV:oa cb f (qP cx an)=V) (hM:sK cb f (qP cx an)=M) (hC:DR cb lv f (qP cx an) 0=(n,k)) (he:RQ k=ex) (hk:RC k=lk):
  cS Zy 28 (.loop (dT Tryz.f45 0)) vT (St lv (iD V) (Fh M) (sP (dP aam 0) (dN aam 0) .ready) (bD cb) (bD cx) (wD an) (f:Int)) ex kU (vO lv (iD V) (n:Int) (sP (dP aam 0) (dN aam 0) lk)):=by
 have hl:=Eo cb f (qP cx an)
 rw [hV] at hl
 have:=u9 cb hb (by rw [aG] at lc;exact lc) cx.length (by rw [aG] at lx;exact lx) lv V M (by omega) f (qP cx an) 0 (by rw [hV];rfl) (by rw [hM];rfl) (by omega) rfl rfl rfl rfl (by show 0+f≤100000;omega)
 rw [hC] at this
 simp only [he,hk] at this
 unfold St
 rw [Gq,Gq,ca,ca,aG,aG]
 exact cS.iy (by simp) this
abbrev zB (n:Nat):List D:=Zx n (hP (aap aaY.u8 0))
abbrev S0 (an:List D):List D:= [av 0,av 0,av 0,av 0,av 4194560,av 0,av 0,av 0,av 0,av 0,av 0,av 0,av 0,av 0,av 0,av 0,ax false,ax false,ax false,ax false,ax false,av 1048576,.ptr false 4 0,bj 1 an,.bc (.tok 11 0) 3 []]
abbrev Sx (r nx:Nat) (cb cx:List Int) (an:List D):List Ob:=oR 0::aY::z2 ((bD cx).map D.bn) r::aA ((zB 64).map D.bn)::aA [bj 1 (bD cb),zq nx r,.dz 3 1 64,.dz 5 1 264]::aA ((zB 264).map D.bn)::aY::aA (S0 an)::oR 0:: .ey 0 1:: .ey 0 22:: .ey 0 3:: []
theorem RV (r:Nat) (hr:r=0∨r=1) (cb cx an:List Int) (f:Nat) (E:mu) (lf:Nat) (Wm:List Int) (ms:List au) (hb:dx cb) (hc:cb.length≤16384) (h1:r=1→cx.length=0) (hx:cx.length≤256) (hf:f≤100000) (hR:ko cb f (qP cx an)=(E,lf)) (hV:oa cb f (qP cx an)=Wm) (hM:sK cb f (qP cx an)=ms):
  cS Zy 9 (.loop (dT Tryz.f13 0)) (L8 f [] []) (Sx r cx.length cb cx (wD an)) (.exit 0) (L8 lf (iD Wm) (Fh ms)) (Og r cx.length cb E E.en 0 0 []):=by
 have:=vq r cx.length hr cb hb hc h1 hx f (qP cx an) [] [] (by simpa using hf) (by simpa using hf) ⟨show (0:Int)≤1048576 by decide,show (1048576:Int)≤18446744073709551615 by decide⟩ rfl rfl rfl rfl (by show 0+f≤100000;omega)
 rw [hR,hV,hM,ZT,ZT] at this
 unfold Sx zB
 rw [Gq,Gq,ca]
 exact cS.iy (by simp) this
theorem GZ (cb cx:List Int) (an:List D) (fuel:Int) (hc:db (bD cb)=some (bD cb)) (hx:db (bD cx)=some (bD cx)) (bb:(bD cb).all isByte=true) (bx:(bD cx).all isByte=true) (lc:(bD cb).length≤16384) (lx:(bD cx).length≤256) (f0:0≤fuel) (f1:fuel≤640064):ao Zy 23 ([bj 1 (bD cb),bj 1 (bD cx),bj 1 an,aq fuel]) ([]) (.aL [.ptr false 10 0,aq 0]) ([aA [av 1048576,.dz 3 1 (ZJ ((bD cb).length:Int)),ax false,av 2097152,.dz 6 1 (ZJ ((bD cx).length:Int)),ax true,av 3145728,.dz 7 1 64,ax true,av 4194304,.dz 8 1 264,ax true],aY,aY,aA (bD cb),aY,aY,aA (bD cx),aA (Zx 64 (hP (aap aaY.u8 0))),aA (Zx 264 (hP (aap aaY.u8 0))),aY,aA [av 0,av 0,av 0,av 0,av 4194560,av 0,av 0,av 0,av 0,av 0,av 0,av 0,av 0,av 0,av 0,av 0,ax false,ax false,ax false,ax false,ax false,av 1048576,.ptr false 0 0,bj 1 an,.bc .tight 0 [],ak 0]]):=(ao.aj (aV:= [0,3,6,7,8,10]) (d:= .aL [.ptr false 10 0,aq 0]) (s':= [aA [av 1048576,.dz 3 1 (ZJ (↑(ZA (bD cb)):Int)),ax false,av 2097152,.dz 6 1 (ZJ (↑(ZA (bD cx)):Int)),ax true,av 3145728,.dz 7 1 64,ax true,av 4194304,.dz 8 1 264,ax true],aY,aY,aA (bD cb),aY,aY,aA (bD cx),aA (Zx (64:Nat) (hP (aap aaY.u8 (0:Int)))),aA (Zx (264:Nat) (hP (aap aaY.u8 (0:Int)))),aY,aA [av 0,av 0,av 0,av 0,av 4194560,av 0,av 0,av 0,av 0,av 0,av 0,av 0,av 0,av 0,av 0,av 0,ax false,ax false,ax false,ax false,ax false,av 1048576,.ptr false 0 0,bj 1 an,.bc .tight 0 [],ak 0]]) mixed ([aO,tC (eF (dj 256 (by ((try simp only [eZ] at*);(try unfold dK at*);omega):(decide ((↑(ZA (bD cx)):Int)<(257:Int)))=true))),tC (eF (dj 256 (by ((try simp only [eZ] at*);(try unfold dK at*);omega):(decide ((↑(ZA (bD cx)):Int)<(257:Int)))=true))),tC (eF (dj 256 (by ((try simp only [eZ] at*);(try unfold dK at*);omega):(decide ((↑(ZA (bD cx)):Int)<(257:Int)))=true))),tC (dj 256 (by ((try simp only [eZ] at*);(try unfold dK at*);omega):(decide ((↑(ZA (bD cx)):Int)<(257:Int)))=true)),tC (dj 16384 (by ((try simp only [eZ] at*);(try unfold dK at*);omega):(decide ((↑(ZA (bD cb)):Int)<(16385:Int)))=true)),aO,.cM (decide ((0:Int)≤(↑(ZA (bD cb)):Int)∧(↑(ZA (bD cb)):Int)=(↑(ZA (bD cb)):Int)∧(↑(ZA (bD cb)):Int)≤(2147483648:Int))) true (by ((try simp only [eZ] at*);(try unfold dK at*);omega)),.raw,.L9 _ _ hc,tC (v:=true) (@jz (ZA (bD cb))),tC (v:=true) bb,.eU _ _ _ _ (@l3 _ (ZJ (↑(ZA (bD cb)):Int)) (hP (aap aaY.u8 (0:Int))) (bD cb) (by first|rfl|decide) (by first|rfl|decide)),aO,.cM (decide ((0:Int)≤(↑(ZA (bD cx)):Int)∧(↑(ZA (bD cx)):Int)=(↑(ZA (bD cx)):Int)∧(↑(ZA (bD cx)):Int)≤(2147483648:Int))) true (by ((try simp only [eZ] at*);(try unfold dK at*);omega)),.raw]++ [.L9 _ _ hx,tC (v:=true) (@jz (ZA (bD cx))),tC (v:=true) bx,.eU _ _ _ _ (@l3 _ (ZJ (↑(ZA (bD cx)):Int)) (hP (aap aaY.u8 (0:Int))) (bD cx) (by first|rfl|decide) (by first|rfl|decide)),tT,.raw,tT,tT,.raw,tT,tT,tF,tC (eF (bM (ZH.2 f0))),tC (eF (bM (ZH.2 f0))),tC (bM (ZH.2 f0)),tC (dj 640064 (cq (Int.lt_add_one_of_le f1)))]++ [aO])).cast (by rfl) (by rfl)
theorem Cw (cb cx:List Int) (an:List D) (fuel:Int) (hc:db (bD cb)=some (bD cb)) (hx:db (bD cx)=some (bD cx)) (bb:(bD cb).all isByte=true) (bx:(bD cx).all isByte=true) (h:256<(bD cx).length):ao Zy 23 ([bj 1 (bD cb),bj 1 (bD cx),bj 1 an,aq fuel]) ([]) (.aL [.gA,aq 2]) ([]):=(ao.aj (aV:= []) (d:= .aL [D.gA,aq 2]) (s':= []) mixed ([aO,tC (eF (dj 256 (by ((try simp only [eZ] at*);(try unfold dK at*);omega):(decide ((↑(ZA (bD cx)):Int)<(257:Int)))=false))),tC (eF (dj 256 (by ((try simp only [eZ] at*);(try unfold dK at*);omega):(decide ((↑(ZA (bD cx)):Int)<(257:Int)))=false))),tC (eF (dj 256 (by ((try simp only [eZ] at*);(try unfold dK at*);omega):(decide ((↑(ZA (bD cx)):Int)<(257:Int)))=false))),tC (dj 256 (by ((try simp only [eZ] at*);(try unfold dK at*);omega):(decide ((↑(ZA (bD cx)):Int)<(257:Int)))=false))]++cr 8 201)).cast (by rfl) (by rfl)
theorem Cy (cb cx:List Int) (an:List D) (fuel:Int) (hc:db (bD cb)=some (bD cb)) (hx:db (bD cx)=some (bD cx)) (bb:(bD cb).all isByte=true) (bx:(bD cx).all isByte=true) (lx:(bD cx).length≤256) (h:16384<(bD cb).length):ao Zy 23 ([bj 1 (bD cb),bj 1 (bD cx),bj 1 an,aq fuel]) ([]) (.aL [.gA,aq 2]) ([]):=(ao.aj (aV:= []) (d:= .aL [D.gA,aq 2]) (s':= []) mixed [aO,tC (eF (dj 256 (by ((try simp only [eZ] at*);(try unfold dK at*);omega):(decide ((↑(ZA (bD cx)):Int)<(257:Int)))=true))),tC (eF (dj 256 (by ((try simp only [eZ] at*);(try unfold dK at*);omega):(decide ((↑(ZA (bD cx)):Int)<(257:Int)))=true))),tC (eF (dj 256 (by ((try simp only [eZ] at*);(try unfold dK at*);omega):(decide ((↑(ZA (bD cx)):Int)<(257:Int)))=true))),tC (dj 256 (by ((try simp only [eZ] at*);(try unfold dK at*);omega):(decide ((↑(ZA (bD cx)):Int)<(257:Int)))=true)),tC (dj 16384 (by ((try simp only [eZ] at*);(try unfold dK at*);omega):(decide ((↑(ZA (bD cb)):Int)<(16385:Int)))=false)),tF,tF,tT,tF,tF,tT,tT]).cast (by rfl) (by rfl)
theorem Cx (cb cx:List Int) (an:List D) (fuel:Int) (hc:db (bD cb)=some (bD cb)) (hx:db (bD cx)=some (bD cx)) (bb:(bD cb).all isByte=true) (bx:(bD cx).all isByte=true) (lc:(bD cb).length≤16384) (lx:(bD cx).length≤256) (h:fuel<0):ao Zy 23 ([bj 1 (bD cb),bj 1 (bD cx),bj 1 an,aq fuel]) ([]) (.aL [.gA,aq 2]) ([aY,aY,aY,aY,aY,aY,aY,aY,aY]):=(ao.aj (aV:= []) (d:= .aL [D.gA,aq 2]) (s':= [aY,aY,aY,aY,aY,aY,aY,aY,aY]) mixed ([aO,tC (eF (dj 256 (by ((try simp only [eZ] at*);(try unfold dK at*);omega):(decide ((↑(ZA (bD cx)):Int)<(257:Int)))=true))),tC (eF (dj 256 (by ((try simp only [eZ] at*);(try unfold dK at*);omega):(decide ((↑(ZA (bD cx)):Int)<(257:Int)))=true))),tC (eF (dj 256 (by ((try simp only [eZ] at*);(try unfold dK at*);omega):(decide ((↑(ZA (bD cx)):Int)<(257:Int)))=true))),tC (dj 256 (by ((try simp only [eZ] at*);(try unfold dK at*);omega):(decide ((↑(ZA (bD cx)):Int)<(257:Int)))=true)),tC (dj 16384 (by ((try simp only [eZ] at*);(try unfold dK at*);omega):(decide ((↑(ZA (bD cb)):Int)<(16385:Int)))=true)),aO,.cM (decide ((0:Int)≤(↑(ZA (bD cb)):Int)∧(↑(ZA (bD cb)):Int)=(↑(ZA (bD cb)):Int)∧(↑(ZA (bD cb)):Int)≤(2147483648:Int))) true (by ((try simp only [eZ] at*);(try unfold dK at*);omega)),.raw,.L9 _ _ hc,tC (v:=true) (@jz (ZA (bD cb))),tC (v:=true) bb,.eU _ _ _ _ (@l3 _ (ZJ (↑(ZA (bD cb)):Int)) (hP (aap aaY.u8 (0:Int))) (bD cb) (by first|rfl|decide) (by first|rfl|decide)),aO,.cM (decide ((0:Int)≤(↑(ZA (bD cx)):Int)∧(↑(ZA (bD cx)):Int)=(↑(ZA (bD cx)):Int)∧(↑(ZA (bD cx)):Int)≤(2147483648:Int))) true (by ((try simp only [eZ] at*);(try unfold dK at*);omega)),.raw]++ [.L9 _ _ hx,tC (v:=true) (@jz (ZA (bD cx))),tC (v:=true) bx,.eU _ _ _ _ (@l3 _ (ZJ (↑(ZA (bD cx)):Int)) (hP (aap aaY.u8 (0:Int))) (bD cx) (by first|rfl|decide) (by first|rfl|decide)),tT,.raw,tT,tT,.raw,tT,tT,tF,tC (eF (cq h)),tC (eF (cq h)),tC (cq h),tT])).cast (by rfl) (by rfl)
theorem Cz (cb cx:List Int) (an:List D) (fuel:Int) (hc:db (bD cb)=some (bD cb)) (hx:db (bD cx)=some (bD cx)) (bb:(bD cb).all isByte=true) (bx:(bD cx).all isByte=true) (lc:(bD cb).length≤16384) (lx:(bD cx).length≤256) (h:640064<fuel):ao Zy 23 ([bj 1 (bD cb),bj 1 (bD cx),bj 1 an,aq fuel]) ([]) (.aL [.gA,aq 2]) ([aY,aY,aY,aY,aY,aY,aY,aY,aY]):=(ao.aj (aV:= []) (d:= .aL [D.gA,aq 2]) (s':= [aY,aY,aY,aY,aY,aY,aY,aY,aY]) mixed ([aO,tC (eF (dj 256 (by ((try simp only [eZ] at*);(try unfold dK at*);omega):(decide ((↑(ZA (bD cx)):Int)<(257:Int)))=true))),tC (eF (dj 256 (by ((try simp only [eZ] at*);(try unfold dK at*);omega):(decide ((↑(ZA (bD cx)):Int)<(257:Int)))=true))),tC (eF (dj 256 (by ((try simp only [eZ] at*);(try unfold dK at*);omega):(decide ((↑(ZA (bD cx)):Int)<(257:Int)))=true))),tC (dj 256 (by ((try simp only [eZ] at*);(try unfold dK at*);omega):(decide ((↑(ZA (bD cx)):Int)<(257:Int)))=true)),tC (dj 16384 (by ((try simp only [eZ] at*);(try unfold dK at*);omega):(decide ((↑(ZA (bD cb)):Int)<(16385:Int)))=true)),aO,.cM (decide ((0:Int)≤(↑(ZA (bD cb)):Int)∧(↑(ZA (bD cb)):Int)=(↑(ZA (bD cb)):Int)∧(↑(ZA (bD cb)):Int)≤(2147483648:Int))) true (by ((try simp only [eZ] at*);(try unfold dK at*);omega)),.raw,.L9 _ _ hc,tC (v:=true) (@jz (ZA (bD cb))),tC (v:=true) bb,.eU _ _ _ _ (@l3 _ (ZJ (↑(ZA (bD cb)):Int)) (hP (aap aaY.u8 (0:Int))) (bD cb) (by first|rfl|decide) (by first|rfl|decide)),aO,.cM (decide ((0:Int)≤(↑(ZA (bD cx)):Int)∧(↑(ZA (bD cx)):Int)=(↑(ZA (bD cx)):Int)∧(↑(ZA (bD cx)):Int)≤(2147483648:Int))) true (by ((try simp only [eZ] at*);(try unfold dK at*);omega)),.raw]++ [.L9 _ _ hx,tC (v:=true) (@jz (ZA (bD cx))),tC (v:=true) bx,.eU _ _ _ _ (@l3 _ (ZJ (↑(ZA (bD cx)):Int)) (hP (aap aaY.u8 (0:Int))) (bD cx) (by first|rfl|decide) (by first|rfl|decide)),tT,.raw,tT,tT,.raw,tT,tT,tF,tC (eF (lz 0 (bM (by omega:¬fuel<640065)))),tC (eF (lz 0 (bM (by omega:¬fuel<640065)))),tC (lz 0 (bM (by omega:¬fuel<640065))),tC (dj 640064 (bM (by omega:¬fuel<640065)))])).cast (by rfl) (by rfl)
theorem EC (f:Nat→Nat) (n:Nat) (k:aaY) (v:Int):D.jN f (Zx n (hP (aap k v)))=Zx n (hP (aap k v)):=by
 rw [D.iI,List.map_replicate]
 rfl
theorem pad {P:Program} {f:FuncId} {args:List D} {s:List Ob} {d:D} {s':List Ob} (k:Nat) (h:ao P f args s d s'):ao P f args s d (s'++Zx k .dead):=by
 refine ⟨h.Ij,by rw [ZR];have:=h.len;omega,fun w0 M own w vs hw hu hr=>Calls.mono (h.run w0 M own w vs hw hu hr) ?_⟩
 rintro e w' ⟨v,M',Tj,rfl,q1,q2,q3,q4⟩
 have e:bP (s'++Zx k .dead)=bP s':=by
  funext i
  unfold bP
  rw [ZF,ZF,List.getElem?_append]
  split
  ·rfl
  ·rename_i hi
   rw [List.getElem?_eq_none (by omega:s'.length≤i),List.getElem?_replicate]
   split<;>rfl
 refine ⟨v,M',Tj,rfl,by rw [e];exact q1,⟨fun id hi=>q2.1 id ?_,fun id v hi=>q2.2 id v ?_⟩,q3,q4⟩
 all_goals (rw [ZR] at hi;omega)
abbrev SF (cb cx:List Int) (an:List D):List Ob:= [aA [av 1048576,.dz 3 1 (ZJ ((bD cb).length:Int)),ax false,av 2097152,.dz 6 1 (ZJ ((bD cx).length:Int)),ax true,av 3145728,.dz 7 1 64,ax true,av 4194304,.dz 8 1 264,ax true],aY,aY,aA (bD cb),aY,aY,aA (bD cx),aA (Zx 64 (hP (aap aaY.u8 0))),aA (Zx 264 (hP (aap aaY.u8 0))),aY,aA [av 0,av 0,av 0,av 0,av 4194560,av 0,av 0,av 0,av 0,av 0,av 0,av 0,av 0,av 0,av 0,av 0,ax false,ax false,ax false,ax false,ax false,av 1048576,.ptr false 0 0,bj 1 an,.bc .tight 0 [],ak 0]]
abbrev Rh (n nc nx:Nat) (cc cx r q an:List D):List Ob:= [aA (Pb (n+3) (n+6) (n+7) (n+8) nc nx),aY,aY,aA cc,aY,aY,aA cx,aA r,aA q,aY,aA [av 0,av 0,av 0,av 0,av 4194560,av 0,av 0,av 0,av 0,av 0,av 0,av 0,av 0,av 0,av 0,av 0,ax false,ax false,ax false,ax false,ax false,av 1048576,.ptr false n 0,bj 1 an,.bc .tight 0 [],ak 0]]
theorem wo (n:Nat) (s:List Ob):∀(t:List Ob) (j:Nat),Gi [] n s t j=t
 | [],_=>rfl
 |o::t,j=>by rw [Gi,wo n s t (j+1)];rfl
theorem EU (pre:List Ob) (n:Nat) (hn:pre.length=n) (cb cx:List Int) (an:List D) (fuel:Int) (hc:db (bD cb)=some (bD cb)) (hx:db (bD cx)=some (bD cx)) (bb:(bD cb).all isByte=true) (bx:(bD cx).all isByte=true) (lc:(bD cb).length≤16384) (lx:(bD cx).length≤256) (f0:0≤fuel) (f1:fuel≤640064):ao Zy 23 [bj 1 (bD cb),bj 1 (bD cx),bj 1 an,aq fuel] pre (.aL [.ptr false (n+10) 0,aq 0]) (pre++Rh n (ZJ ((bD cb).length:Int)) (ZJ ((bD cx).length:Int)) (bD cb) (bD cx) (Zx 64 (hP (aap aaY.u8 0))) (Zx 264 (hP (aap aaY.u8 0))) an):=by
 subst hn
 have e0:tZ [] pre []=pre:=by rw [tZ,wo];simp
 have h:=(GZ cb cx an fuel hc hx bb bx lc lx f0 f1).rn [] pre rfl .nil (fun _ h=>by cases h) e0
 have e:tZ [] pre (SF cb cx an)=pre++Rh pre.length (ZJ ((bD cb).length:Int)) (ZJ ((bD cx).length:Int)) (bD cb) (bD cx) (Zx 64 (hP (aap aaY.u8 0))) (Zx 264 (hP (aap aaY.u8 0))) an:=by
  rw [tZ,wo]
  refine congrArg (pre++ ·) ((rfl:_=Rh pre.length (ZJ ((bD cb).length:Int)) (ZJ ((bD cx).length:Int)) (D.jN (gE [] pre.length) (bD cb)) (D.jN (gE [] pre.length) (bD cx)) (D.jN (gE [] pre.length) (Zx 64 (hP (aap aaY.u8 0)))) (D.jN (gE [] pre.length) (Zx 264 (hP (aap aaY.u8 0)))) an).trans ?_)
  rw [ef,ef,EC,EC]
 exact h.cast rfl e
theorem Ny (o0 o4 o8 o9 N1 fG fF fE fC N0:Ob) (cx:List Int) (nc:Nat) (lE:(bD cx).length≤256) (cE:db (bD cx)=some (bD cx)) (bE:(bD cx).all isByte=true):ao Zy 25 ([.ptr false 1 0]) ([o0,aA (uX nc (bD cx).length),aY,aY,o4,aY,aY,aA (bD cx),o8,o9,aY,N1,fG,fF,fE,fC,N0]) (.dz 19 1 (ZJ ((bD cx).length:Int))) ([o0,aA (uX nc (bD cx).length),aY,aY,o4,aY,aY,aA (bD cx),o8,o9,aY,N1,fG,fF,fE,fC,N0,aY,aY,aA (bD cx)]):=(ao.aj (aV:= [0,1,2,3,4,5,6,7,8,9,10,11,12,13,14,15,16,19]) (d:= .dz 19 1 (ZJ (↑(ZA (bD cx)):Int))) (s':= [o0,aA [av 1048576,.dz 4 1 nc,ax false,av 2097152,.dz 7 1 (ZA (bD cx)),ax true,av 3145728,.dz 8 1 64,ax true,av 4194304,.dz 9 1 264,ax true],aY,aY,o4,aY,aY,aA (bD cx),o8,o9,aY,N1,fG,fF,fE,fC,N0,aY,aY,aA (bD cx)]) mixed [aO,tF,tT,.fU ([av 1048576,.dz 4 1 nc,ax false,av 2097152,.dz 7 1 (ZA (bD cx)),ax true,av 3145728,.dz 8 1 64,ax true,av 4194304,.dz 9 1 264,ax true]) 3 3 ([av 2097152,.dz 7 1 (ZA (bD cx)),ax true]) ⟨rfl,by first|decide|simp⟩,aO,.cM (decide ((0:Int)≤(↑(ZA (bD cx)):Int)∧(↑(ZA (bD cx)):Int)=(↑(ZA (bD cx)):Int)∧(↑(ZA (bD cx)):Int)≤(2147483648:Int))) true (by ((try simp only [eZ] at*);(try unfold dK at*);omega)),.raw,.fU _ _ _ _ (@AM (bD cx) (ZA (bD cx)*(1:Nat)) (by ((try simp only [eZ] at*);(try unfold dK at*);omega))),tC (v:=true) (@jz (ZA (bD cx))),tC (v:=true) bE,.eU _ _ _ _ (@l3 _ (ZJ (↑(ZA (bD cx)):Int)) (hP (aap aaY.u8 (0:Int))) (bD cx) (by first|rfl|decide) (by first|rfl|decide))]).cast (by rfl) (by rfl)
theorem Nx (o0 o4 o8 o9 N1 fG fF fE fC N0:Ob) (cx:List Int) (nc:Nat) (lE:(bD cx).length≤256) (cE:db (bD cx)=some (bD cx)) (bE:(bD cx).all isByte=true):
  ao Zy 25 [.ptr false 1 0] [o0,aA (uX nc (bD cx).length),aY,aY,o4,aY,aY,aA (bD cx),o8,o9,aY,N1,fG,fF,fE,fC,N0] (bj 1 (bD cx)) [o0,aA (uX nc (bD cx).length),aY,aY,o4,aY,aY,aA (bD cx),o8,o9,aY,N1,fG,fF,fE,fC,N0,aY,aY,aY]:=
 (Ny o0 o4 o8 o9 N1 fG fF fE fC N0 cx nc lE cE bE).CX rfl (by rw [aaE]) bE
def SE (l:List Oi):Prop:= ∀e∈l,e.args.length≤5
end Go.Proofs.YtbfpahigdpigpaaGreat
