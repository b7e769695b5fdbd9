import Derived.Test.YtbfpahigdpigpaaGreatQ08
import Derived.Test.YtbfpahigdpigpaaGreatQ12
import Derived.Test.YtbfpahigdpigpaaGreatQ14
import Derived.Test.YtbfpahigdpigpaaGreatQ15
import Derived.Test.YtbfpahigdpigpaaGreatQ17
open List renaming replicate→Z7,length→aaa,range→aao,nil_append→aav,isPrefixOf_iff_prefix→abo
open BitVec renaming ofInt→Z8
open Go.Proofs.Tryz renaming prog→Z9,f10→aaR,f21→aa2
open Int renaming lt_add_one_of_le→aac,not_lt→aah,toNat→aal,toNat_natCast→abt
open Bool renaming and_eq_true→aae,or_eq_true→aax,eq_false_or_eq_true→aaF,not_eq_true'→aaK,not_eq_false'→aaU
open Go renaming IntKind→abz
/- Contracts and plain laws that a statement's proof leans on (texts merged:MdRf,XQ8A,XQ9,XQ9A,EM4,EM4A,EM4B,EM5,EM6,EM7). -/
set_option linter.unusedVariables false
set_option linter.unusedSimpArgs false
set_option maxRecDepth 100000
set_option maxHeartbeats 8000000
namespace Go.Ev
open Go
theorem j2 {x y:XS} {a b:Nat} (h:x=y) (k:a=b):NI.mk x a false=NI.mk y b false:=by rw [h,k]
theorem AG:∀n:Fin 32,aA (n.val:Int)=1→(n.val=0∨n.val=2∨n.val=3∨n.val=4∨n.val=5∨n.val=6∨n.val=7∨n.val=8)∧0≤ba (n.val:Int)∧ba (n.val:Int)≤255:=by decide+kernel
theorem IB {n:Fin 32} (h:aA (n.val:Int)=1) {b:List Int} {half:Bool} {W rr mm:Int} {k:Nat} {bad:Bool} (hv:¬aK b k<192):
  bK b (ba (n.val:Int)) half W rr mm k bad=⟨⟨(n.val:Int),W,cY (aK b k) mm,db (aK b k) rr,0,0,0,0⟩,aM b k,gi b k bad⟩:=by
 obtain ⟨h,_⟩:=AG n h
 rcases h with e|e|e|e|e|e|e|e<;>rw [e]<;>simp [bK,ba,oW,hv]
theorem ye:∀n:Fin 32,aA (n.val:Int)=3∨aA (n.val:Int)=4∨aA (n.val:Int)=5→(n.val:Int)≠1→(let c:=ba (n.val:Int);(c=129∨c=193∨c=211∨c=247)∧jz c (bI (n.val:Int))=n.val∧(aA (n.val:Int)=3→c=129∨(n.val:Int)=15)∧(aA (n.val:Int)=4→c=193∧(n.val:Int)≠15)∧(aA (n.val:Int)=5→c≠129∧c≠193∧(n.val:Int)≠15)):=by decide+kernel
theorem kh {n:Int} (h:n=129∨n=193∨n=211∨n=247) {b:List Int} {half:Bool} {W rr mm:Int} {k:Nat} {bad:Bool} :
  bK b n half W rr mm k bad=ma b n (jz n (db (aK b k) rr%8)) W (cY (aK b k) mm) (aM b k) (gi b k bad):=by
 rcases h with e|e|e|e<;>rw [e]<;>simp [bK]
theorem sZ {aa n:Int} (hb:aa=193∨aa=211) (n0:0≤n) (n1:n≤7):jz aa n≠15:=by
 have h:∀m:Fin 8,jz 193 (m.val:Int)≠15∧jz 211 (m.val:Int)≠15:=by decide+kernel
 have:=h ⟨n.toNat,by omega⟩
 have e:((n.toNat:Nat):Int)=n:=by omega
 simp only [e] at this
 rcases hb with rfl|rfl
 ·exact this.1
 ·exact this.2
theorem lH {b:List Int} {k:Nat} (h:k≤b.length):dR b k≤b.length∧dA b k≤b.length:=by
 unfold dR dA
 have h1:=ji h
 have h2:=ji h1
 exact ⟨by split<;>omega,ji (ji h2)⟩
theorem OU (b:List Int):Fb b 0≤b.length:=by
 have h0:uo b 0≤b.length:=by unfold uo;split;exact ji (Nat.zero_le _);exact Nat.zero_le _
 unfold Fb
 split
 ·exact ji (ji h0)
 ·exact ji h0
theorem fY {c:Prop} [Decidable c] {r s:NI} {n:Nat} (h1:r.at_≤n) (h2:s.at_≤n):(if c then r else s).at_≤n:=by split<;>assumption
theorem J8 {b:List Int} {W rr mm:Int} {k:Nat} {bad:Bool} (hk:k≤b.length):(mE b W rr mm k bad).at_≤b.length:=by
 have h1:=ji hk
 have h2:=ji h1
 have q1:=lH (lH h1).1
 have q2:=lH h1
 unfold mE
 exact fY h2 (fY h1 (fY h2 (fY q2.2 (fY q1.2 (fY q1.2 h1)))))
theorem J5 {b:List Int} {n W mm:Int} {k:Nat} {bad:Bool} (hk:k≤b.length):(sx b n W mm k bad).at_≤b.length:=by
 unfold sx
 exact fY (ji hk) (fY (lH hk).2 hk)
theorem J6 {b:List Int} {n o W ab:Int} {k:Nat} {bad:Bool} (hk:k≤b.length):(ma b n o W ab k bad).at_≤b.length:=by
 unfold ma
 exact fY (lH hk).2 (fY (ji hk) hk)
theorem J9 (b:List Int):(k8 b).at_≤b.length:=by
 have hk:=OU b
 have h1:=ji hk
 have m0:=lH (lH hk).1
 unfold k8 bK
 exact fY (fY m0.2 h1) (fY h1 (fY (J6 h1) (fY (lH h1).2 (fY m0.2 (fY m0.2 (fY h1 (fY (lH hk).2 (fY hk (fY (J8 hk) (J5 hk))))))))))
set_option maxHeartbeats 2000000 in
theorem Mt {op w ab ae aa af aj cc : Int} (h : bC op w ab ae aa af aj cc = true) (t : List Int) :
    k8 (aD op w ab ae aa af aj cc++t)=⟨⟨op,w,ab,ae,aa,af,aj,cc⟩,(aD op w ab ae aa af aj cc).length,false⟩:=by
  obtain ⟨⟨d0,d1,s0,s1,b0,b1,p0,p1,i0,i1⟩,hs⟩:=dw h
  have VO:aA op≠0:=by
    intro e
    rw [e] at hs
    simp [iy] at hs
  obtain ⟨k,rfl⟩:=sH VO
  unfold iy at hs
  split at hs
  · rename_i Xa
    simp only [aae,bS] at hs
    obtain ⟨hw,rfl,rfl,rfl,rfl⟩:=hs
    have ew:=iJ hw
    rcases Xa with h1|h1
    ·
      obtain ⟨c1,c2,c3,-⟩:=nY k h1
      obtain ⟨-,u0,u1⟩:=AG k h1
      have e:aD (k.val:Int) w ab ae 0 0 0 0=bl (decide (w=64)) ae ab false++ [ba (k.val:Int),bk ae ab]:=by simp only [aD,h1,if_true]
      obtain ⟨q,hq,hd,ha⟩:=gm (b:=aD (k.val:Int) w ab ae 0 0 0 0++t) (wide:=decide (w=64)) (al:=false) (t:=bk ae ab::t) s0 s1 d0 d1 u0 u1 c2 c3 (by rw [e];simp)
      obtain ⟨g1,g2,g3,g4,g5,_⟩:=sw s0 s1 d0 d1 hd
      rw [ha,IB h1 g1,g2,g3,g4,g5,ew]
      refine j2 rfl ?_
      rw [hq,e];simp
    ·
      have hk:(k.val:Int)=16:=by
        have:=gQ (op:=(k.val:Int)) (by omega)
        revert h1
        rcases this with e|e|e|e|e|e|e|e|e|e|e|e|e|e|e|e|e|e|e|e|e|e|e|e|e|e|e|e|e|e|e|e<;>rw [e]<;>decide
      rw [hk]
      have e:aD 16 w ab ae 0 0 0 0=bl (decide (w=64)) ab ae false++ [15,175,bk ab ae]:=by
        simp only [aD,show aA 16=2 from rfl,show ba 16=175 from rfl,if_true,show ¬(2:Int)=1 by decide,if_false]
      obtain ⟨q,hq,hd,ha⟩:=gm (b:=aD 16 w ab ae 0 0 0 0++t) (wide:=decide (w=64)) (al:=false) (c:=15) (t:=175::bk ab ae::t) d0 d1 s0 s1 (by decide) (by decide) (by decide) (by decide) (by rw [e];simp)
      obtain ⟨_,v0,a0,x0,h1⟩:=ff hd
      rw [← a0] at h1
      obtain ⟨g1,g2,g3,g4,g5,_⟩:=sw d0 d1 s0 s1 h1
      rw [ha,ew]
      simp only [bK,mE]
      rw [v0,g2,g3,g4,x0,g5]
      simp
      rw [a0,hq,e];simp
  · rename_i Xk
    have n1:¬aA (k.val:Int)=1:=fun e=>Xk (.inl e)
    have n2:¬aA (k.val:Int)=2:=fun e=>Xk (.inr e)
    split at hs
    ·
      rename_i h3
      simp only [aae,bS] at hs
      obtain ⟨hw,rfl,rfl,rfl,rfl⟩:=hs
      have ew:=iJ hw
      by_cases hk:(k.val:Int)=1
      · rw [hk]
        rcases dW hw with rfl|rfl
        · have e : aD 1 32 ab 0 0 0 aj 0 = bl false 0 ab false ++ ((184 + ab % 8) :: aW aj) := by
            simp [aD,show aA 1=3 from rfl]
          obtain ⟨q,hq,hd,ha⟩:=gm (b:=aD 1 32 ab 0 0 0 aj 0++t) (wide:=false) (al:=false) (c:=184+ab%8) (t:=aW aj++t) (r:=0) (by decide) (by decide) d0 d1 (by omega) (by omega) (by omega) (by omega) (by rw [e];simp)
          obtain ⟨f1,f2,f3,f4⟩:=lG i0 i1 hd
          rw [ha]
          simp only [bK]
          rw [if_neg (by omega),if_neg (by omega),if_neg (by omega),if_neg (by omega),if_neg (by omega),if_neg (by omega),if_neg (by omega),if_neg (by omega),if_neg (by omega),if_neg (by omega)]
          unfold sx
          rw [if_neg (by omega),if_pos (by omega),f1,f2,f3]
          have ed:abz.i8.wrap (abz.i8.wrap (abz.i64.wrap (184+ab%8 - 184))+abz.i8.wrap (8*(ab / 8)))=ab:=by
            rw [aN,dk,dk,dk];omega
          rw [ed]
          refine j2 rfl ?_
          rw [hq,e];simp [aW]
        · have e : aD 1 64 ab 0 0 0 aj 0 = bl true 0 ab false ++ (199 :: bk 0 ab :: aW aj) := by
            simp [aD,show aA 1=3 from rfl,show ba 1=199 from rfl,show bI 1=0 from rfl]
          obtain ⟨q,hq,hd,ha⟩:=gm (b:=aD 1 64 ab 0 0 0 aj 0++t) (wide:=true) (al:=false) (c:=199) (t:=bk 0 ab::(aW aj++t)) (r:=0) (by decide) (by decide) d0 d1 (by decide) (by decide) (by decide) (by decide) (by rw [e];simp)
          obtain ⟨g1,g2,g3,g4,g5,g6⟩:=sw (by decide) (by decide) d0 d1 hd
          rw [← g4] at g6
          obtain ⟨f1,f2,f3,f4⟩:=lG i0 i1 g6
          rw [ha]
          simp only [bK]
          rw [g3,g5,f1,f2,f3,g4]
          simp
          rw [hq,e];simp [aW]
      · obtain ⟨c1,c2,c3,c4,c5,c6,c7,c8,c9,T7,Uz,Uc,u0,u1⟩:=gJ k (.inl h3)
        obtain ⟨r1,r2,r3,-⟩:=ye k (.inl h3) hk
        have e:aD (k.val:Int) w ab 0 0 0 aj 0=bl (decide (w=64)) 0 ab false++(ba (k.val:Int)::bk (bI (k.val:Int)) ab::aW aj):=by
          simp only [aD,h3,hk,show ¬(3:Int)=1 by decide,show ¬(3:Int)=2 by decide,show ¬(3:Int)=6 by decide,if_false,if_true,false_and]
        obtain ⟨q,hq,hd,ha⟩:=gm (b:=aD (k.val:Int) w ab 0 0 0 aj 0++t) (wide:=decide (w=64)) (al:=false) (t:=bk (bI (k.val:Int)) ab::(aW aj++t)) (r:=0) (by decide) (by decide) d0 d1 (by omega) (by omega) c2 c3 (by rw [e];simp)
        obtain ⟨g2,g3,g4,g5,g6⟩:=Cu u0 u1 d0 d1 hd
        rw [← g4] at g6
        obtain ⟨f1,f2,f3,f4⟩:=lG i0 i1 g6
        rw [ha,kh r1,show (0:Int) / 8=0 by decide,g2,r2,g3,g5]
        unfold ma
        rw [if_pos (r3 h3),f1,f2,f3,g4,ew]
        refine j2 rfl ?_
        rw [hq,e];simp [aW]
    · rename_i n3
      split at hs
      ·
        rename_i h4
        simp only [aae,bS] at hs
        obtain ⟨hw,rfl,rfl,rfl,rfl,j0,j1⟩:=hs
        have ew:=iJ hw
        have UY:=dW hw
        obtain ⟨c1,c2,c3,c4,c5,c6,c7,c8,c9,T7,Uz,Uc,u0,u1⟩:=gJ k (.inr (.inl h4))
        obtain ⟨r1,r2,-,r3,-⟩:=ye k (.inr (.inl h4)) (by intro e;rw [e] at h4;revert h4;decide)
        have e:aD (k.val:Int) w ab 0 0 0 aj 0=bl (decide (w=64)) 0 ab false++ [ba (k.val:Int),bk (bI (k.val:Int)) ab,aj%256]:=by
          simp only [aD,h4,show ¬(4:Int)=1 by decide,show ¬(4:Int)=2 by decide,show ¬(4:Int)=6 by decide,show ¬(4:Int)=3 by decide,if_false,if_true]
        obtain ⟨q,hq,hd,ha⟩:=gm (b:=aD (k.val:Int) w ab 0 0 0 aj 0++t) (wide:=decide (w=64)) (al:=false) (t:=bk (bI (k.val:Int)) ab::(aj%256)::t) (r:=0) (by decide) (by decide) d0 d1 (by omega) (by omega) c2 c3 (by rw [e];simp)
        obtain ⟨g2,g3,g4,g5,g6⟩:=Cu u0 u1 d0 d1 hd
        rw [← g4] at g6
        obtain ⟨_,v0,a0,x0,_⟩:=ff g6
        obtain ⟨q1,q2⟩:=r3 h4
        rw [ha,kh r1,show (0:Int) / 8=0 by decide,g2,r2,g3,g5]
        unfold ma
        rw [if_neg (by rintro (h | h); · omega
                       · exact q2 h),if_pos q1,v0,a0,x0,g4,ew]
        refine j2 ?_ ?_
        · congr 1;omega
        · rw [hq,e];simp
      · rename_i n4
        split at hs
        ·
          rename_i h5
          simp only [aae,bS] at hs
          obtain ⟨hw,rfl,rfl,rfl,rfl,rfl⟩:=hs
          have ew:=iJ hw
          obtain ⟨c1,c2,c3,c4,c5,c6,c7,c8,c9,T7,Uz,Uc,u0,u1⟩:=gJ k (.inr (.inr h5))
          obtain ⟨r1,r2,-,-,r3⟩:=ye k (.inr (.inr h5)) (by intro e;rw [e] at h5;revert h5;decide)
          have e:aD (k.val:Int) w ab 0 0 0 0 0=bl (decide (w=64)) 0 ab false++ [ba (k.val:Int),bk (bI (k.val:Int)) ab]:=by
            simp only [aD,h5,show ¬(5:Int)=1 by decide,show ¬(5:Int)=2 by decide,show ¬(5:Int)=6 by decide,show ¬(5:Int)=3 by decide,show ¬(5:Int)=4 by decide,if_false,if_true]
          obtain ⟨q,hq,hd,ha⟩:=gm (b:=aD (k.val:Int) w ab 0 0 0 0 0++t) (wide:=decide (w=64)) (al:=false) (t:=bk (bI (k.val:Int)) ab::t) (r:=0) (by decide) (by decide) d0 d1 (by omega) (by omega) c2 c3 (by rw [e];simp)
          obtain ⟨g2,g3,g4,g5,g6⟩:=Cu u0 u1 d0 d1 hd
          obtain ⟨q1,q2,q3⟩:=r3 h5
          rw [ha,kh r1,show (0:Int) / 8=0 by decide,g2,r2,g3,g5]
          unfold ma
          rw [if_neg (by rintro (h | h); · exact q1 h
                         · exact q3 h),if_neg q2,g4,ew]
          refine j2 rfl ?_
          rw [hq,e];simp
        · rename_i n5
          split at hs
          ·
            rename_i h6
            have hk:=qU k h6
            rw [hk] at h6 ⊢
            simp only [aae,bS] at hs
            obtain ⟨⟨hw,rfl,rfl,rfl⟩,hc⟩:=hs
            have ew:=iJ hw
            simp only [kO,bS] at hc
            have e:aD 25 w ab ae 0 0 0 cc=bl (decide (w=64)) ab ae false++ [15,64+cc,bk ab ae]:=by
              simp [aD,show aA 25=6 from rfl]
            obtain ⟨q,hq,hd,ha⟩:=gm (b:=aD 25 w ab ae 0 0 0 cc++t) (wide:=decide (w=64)) (al:=false) (c:=15) (t:=(64+cc)::bk ab ae::t) d0 d1 s0 s1 (by decide) (by decide) (by decide) (by decide) (by rw [e];simp)
            obtain ⟨_,v0,a0,x0,h1⟩:=ff hd
            rw [← a0] at h1
            obtain ⟨g1,g2,g3,g4,g5,_⟩:=sw d0 d1 s0 s1 h1
            rw [ha]
            simp only [bK,mE]
            rw [v0,g2,g3,g4,x0,g5]
            have ec:abz.i8.wrap (abz.i64.wrap (64+cc - 64))=cc:=by rw [aN,dk];omega
            rw [ec,if_neg (by decide),if_neg (by decide),if_neg (by decide),if_neg (by decide),if_neg (by decide),if_neg (by decide),if_neg (by decide),if_neg (by decide),if_neg (by decide),if_pos (by decide),if_neg (by omega),if_neg (by omega),if_pos (by omega),a0,ew]
            refine j2 rfl ?_
            rw [hq,e];simp
          · rename_i n6
            split at hs
            ·
              rename_i h7
              have hk:=qT k h7
              rw [hk] at h7 ⊢
              simp only [aae,bS] at hs
              obtain ⟨hw,rfl,rfl,rfl⟩:=hs
              have e:aD 26 w ab 0 aa af 0 0=bl (decide (w=64)) ab aa false++((if w=8 then [15,182] else if w=16 then [15,183] else [139])++bq ab aa af):=by
                simp [aD,show aA 26=7 from rfl]
              rcases eU hw with rfl|rfl|rfl|rfl
              · rw [if_pos rfl] at e
                obtain ⟨q,hq,hd,ha⟩:=gm (b:=aD 26 8 ab 0 aa af 0 0++t) (wide:=decide ((8:Int)=64)) (al:=false) (c:=15) (t:=182::(bq ab aa af++t)) d0 d1 b0 b1 (by decide) (by decide) (by decide) (by decide) (by rw [e];simp)
                obtain ⟨_,v0,a0,x0,h1⟩:=ff hd
                rw [← a0] at h1
                obtain ⟨g0,g1,g2,g3,g4,g5,g6⟩:=mD d0 d1 b0 b1 p0 p1 h1
                rw [ha]
                simp only [bK,mE]
                rw [v0,g2,g3,g4,x0,g6,g5,a0]
                simp
                rw [hq,e];simp
                omega
              · rw [if_neg (by decide),if_pos rfl] at e
                obtain ⟨q,hq,hd,ha⟩:=gm (b:=aD 26 16 ab 0 aa af 0 0++t) (wide:=decide ((16:Int)=64)) (al:=false) (c:=15) (t:=183::(bq ab aa af++t)) d0 d1 b0 b1 (by decide) (by decide) (by decide) (by decide) (by rw [e];simp)
                obtain ⟨_,v0,a0,x0,h1⟩:=ff hd
                rw [← a0] at h1
                obtain ⟨g0,g1,g2,g3,g4,g5,g6⟩:=mD d0 d1 b0 b1 p0 p1 h1
                rw [ha]
                simp only [bK,mE]
                rw [v0,g2,g3,g4,x0,g6,g5,a0]
                simp
                rw [hq,e];simp
                omega
              · rw [if_neg (by decide),if_neg (by decide)] at e
                obtain ⟨q,hq,hd,ha⟩:=gm (b:=aD 26 32 ab 0 aa af 0 0++t) (wide:=decide ((32:Int)=64)) (al:=false) (c:=139) (t:=bq ab aa af++t) d0 d1 b0 b1 (by decide) (by decide) (by decide) (by decide) (by rw [e];simp)
                obtain ⟨g0,g1,g2,g3,g4,g5,g6⟩:=mD d0 d1 b0 b1 p0 p1 hd
                rw [ha]
                simp only [bK]
                rw [g2,g3,g4,g6,g5]
                simp
                rw [hq,e];simp
                omega
              · rw [if_neg (by decide),if_neg (by decide)] at e
                obtain ⟨q,hq,hd,ha⟩:=gm (b:=aD 26 64 ab 0 aa af 0 0++t) (wide:=decide ((64:Int)=64)) (al:=false) (c:=139) (t:=bq ab aa af++t) d0 d1 b0 b1 (by decide) (by decide) (by decide) (by decide) (by rw [e];simp)
                obtain ⟨g0,g1,g2,g3,g4,g5,g6⟩:=mD d0 d1 b0 b1 p0 p1 hd
                rw [ha]
                simp only [bK]
                rw [g2,g3,g4,g6,g5]
                simp
                rw [hq,e];simp
                omega
            · rename_i n7
              split at hs
              ·
                rename_i h8
                have hk:=qS k h8
                rw [hk] at h8 ⊢
                simp only [aae,bS] at hs
                obtain ⟨hw,rfl,rfl,rfl⟩:=hs
                have e:aD 27 w 0 ae aa af 0 0=(if w=16 then [102] else [])++(bl (decide (w=64)) ae aa (decide (w=8))++((if w=8 then [136] else [137])++bq ae aa af)):=by
                  simp [aD,show aA 27=8 from rfl]
                rcases eU hw with rfl|rfl|rfl|rfl
                · rw [if_neg (by decide),if_pos rfl,aav] at e
                  obtain ⟨q,hq,hd,ha⟩:=gm (b:=aD 27 8 0 ae aa af 0 0++t) (wide:=decide ((8:Int)=64)) (al:=decide ((8:Int)=8)) (c:=136) (t:=bq ae aa af++t) s0 s1 b0 b1 (by decide) (by decide) (by decide) (by decide) (by rw [e];simp)
                  obtain ⟨g0,g1,g2,g3,g4,g5,g6⟩:=mD s0 s1 b0 b1 p0 p1 hd
                  rw [ha]
                  simp only [bK]
                  rw [g2,g3,g4,g6,g5]
                  simp
                  rw [hq,e];simp
                  omega
                · rw [if_pos rfl,if_neg (by decide)] at e
                  obtain ⟨q,hq,hd,ha⟩:=LP (b:=aD 27 16 0 ae aa af 0 0++t) (wide:=decide ((16:Int)=64)) (al:=decide ((16:Int)=8)) (c:=137) (t:=bq ae aa af++t) s0 s1 b0 b1 (by decide) (by decide) (by decide) (by rw [e];simp)
                  obtain ⟨g0,g1,g2,g3,g4,g5,g6⟩:=mD s0 s1 b0 b1 p0 p1 hd
                  rw [ha]
                  simp only [bK]
                  rw [g2,g3,g4,g6,g5,if_pos trivial,if_pos ⟨g0,g1⟩]
                  refine j2 rfl ?_
                  rw [hq,e];simp
                  omega
                · rw [if_neg (by decide),if_neg (by decide),aav] at e
                  obtain ⟨q,hq,hd,ha⟩:=gm (b:=aD 27 32 0 ae aa af 0 0++t) (wide:=decide ((32:Int)=64)) (al:=decide ((32:Int)=8)) (c:=137) (t:=bq ae aa af++t) s0 s1 b0 b1 (by decide) (by decide) (by decide) (by decide) (by rw [e];simp)
                  obtain ⟨g0,g1,g2,g3,g4,g5,g6⟩:=mD s0 s1 b0 b1 p0 p1 hd
                  rw [ha]
                  simp only [bK]
                  rw [g2,g3,g4,g6,g5,if_pos trivial,if_pos ⟨g0,g1⟩]
                  refine j2 rfl ?_
                  rw [hq,e];simp
                  omega
                · rw [if_neg (by decide),if_neg (by decide),aav] at e
                  obtain ⟨q,hq,hd,ha⟩:=gm (b:=aD 27 64 0 ae aa af 0 0++t) (wide:=decide ((64:Int)=64)) (al:=decide ((64:Int)=8)) (c:=137) (t:=bq ae aa af++t) s0 s1 b0 b1 (by decide) (by decide) (by decide) (by decide) (by rw [e];simp)
                  obtain ⟨g0,g1,g2,g3,g4,g5,g6⟩:=mD s0 s1 b0 b1 p0 p1 hd
                  rw [ha]
                  simp only [bK]
                  rw [g2,g3,g4,g6,g5,if_pos trivial,if_pos ⟨g0,g1⟩]
                  refine j2 rfl ?_
                  rw [hq,e];simp
                  omega
              · rename_i n8
                split at hs
                ·
                  rename_i h9
                  have hk:=qR k h9
                  rw [hk] at h9 ⊢
                  simp only [aae,bS,mb] at hs
                  obtain ⟨hw,rfl,rfl,rfl,rfl,rfl⟩:=hs
                  have e:aD 28 w 0 0 0 0 aj 0=if w=8 then [235,aj%256] else 233::aW aj:=by
                    simp [aD,show aA 28=9 from rfl]
                  rcases hw with rfl|⟨rfl,j0,j1⟩
                  · rw [if_neg (by decide)] at e
                    obtain ⟨hd,ha⟩:=lk (b:=aD 28 32 0 0 0 0 aj 0++t) (c:=233) (t:=aW aj++t) (by decide) (by decide) (by decide) (by decide) (by rw [e];simp)
                    obtain ⟨f1,f2,f3,f4⟩:=lG i0 i1 hd
                    rw [ha]
                    simp only [bK]
                    rw [f1,f2,f3]
                    simp
                    rw [e];simp [aW]
                  · rw [if_pos rfl] at e
                    obtain ⟨hd,ha⟩:=lk (b:=aD 28 8 0 0 0 0 aj 0++t) (c:=235) (t:=(aj%256)::t) (by decide) (by decide) (by decide) (by decide) (by rw [e];simp)
                    obtain ⟨_,v0,a0,x0,_⟩:=ff hd
                    rw [ha]
                    simp only [bK,uk]
                    rw [v0,a0,x0]
                    have ei:abz.i8.wrap (aj%256)=aj:=by rw [dk];omega
                    rw [ei]
                    simp
                    rw [e];simp
                · rename_i n9
                  split at hs
                  ·
                    rename_i Vo
                    have hk:=oC k Vo
                    rw [hk] at Vo ⊢
                    simp only [aae,bS,mb] at hs
                    obtain ⟨⟨hw,rfl,rfl,rfl,rfl⟩,hc⟩:=hs
                    simp only [kO,bS] at hc
                    have e:aD 29 w 0 0 0 0 aj cc=if w=8 then [112+cc,aj%256] else 15::(128+cc)::aW aj:=by
                      simp [aD,show aA 29=10 from rfl]
                    rcases hw with rfl|⟨rfl,j0,j1⟩
                    · rw [if_neg (by decide)] at e
                      obtain ⟨hd,ha⟩:=lk (b:=aD 29 32 0 0 0 0 aj cc++t) (c:=15) (t:=(128+cc)::(aW aj++t)) (by decide) (by decide) (by decide) (by decide) (by rw [e];simp)
                      obtain ⟨_,v0,a0,x0,h1⟩:=ff hd
                      rw [← a0] at h1
                      obtain ⟨f1,f2,f3,f4⟩:=lG i0 i1 h1
                      rw [ha]
                      simp only [bK,mE]
                      rw [v0,f1,f2,f3,x0]
                      have ec:abz.i8.wrap (abz.i64.wrap (128+cc - 128))=cc:=by rw [aN,dk];omega
                      rw [ec,if_neg (by decide),if_neg (by decide),if_neg (by decide),if_neg (by decide),if_neg (by decide),if_neg (by decide),if_neg (by decide),if_neg (by decide),if_neg (by decide),if_pos (by decide),if_neg (by omega),if_neg (by omega),if_neg (by omega),if_pos (by omega),a0]
                      refine j2 rfl ?_
                      rw [e];simp [aW]
                    · rw [if_pos rfl] at e
                      obtain ⟨hd,ha⟩:=lk (b:=aD 29 8 0 0 0 0 aj cc++t) (c:=112+cc) (t:=(aj%256)::t) (by omega) (by omega) (by omega) (by omega) (by rw [e];simp)
                      obtain ⟨_,v0,a0,x0,_⟩:=ff hd
                      rw [ha]
                      simp only [bK]
                      rw [if_neg (by omega),if_neg (by omega),if_neg (by omega),if_neg (by omega),if_neg (by omega),if_neg (by omega),if_neg (by omega),if_neg (by omega),if_neg (by omega),if_neg (by omega)]
                      unfold sx uk
                      rw [if_pos (by omega),v0,a0,x0]
                      have ei:abz.i8.wrap (aj%256)=aj:=by rw [dk];omega
                      have ec:abz.i8.wrap (abz.i64.wrap (112+cc - 112))=cc:=by rw [aN,dk];omega
                      rw [ei,ec]
                      refine j2 rfl ?_
                      rw [e];simp
                  · rename_i ZR
                    split at hs
                    · rename_i Wm
                      simp only [bS] at hs
                      obtain ⟨rfl,rfl,rfl,rfl,rfl,rfl,rfl⟩:=hs
                      rcases oB k Wm with hk|hk<;>rw [hk]
                      · have e:aD 30 0 0 0 0 0 0 0= [195]:=rfl
                        obtain ⟨hd,ha⟩:=lk (b:=aD 30 0 0 0 0 0 0 0++t) (c:=195) (t:=t) (by decide) (by decide) (by decide) (by decide) (by rw [e];rfl)
                        rw [ha]
                        simp only [bK]
                        simp
                        rw [e];rfl
                      · have e:aD 31 0 0 0 0 0 0 0= [15,5]:=rfl
                        obtain ⟨hd,ha⟩:=lk (b:=aD 31 0 0 0 0 0 0 0++t) (c:=15) (t:=5::t) (by decide) (by decide) (by decide) (by decide) (by rw [e];rfl)
                        obtain ⟨_,v0,a0,x0,h1⟩:=ff hd
                        rw [ha]
                        simp only [bK,mE]
                        rw [v0,a0,x0]
                        simp
                        rw [e];rfl
                    · cases hs
theorem Lr (b:List Int):Ls b=im b:=by
 unfold im
 by_cases hf:iZ b (ju b)=true
 ·rw [if_pos hf]
  have h:=hf
  unfold iZ at h
  rw [aae,abo] at h
  obtain ⟨hm,t,ht⟩:=h
  have e:k8 b=⟨ju b,(cR (ju b)).length,false⟩:=by
   have:=Mt hm t
   rw [show aD (ju b).op (ju b).w (ju b).ab (ju b).ae (ju b).aa (ju b).af (ju b).aj (ju b).cc=cR (ju b) from rfl,ht] at this
   exact this
  unfold Ls
  simp only [e]
  have WZ:cR (ju b)=b.take (cR (ju b)).length:=by
   have:=congrArg (List.take (cR (ju b)).length) ht
   rw [List.take_left] at this
   exact this
  rw [if_pos ⟨trivial,hm,trivial,WZ⟩]
 ·rw [if_neg hf]
  unfold Ls
  simp only
  split
  ·rename_i h
   obtain ⟨_,h1,h2,h3⟩:=h
   have:iZ b (k8 b).x=true:=by
    unfold iZ
    rw [aae,abo]
    exact ⟨h1,by rw [h3];exact List.take_prefix _ _⟩
   exact absurd (by rw [(ny this).1];exact this) hf
  ·rfl
end Go.Ev
namespace Go.Proofs.YtbfpahigdpigpaaGreat
open Go Go.Ev
abbrev Qb (b:List Int) (n:Int) (half:Bool):List D:=((aZ 1 (bD b))::(cF)::(.ptr false 0 0)::(cF)::(cF)::(.ptr false 1 0)::(.ptr false 2 0)::(av n)::(ax half)::(un 19++(av n)::(un 200)))
abbrev IW (b:List Int):List D:=((aZ 1 (bD b))::(cF)::(.ptr false 0 0)::(cF)::(cF)::(.ptr false 1 0)::(.ptr false 2 0)::(un 222))
abbrev Rn (b:List Int) (at_:Int) (bad w:Bool) (rr mm:Int) (x:List D):List Ob:= [ay [ao 0,ao 0,ao 0,ao 0,ao 0,av 0,av 0,ao 0],ay [aZ 1 (bD b),av at_,ax bad,ax w,ao rr,ao mm],ay x]
abbrev Rm (op w ab ae aa af aj cc:Int):List D:= [ao op,ao w,ao ab,ao ae,ao aa,av af,av aj,ao cc]
abbrev SD (b:List Int) (r:NI) (w:Bool) (rr mm:Int):List Ob:=Rn b (r.at_:Int) r.bad w rr mm (Rm r.x.op r.x.w r.x.ab r.x.ae r.x.aa r.x.af r.x.aj r.x.cc)
theorem QT (a:Int):abz.i8.wrap ((Z8 8 a&&&Z8 8 7).toNat:Int)=a%8:=by
 have:=AU a
 rw [bo] at this
 rw [← this]
 have h:0≤((Z8 8 a&&&Z8 8 7).toNat:Int)∧((Z8 8 a&&&Z8 8 7).toNat:Int)<256:=by
  have:=(Z8 8 a&&&Z8 8 7).isLt
  omega
 congr 1
 omega
theorem FT {b:List Int} {k:Nat} (h:k<b.length):(bD b)[aal (k:Int)]? =some (aC (aK b k)):=by
 rw [abt]
 unfold aK bD
 simp [h,List.getD_eq_getElem?_getD]
set_option maxHeartbeats 2000000 in
theorem OB (b : List Int) (hb : dr b) (hl : b.length ≤ 1000) (k : Nat) (bad w half : Bool) (rr mm W n : Int) (n0 : 0 ≤ n) (n1 : n ≤ 255) :
    aB Z9 (dx aa2 0) ⟨[0,2,5,6],[0,1,2],[]⟩ 3 (Qb b n half) (Rn b (k:Int) bad w rr mm (Rm (-1) W 0 0 0 0 0 0)) .norm (IW b) (SD b (bK b n half W rr mm k bad) w rr mm):=by
  have hv:=dL hb k
  have hl1:=aQ b
  by_cases c:n=137
  · subst c
    by_cases hk:k<b.length
    · have hx:=FT hk
      by_cases h:aK b k<192
      · cases half
        · have:=MC b hb hl k bad w false rr mm W hv.1 hv.2 (by omega) hx h
          rw [show bK b 137 false W rr mm k bad=⟨⟨27,W,0,db (aK b k) rr,cY (aK b k) mm,ez b (dR b k),0,0⟩,dA b (dR b k),dG b (dR b k) (jL b k bad)⟩ by simp [bK,hk,h]]
          exact this
        · have:=MB b hb hl k bad w true rr mm W hv.1 hv.2 (by omega) hx h
          rw [show bK b 137 true W rr mm k bad=⟨⟨27,16,0,db (aK b k) rr,cY (aK b k) mm,ez b (dR b k),0,0⟩,dA b (dR b k),dG b (dR b k) (jL b k bad)⟩ by simp [bK,hk,h]]
          exact this
      · have:=OO b hb hl k bad w half rr mm W hv.1 hv.2 (by omega) hx (by omega)
        rw [show bK b 137 half W rr mm k bad=⟨⟨0,W,cY (aK b k) mm,db (aK b k) rr,0,0,0,0⟩,aM b k,gi b k bad⟩ by simp [bK,h]]
        exact this
    · have:=OM b hb hl k bad w half rr mm W hv.1 hv.2 (by omega)
      rw [show bK b 137 half W rr mm k bad=⟨⟨0,W,cY (aK b k) mm,db (aK b k) rr,0,0,0,0⟩,aM b k,gi b k bad⟩ by simp [bK,hk]]
      exact this
  by_cases c1:n=1
  · subst c1;rw [show bK b 1 half W rr mm k bad=⟨⟨2,W,cY (aK b k) mm,db (aK b k) rr,0,0,0,0⟩,aM b k,gi b k bad⟩ by simp [bK,oW]];exact RQ b hb hl k bad w half rr mm W hv.1 hv.2
  by_cases c9:n=9
  · subst c9;rw [show bK b 9 half W rr mm k bad=⟨⟨3,W,cY (aK b k) mm,db (aK b k) rr,0,0,0,0⟩,aM b k,gi b k bad⟩ by simp [bK,oW]];exact RP b hb hl k bad w half rr mm W hv.1 hv.2
  by_cases Yn:n=33
  · subst Yn;rw [show bK b 33 half W rr mm k bad=⟨⟨4,W,cY (aK b k) mm,db (aK b k) rr,0,0,0,0⟩,aM b k,gi b k bad⟩ by simp [bK,oW]];exact Qk b hb hl k bad w half rr mm W hv.1 hv.2
  by_cases c41:n=41
  · subst c41;rw [show bK b 41 half W rr mm k bad=⟨⟨5,W,cY (aK b k) mm,db (aK b k) rr,0,0,0,0⟩,aM b k,gi b k bad⟩ by simp [bK,oW]];exact Qj b hb hl k bad w half rr mm W hv.1 hv.2
  by_cases c49:n=49
  · subst c49;rw [show bK b 49 half W rr mm k bad=⟨⟨6,W,cY (aK b k) mm,db (aK b k) rr,0,0,0,0⟩,aM b k,gi b k bad⟩ by simp [bK,oW]];exact Qi b hb hl k bad w half rr mm W hv.1 hv.2
  by_cases c57:n=57
  · subst c57;rw [show bK b 57 half W rr mm k bad=⟨⟨7,W,cY (aK b k) mm,db (aK b k) rr,0,0,0,0⟩,aM b k,gi b k bad⟩ by simp [bK,oW]];exact Qh b hb hl k bad w half rr mm W hv.1 hv.2
  by_cases c133:n=133
  · subst c133;rw [show bK b 133 half W rr mm k bad=⟨⟨8,W,cY (aK b k) mm,db (aK b k) rr,0,0,0,0⟩,aM b k,gi b k bad⟩ by simp [bK,oW]];exact OG b hb hl k bad w half rr mm W hv.1 hv.2
  have hg:∀aa:Int,(aa=129∨aa=193∨aa=211∨aa=247)→aP Z9 36 [av aa,ao (abz.i8.wrap ((Z8 8 (db (aK b k) rr)&&&Z8 8 7).toNat:Int))] (ao (jz aa (db (aK b k) rr%8))):=by
    intro aa h
    rw [QT]
    exact KZ h (by omega) (by omega)
  by_cases c129:n=129
  · subst c129
    rw [kh (.inl rfl)]
    have:=OJ b hb hl k bad w half rr mm W hv.1 hv.2 _ (hg 129 (by decide))
    unfold ma
    rw [if_pos (.inl rfl)]
    exact this
  by_cases c193:n=193
  · subst c193
    have ho:jz 193 (db (aK b k) rr%8)≠15:=sZ (.inl rfl) (by omega) (by omega)
    rw [kh (.inr (.inl rfl))]
    have:=OI b hb hl k bad w half rr mm W hv.1 hv.2 _ (hg 193 (by decide)) ho
    unfold ma
    rw [if_neg (by rintro (h | h); · omega
                   · exact ho h),if_pos rfl]
    exact this
  by_cases c211:n=211
  · subst c211
    have ho:jz 211 (db (aK b k) rr%8)≠15:=sZ (.inr rfl) (by omega) (by omega)
    rw [kh (.inr (.inr (.inl rfl)))]
    have:=OH b hb hl k bad w half rr mm W hv.1 hv.2 _ (hg 211 (by decide)) ho
    unfold ma
    rw [if_neg (by rintro (h | h); · omega
                   · exact ho h),if_neg (by decide)]
    exact this
  by_cases c247:n=247
  · subst c247
    rw [kh (.inr (.inr (.inr rfl)))]
    have hq:=hg 247 (by decide)
    by_cases ho:jz 247 (db (aK b k) rr%8)=15
    · rw [ho] at hq ⊢
      have:=Mw b hb hl k bad w half rr mm W hv.1 hv.2 hq
      unfold ma
      rw [if_pos (.inr rfl)]
      exact this
    · have:=Mx b hb hl k bad w half rr mm W hv.1 hv.2 _ hq ho
      unfold ma
      rw [if_neg (by rintro (h | h); · omega
                     · exact ho h),if_neg (by decide)]
      exact this
  by_cases c199:n=199
  · subst c199;rw [show bK b 199 half W rr mm k bad=⟨⟨1,W,cY (aK b k) mm,0,0,0,ez b (aM b k),0⟩,dA b (aM b k),dG b (aM b k) (gi b k bad)⟩ by simp [bK]];exact Qn b hb hl k bad w half rr mm W hv.1 hv.2
  by_cases c139:n=139
  · subst c139;rw [show bK b 139 half W rr mm k bad=⟨⟨26,W,db (aK b k) rr,0,cY (aK b k) mm,ez b (dR b k),0,0⟩,dA b (dR b k),dG b (dR b k) (jL b k bad)⟩ by simp [bK]];exact Qp b hb hl k bad w half rr mm W hv.1 hv.2
  by_cases c136:n=136
  · subst c136;rw [show bK b 136 half W rr mm k bad=⟨⟨27,8,0,db (aK b k) rr,cY (aK b k) mm,ez b (dR b k),0,0⟩,dA b (dR b k),dG b (dR b k) (jL b k bad)⟩ by simp [bK]];exact Qq b hb hl k bad w half rr mm W hv.1 hv.2
  by_cases c235:n=235
  · subst c235;rw [show bK b 235 half W rr mm k bad=⟨⟨28,8,0,0,0,0,uk b k,0⟩,aM b k,cm b k bad⟩ by simp [bK]];exact Ql b hb hl k bad w half rr mm W hv.1 hv.2
  by_cases c233:n=233
  · subst c233;rw [show bK b 233 half W rr mm k bad=⟨⟨28,W,0,0,0,0,ez b k,0⟩,dA b k,dG b k bad⟩ by simp [bK]];exact Qm b hb hl k bad w half rr mm W hv.1 hv.2
  by_cases c195:n=195
  · subst c195;rw [show bK b 195 half W rr mm k bad=⟨⟨30,0,0,0,0,0,0,0⟩,k,bad⟩ by simp [bK]];exact Qo b hb hl k bad w half rr mm W hv.1 hv.2
  by_cases U5:n=15
  · subst U5
    rw [show bK b 15 half W rr mm k bad=mE b W rr mm k bad by simp [bK]]
    unfold mE
    by_cases h175:aK b k=175
    · simp only [if_pos h175];exact My b hb hl k bad w half rr mm W hv.1 hv.2 h175
    by_cases h5:aK b k=5
    · simp only [if_neg h175,if_pos h5];exact Ka b hb hl k bad w half rr mm W hv.1 hv.2 h5
    by_cases h64:64≤aK b k∧aK b k<80
    · simp only [if_neg h175,if_neg h5,if_pos h64];exact Kb b hb hl k bad w half rr mm W hv.1 hv.2 h64.1 h64.2
    by_cases h128:128≤aK b k∧aK b k<144
    · simp only [if_neg h175,if_neg h5,if_neg h64,if_pos h128];exact MA b hb hl k bad w half rr mm W hv.1 hv.2 h128.1 h128.2
    by_cases h182:aK b k=182
    · simp only [if_neg h175,if_neg h5,if_neg h64,if_neg h128,if_pos h182];exact OL b hb hl k bad w half rr mm W hv.1 hv.2 h182
    by_cases h183:aK b k=183
    · simp only [if_neg h175,if_neg h5,if_neg h64,if_neg h128,if_neg h182,if_pos h183];exact Mz b hb hl k bad w half rr mm W hv.1 hv.2 h183
    simp only [if_neg h175,if_neg h5,if_neg h64,if_neg h128,if_neg h182,if_neg h183]
    exact OK b hb hl k bad w half rr mm W hv.1 hv.2 h175 h5 h182 h183 (by omega) (by omega)
  have e:bK b n half W rr mm k bad=sx b n W mm k bad:=by
    simp only [bK]
    rw [if_neg c,if_neg (by omega),if_neg (by omega),if_neg c199,if_neg c139,if_neg c136,if_neg c235,if_neg c233,if_neg c195,if_neg U5]
  rw [e]
  unfold sx
  by_cases h112:112≤n∧n<128
  · simp only [if_pos h112];exact Mv b hb hl k bad w half rr mm W hv.1 hv.2 n n0 n1 h112.1 h112.2
  by_cases h184:184≤n∧n<192
  · simp only [if_neg h112,if_pos h184];exact Mu b hb hl k bad w half rr mm W hv.1 hv.2 n n0 n1 h184.1 h184.2
  simp only [if_neg h112,if_neg h184]
  exact OD b hb hl k bad w half rr mm W hv.1 hv.2 n n0 n1 (by omega) (by omega) c c1 c9 Yn c41 c49 c57 c133 c129 c193 c211 c247 c199 c139 c136 c235 c233 c195 U5
abbrev JI (b:List Int):List D:=Qb b (IX b 0) (aK b 0==102)
abbrev JJ (b:List Int) (w:Bool) (W:Int):List Ob:=Rn b (Fb b 0:Int) (ME b 0 false) w (Ke b 0) (Kg b 0) (Rm (-1) W 0 0 0 0 0 0)
abbrev LY (b:List Int) (at_:Nat) (w bad:Bool) (op wd ab ae aa af aj cc:Int):List Ob:=Rn b (at_:Int) bad w (Ke b 0) (Kg b 0) (Rm op wd ab ae aa af aj cc)
theorem kQ {n0:Nat} {c:Code} {t:List D} {s:List Ob} {ex:Ex} {t':List D} {s':List Ob} (h:b5 Z9 n0 c t s ex t' s'):b5 Z9 n0 c t s ex t' s':=h
theorem fV (X0 X2:List D) (b:List Int) (hb:dr b) (hl:b.length≤1000):ak Z9 32 [.ptr false 1 0] [ay X0,ay [aZ 1 (bD b),av 0,ax false,ax false,ao 0,ao 0],ay X2] (.aL [av (IX b 0),ax (aK b 0==102)]) (BD X0 X2 b (Fb b 0) (ME b 0 false) (kn b 0) (Ke b 0) (Kg b 0)):=
 GO X0 X2 b hb hl 0 false
theorem D6 (b:List Int) (hb:dr b) (hl:b.length≤1000) (hw:kn b 0=false) (at_:Nat) (op w ab ae aa af aj cc:Int) (hx:b5 Z9 3 (dx aa2 0) (JI b) (JJ b (kn b 0) 32) .norm (IW b) (LY b at_ (kn b 0) true op w ab ae aa af aj cc)):aP Z9 21 ([aZ 1 (bD b)]) (.aL [xD 0 0 0 0 0 0 0 0,av 0,av 30]):=by
 have c0:=kQ hx
 exact (L3 (d:= .aL [(xD 0 0 0 0 0 0 0 0),av 0,av 30]) [.aH _ _ _ _ _ (@fV (zX) ((xC (-1) 32 0 0 0 0 0 0)) b hb hl),tC hw,.dI ⟨[0,2,5,6,7,8,28],[0,1,2],[]⟩ _ _ _ _ _ _ _ c0,tF,tF,tF,tT,tT]).to (by first|rfl|(simp [wk];done)|(simp [wk,bf,xD];done)|(simp [wk,bf];done))
theorem D4 (b:List Int) (hb:dr b) (hl:b.length≤1000) (hw:kn b 0=false) (at_:Nat) (op w ab ae aa af aj cc:Int) (hx:b5 Z9 3 (dx aa2 0) (JI b) (JJ b (kn b 0) 32) .norm (IW b) (LY b at_ (kn b 0) false op w ab ae aa af aj cc)) (hm:aP Z9 41 [xD op w ab ae aa af aj cc] (ax false)):aP Z9 21 ([aZ 1 (bD b)]) (.aL [xD 0 0 0 0 0 0 0 0,av 0,av 30]):=by
 have c0:=kQ hx
 exact (L3 (d:= .aL [(xD 0 0 0 0 0 0 0 0),av 0,av 30]) [.aH _ _ _ _ _ (@fV (zX) ((xC (-1) 32 0 0 0 0 0 0)) b hb hl),tC hw,.dI ⟨[0,2,5,6,7,8,28],[0,1,2],[]⟩ _ _ _ _ _ _ _ c0,tT,tT,aw hm,tT,tF,tT]).to (by first|rfl|(simp [wk];done)|(simp [wk,bf,xD];done)|(simp [wk,bf];done))
theorem D5 (b:List Int) (hb:dr b) (hl:b.length≤1000) (hw:kn b 0=false) (at_:Nat) (op w ab ae aa af aj cc:Int) (hx:b5 Z9 3 (dx aa2 0) (JI b) (JJ b (kn b 0) 32) .norm (IW b) (LY b at_ (kn b 0) false op w ab ae aa af aj cc)) (hm:aP Z9 41 [xD op w ab ae aa af aj cc] (ax true)) (own:List Int) (Ww:aP Z9 42 [xD op w ab ae aa af aj cc] (.aL [aZ 1 (bD own),av 0])) (he:(((bD own).length:Int)==(at_:Int))=false):aP Z9 21 ([aZ 1 (bD b)]) (.aL [xD 0 0 0 0 0 0 0 0,av 0,av 30]):=by
 have c0:=kQ hx
 exact (L3 (d:= .aL [(xD 0 0 0 0 0 0 0 0),av 0,av 30]) ([.aH _ _ _ _ _ (@fV (zX) ((xC (-1) 32 0 0 0 0 0 0)) b hb hl),tC hw,.dI ⟨[0,2,5,6,7,8,28],[0,1,2],[]⟩ _ _ _ _ _ _ _ c0,tT,tT,aw hm,tT,tF,tF,aw Ww]++Z7 10 (tC (eF (nt he)))++ [tC (nt he),tT])).to (by first|rfl|(simp [wk];done)|(simp [wk,bf,xD];done)|(simp [wk,bf];done))
theorem D3 (b:List Int) (hb:dr b) (hl:b.length≤1000) (hw:kn b 0=false) (at_:Nat) (op w ab ae aa af aj cc:Int) (hx:b5 Z9 3 (dx aa2 0) (JI b) (JJ b (kn b 0) 32) .norm (IW b) (LY b at_ (kn b 0) false op w ab ae aa af aj cc)) (hm:aP Z9 41 [xD op w ab ae aa af aj cc] (ax true)) (own:List Int) (Ww:aP Z9 42 [xD op w ab ae aa af aj cc] (.aL [aZ 1 (bD own),av 0])) (ha:(at_:Int)≤((bD b).length:Int)) (he:(((bD own).length:Int)==(at_:Int))=true) (hs:((gC (bD own)).toList==(gC (List.take (aal (at_:Int)) (bD b))).toList)=false):aP Z9 21 ([aZ 1 (bD b)]) (.aL [xD 0 0 0 0 0 0 0 0,av 0,av 30]):=by
 have c0:=kQ hx
 exact (L3 (d:= .aL [(xD 0 0 0 0 0 0 0 0),av 0,av 30]) ([.aH _ _ _ _ _ (@fV (zX) ((xC (-1) 32 0 0 0 0 0 0)) b hb hl),tC hw,.dI ⟨[0,2,5,6,7,8,28],[0,1,2],[]⟩ _ _ _ _ _ _ _ c0,tT,tT,aw hm,tT,tF,tF,aw Ww,tC (eF (nt he)),tC (eF (nt he)),tC (v:=true) (@Em own)]++Z7 6 (tC (eF (nt he)))++ [.cX (decide (0≤(↑at_:Int)∧(↑at_:Int)≤(↑(aaa (bD b)):Int))) true (by ((try simp only [aQ,cH] at*);(try unfold dy at*);omega)),tC (eF (nt he)),tC (v:=true) (@jU b (aal (↑at_:Int))),tC (eF (nt he)),tC (nt he),tC (nt hs)])).to (by first|rfl|(simp [wk];done)|(simp [wk,bf,xD];done)|(simp [wk,bf];done))
theorem Iu (b:List Int) (hb:dr b) (hl:b.length≤1000) (hw:kn b 0=false) (at_:Nat) (op w ab ae aa af aj cc:Int) (hx:b5 Z9 3 (dx aa2 0) (JI b) (JJ b (kn b 0) 32) .norm (IW b) (LY b at_ (kn b 0) false op w ab ae aa af aj cc)) (hm:aP Z9 41 [xD op w ab ae aa af aj cc] (ax true)) (own:List Int) (Ww:aP Z9 42 [xD op w ab ae aa af aj cc] (.aL [aZ 1 (bD own),av 0])) (ha:(at_:Int)≤((bD b).length:Int)) (he:(((bD own).length:Int)==(at_:Int))=true) (hs:((gC (bD own)).toList==(gC (List.take (aal (at_:Int)) (bD b))).toList)=true):aP Z9 21 ([aZ 1 (bD b)]) (.aL [xD op w ab ae aa af aj cc,av (at_:Int),av 0]):=by
 have c0:=kQ hx
 exact (L3 (d:= .aL [(xD op w ab ae aa af aj cc),av (↑at_:Int),av 0]) ([.aH _ _ _ _ _ (@fV (zX) ((xC (-1) 32 0 0 0 0 0 0)) b hb hl),tC hw,.dI ⟨[0,2,5,6,7,8,28],[0,1,2],[]⟩ _ _ _ _ _ _ _ c0,tT,tT,aw hm,tT,tF,tF,aw Ww,tC (eF (nt he)),tC (eF (nt he)),tC (v:=true) (@Em own)]++Z7 6 (tC (eF (nt he)))++ [.cX (decide (0≤(↑at_:Int)∧(↑at_:Int)≤(↑(aaa (bD b)):Int))) true (by ((try simp only [aQ,cH] at*);(try unfold dy at*);omega)),tC (eF (nt he)),tC (v:=true) (@jU b (aal (↑at_:Int))),tC (eF (nt he)),tC (nt he),tC (nt hs)])).to (by first|rfl|(simp [wk];done)|(simp [wk,bf,xD];done)|(simp [wk,bf];done))
theorem D2 (b:List Int) (hb:dr b) (hl:b.length≤1000) (hw:kn b 0=true) (at_:Nat) (op w ab ae aa af aj cc:Int) (hx:b5 Z9 3 (dx aa2 0) (JI b) (JJ b (kn b 0) 64) .norm (IW b) (LY b at_ (kn b 0) true op w ab ae aa af aj cc)):aP Z9 21 ([aZ 1 (bD b)]) (.aL [xD 0 0 0 0 0 0 0 0,av 0,av 30]):=by
 have c0:=kQ hx
 exact (L3 (d:= .aL [(xD 0 0 0 0 0 0 0 0),av 0,av 30]) [.aH _ _ _ _ _ (@fV (zX) ((xC (-1) 32 0 0 0 0 0 0)) b hb hl),tC hw,.dI ⟨[0,2,5,6,7,8,28],[0,1,2],[]⟩ _ _ _ _ _ _ _ c0,tF,tF,tF,tT,tT]).to (by first|rfl|(simp [wk];done)|(simp [wk,bf,xD];done)|(simp [wk,bf];done))
theorem D0 (b:List Int) (hb:dr b) (hl:b.length≤1000) (hw:kn b 0=true) (at_:Nat) (op w ab ae aa af aj cc:Int) (hx:b5 Z9 3 (dx aa2 0) (JI b) (JJ b (kn b 0) 64) .norm (IW b) (LY b at_ (kn b 0) false op w ab ae aa af aj cc)) (hm:aP Z9 41 [xD op w ab ae aa af aj cc] (ax false)):aP Z9 21 ([aZ 1 (bD b)]) (.aL [xD 0 0 0 0 0 0 0 0,av 0,av 30]):=by
 have c0:=kQ hx
 exact (L3 (d:= .aL [(xD 0 0 0 0 0 0 0 0),av 0,av 30]) [.aH _ _ _ _ _ (@fV (zX) ((xC (-1) 32 0 0 0 0 0 0)) b hb hl),tC hw,.dI ⟨[0,2,5,6,7,8,28],[0,1,2],[]⟩ _ _ _ _ _ _ _ c0,tT,tT,aw hm,tT,tF,tT]).to (by first|rfl|(simp [wk];done)|(simp [wk,bf,xD];done)|(simp [wk,bf];done))
theorem D1 (b:List Int) (hb:dr b) (hl:b.length≤1000) (hw:kn b 0=true) (at_:Nat) (op w ab ae aa af aj cc:Int) (hx:b5 Z9 3 (dx aa2 0) (JI b) (JJ b (kn b 0) 64) .norm (IW b) (LY b at_ (kn b 0) false op w ab ae aa af aj cc)) (hm:aP Z9 41 [xD op w ab ae aa af aj cc] (ax true)) (own:List Int) (Ww:aP Z9 42 [xD op w ab ae aa af aj cc] (.aL [aZ 1 (bD own),av 0])) (he:(((bD own).length:Int)==(at_:Int))=false):aP Z9 21 ([aZ 1 (bD b)]) (.aL [xD 0 0 0 0 0 0 0 0,av 0,av 30]):=by
 have c0:=kQ hx
 exact (L3 (d:= .aL [(xD 0 0 0 0 0 0 0 0),av 0,av 30]) ([.aH _ _ _ _ _ (@fV (zX) ((xC (-1) 32 0 0 0 0 0 0)) b hb hl),tC hw,.dI ⟨[0,2,5,6,7,8,28],[0,1,2],[]⟩ _ _ _ _ _ _ _ c0,tT,tT,aw hm,tT,tF,tF,aw Ww]++Z7 10 (tC (eF (nt he)))++ [tC (nt he),tT])).to (by first|rfl|(simp [wk];done)|(simp [wk,bf,xD];done)|(simp [wk,bf];done))
theorem DZ (b:List Int) (hb:dr b) (hl:b.length≤1000) (hw:kn b 0=true) (at_:Nat) (op w ab ae aa af aj cc:Int) (hx:b5 Z9 3 (dx aa2 0) (JI b) (JJ b (kn b 0) 64) .norm (IW b) (LY b at_ (kn b 0) false op w ab ae aa af aj cc)) (hm:aP Z9 41 [xD op w ab ae aa af aj cc] (ax true)) (own:List Int) (Ww:aP Z9 42 [xD op w ab ae aa af aj cc] (.aL [aZ 1 (bD own),av 0])) (ha:(at_:Int)≤((bD b).length:Int)) (he:(((bD own).length:Int)==(at_:Int))=true) (hs:((gC (bD own)).toList==(gC (List.take (aal (at_:Int)) (bD b))).toList)=false):aP Z9 21 ([aZ 1 (bD b)]) (.aL [xD 0 0 0 0 0 0 0 0,av 0,av 30]):=by
 have c0:=kQ hx
 exact (L3 (d:= .aL [(xD 0 0 0 0 0 0 0 0),av 0,av 30]) ([.aH _ _ _ _ _ (@fV (zX) ((xC (-1) 32 0 0 0 0 0 0)) b hb hl),tC hw,.dI ⟨[0,2,5,6,7,8,28],[0,1,2],[]⟩ _ _ _ _ _ _ _ c0,tT,tT,aw hm,tT,tF,tF,aw Ww,tC (eF (nt he)),tC (eF (nt he)),tC (v:=true) (@Em own)]++Z7 6 (tC (eF (nt he)))++ [.cX (decide (0≤(↑at_:Int)∧(↑at_:Int)≤(↑(aaa (bD b)):Int))) true (by ((try simp only [aQ,cH] at*);(try unfold dy at*);omega)),tC (eF (nt he)),tC (v:=true) (@jU b (aal (↑at_:Int))),tC (eF (nt he)),tC (nt he),tC (nt hs)])).to (by first|rfl|(simp [wk];done)|(simp [wk,bf,xD];done)|(simp [wk,bf];done))
theorem It (b:List Int) (hb:dr b) (hl:b.length≤1000) (hw:kn b 0=true) (at_:Nat) (op w ab ae aa af aj cc:Int) (hx:b5 Z9 3 (dx aa2 0) (JI b) (JJ b (kn b 0) 64) .norm (IW b) (LY b at_ (kn b 0) false op w ab ae aa af aj cc)) (hm:aP Z9 41 [xD op w ab ae aa af aj cc] (ax true)) (own:List Int) (Ww:aP Z9 42 [xD op w ab ae aa af aj cc] (.aL [aZ 1 (bD own),av 0])) (ha:(at_:Int)≤((bD b).length:Int)) (he:(((bD own).length:Int)==(at_:Int))=true) (hs:((gC (bD own)).toList==(gC (List.take (aal (at_:Int)) (bD b))).toList)=true):aP Z9 21 ([aZ 1 (bD b)]) (.aL [xD op w ab ae aa af aj cc,av (at_:Int),av 0]):=by
 have c0:=kQ hx
 exact (L3 (d:= .aL [(xD op w ab ae aa af aj cc),av (↑at_:Int),av 0]) ([.aH _ _ _ _ _ (@fV (zX) ((xC (-1) 32 0 0 0 0 0 0)) b hb hl),tC hw,.dI ⟨[0,2,5,6,7,8,28],[0,1,2],[]⟩ _ _ _ _ _ _ _ c0,tT,tT,aw hm,tT,tF,tF,aw Ww,tC (eF (nt he)),tC (eF (nt he)),tC (v:=true) (@Em own)]++Z7 6 (tC (eF (nt he)))++ [.cX (decide (0≤(↑at_:Int)∧(↑at_:Int)≤(↑(aaa (bD b)):Int))) true (by ((try simp only [aQ,cH] at*);(try unfold dy at*);omega)),tC (eF (nt he)),tC (v:=true) (@jU b (aal (↑at_:Int))),tC (eF (nt he)),tC (nt he),tC (nt hs)])).to (by first|rfl|(simp [wk];done)|(simp [wk,bf,xD];done)|(simp [wk,bf];done))
theorem Fa {b:List Int} (hb:dr b) (k:Nat):0≤IX b k∧IX b k≤255:=by
 unfold IX
 split<;>exact dL hb _
theorem J4 (b:List Int) (hb:dr b) (hl:b.length≤1000) (W:Int) (hW:(if kn b 0 then 64 else 32)=W):b5 Z9 3 (dx aa2 0) (JI b) (JJ b (kn b 0) W) .norm (IW b) (SD b (k8 b) (kn b 0) (Ke b 0) (Kg b 0)):=by
 subst hW
 exact aB.piece (Nat.le_refl 3) (OB b hb hl (Fb b 0) (ME b 0 false) (kn b 0) (aK b 0==102) (Ke b 0) (Kg b 0) (if kn b 0 then 64 else 32) (IX b 0) (Fa hb 0).1 (Fa hb 0).2)
theorem Jn {own b:List Int} {k:Nat} (ho:dr own) (hb:dr b) (h:own≠b.take k):((gC (bD own)).toList==(gC (List.take (aal (k:Int)) (bD b))).toList)=false:=by
 rw [abt,← yG]
 cases e:((gC (bD own)).toList==(gC (bD (b.take k))).toList) with
 |false=>rfl
 |true=>exact absurd (LL ho (fun x hx=>hb x (List.mem_of_mem_take hx)) (beq_iff_eq.1 e)) h
theorem EF {own b:List Int} {k:Nat} (h:own=b.take k):((gC (bD own)).toList==(gC (List.take (aal (k:Int)) (bD b))).toList)=true:=by
 rw [abt,← yG,h]
 exact beq_self_eq_true _
theorem Ip (b:List Int) (hb:dr b) (hl:b.length≤1000):aP Z9 21 [aZ 1 (bD b)] (ES (Ls b)):=by
 have hx:=J4 b hb hl
 have V0:=J9 b
 unfold Ls
 generalize k8 b=r at hx V0
 obtain ⟨⟨op,w,ab,ae,aa,af,aj,cc⟩,at_,bad⟩:=r
 have hm:=a8 op w ab ae aa af aj cc
 have Wk:(at_:Int)≤((bD b).length:Int):=by rw [aQ];exact Int.ofNat_le.2 V0
 have Ya:bC op w ab ae aa af aj cc=true→aP Z9 42 [xD op w ab ae aa af aj cc] (.aL [aZ 1 (bD (cR ⟨op,w,ab,ae,aa,af,aj,cc⟩)),av 0]):=by
  intro hq
  have Va:op≤127:=by
   have:=KJ (x:=⟨op,w,ab,ae,aa,af,aj,cc⟩) hq
   simp only [hQ,List.mem_cons,List.not_mem_nil,or_false] at this
   omega
  have:=nI op w ab ae aa af aj cc Va
  simp only [lU,qm,hq,if_true] at this
  exact this
 have hlen:(cR ⟨op,w,ab,ae,aa,af,aj,cc⟩).length≠at_→(((bD (cR ⟨op,w,ab,ae,aa,af,aj,cc⟩)).length:Int)==(at_:Int))=false:=by
  intro h
  rw [aQ,fO]
  omega
 have V8:(cR ⟨op,w,ab,ae,aa,af,aj,cc⟩).length=at_→(((bD (cR ⟨op,w,ab,ae,aa,af,aj,cc⟩)).length:Int)==(at_:Int))=true:=by
  intro h
  rw [aQ,cz]
  omega
 have XA:kn b 0=false→_:=fun hw=>hx 32 (by rw [hw];rfl)
 have XI:kn b 0=true→_:=fun hw=>hx 64 (by rw [hw];rfl)
 clear hx
 cases hw:kn b 0
 all_goals
  cases bad
  case true=>
   rw [if_neg (by rintro ⟨h,_⟩;cases h)]
   first|exact D6 b hb hl hw at_ op w ab ae aa af aj cc (XA hw)|exact D2 b hb hl hw at_ op w ab ae aa af aj cc (XI hw)
  cases hq:bC op w ab ae aa af aj cc
  case false=>
   rw [hq] at hm
   rw [if_neg (by rintro ⟨_,h,_⟩;rw [show nK ⟨op,w,ab,ae,aa,af,aj,cc⟩=false from hq] at h;cases h)]
   first|exact D4 b hb hl hw at_ op w ab ae aa af aj cc (XA hw) hm|exact D0 b hb hl hw at_ op w ab ae aa af aj cc (XI hw) hm
  rw [hq] at hm
  have Ur:=Ya hq
  have YJ:dr (cR ⟨op,w,ab,ae,aa,af,aj,cc⟩):=qI hq
  by_cases he:(cR ⟨op,w,ab,ae,aa,af,aj,cc⟩).length=at_
  ·by_cases hs:cR ⟨op,w,ab,ae,aa,af,aj,cc⟩=b.take at_
   ·rw [if_pos ⟨rfl,hq,he,hs⟩]
    have hr:ES (some ⟨op,w,ab,ae,aa,af,aj,cc⟩)= .aL [xD op w ab ae aa af aj cc,av (at_:Int),av 0]:=by rw [← he];rfl
    rw [hr]
    first|exact Iu b hb hl hw at_ op w ab ae aa af aj cc (XA hw) hm _ Ur Wk (V8 he) (EF hs)|exact It b hb hl hw at_ op w ab ae aa af aj cc (XI hw) hm _ Ur Wk (V8 he) (EF hs)
   ·rw [if_neg (by rintro ⟨_,_,_,h⟩;exact hs h)]
    first|exact D3 b hb hl hw at_ op w ab ae aa af aj cc (XA hw) hm _ Ur Wk (V8 he) (Jn YJ hb hs)|exact DZ b hb hl hw at_ op w ab ae aa af aj cc (XI hw) hm _ Ur Wk (V8 he) (Jn YJ hb hs)
  ·rw [if_neg (by rintro ⟨_,_,h,_⟩;exact he h)]
   first|exact D5 b hb hl hw at_ op w ab ae aa af aj cc (XA hw) hm _ Ur (hlen he)|exact D1 b hb hl hw at_ op w ab ae aa af aj cc (XI hw) hm _ Ur (hlen he)
theorem Iq (b:List Int) (hb:dr b) (hl:b.length≤1000):aP Z9 21 [aZ 1 (bD b)] (ES (im b)):=by
 rw [← Lr]
 exact Ip b hb hl
abbrev sA (o0 fA fx fw fu:Ob) (cc cx fr st:List D) (m:aq) (an tr:List D) (v:Nat) (en:Int) (nc nx w:Nat) (l:List Ob):List Ob:=o0::ay (vg nc nx)::aF::aF::ay cc::aF::aF::ay cx::ay fr::ay st::aF::ay (uC m an tr v en)::fA::fx::fw::fu:: .dD w 3::l
abbrev xb (op w ab ae aa af aj cc:Int):Ob:= .box [ao op,ao w,ao ab,ao ae,ao aa,av af,av aj,ao cc]
abbrev TG {P:Program} {cc fb:List D} {m:aq} {nc:Nat} (UK:nc≤16384) (p0:1048576≤m.pc) (p1:(abz.u64.wrap (m.pc - 1048576))≤nc) (p2:1≤nc - (abz.u64.wrap (m.pc - 1048576))) (hF:nN cc (0+aal (abz.u64.wrap (m.pc - 1048576))*1) ((nc - aal (abz.u64.wrap (m.pc - 1048576)))*1) fb) (VI:fb.all isByte=true) (VE:(decide (abz.u64.wrap (m.pc - 1048576)>abz.u64.wrap (↑nc:Int)))=false):List (Ev P):= [tC (eF VE),tC (eF VE),tC (eF VE),tC (eF VE),tC (eF VE),tC (eF VE),tC (eF VE),tC VE,tC (by ((try simp only [eZ] at*);(try unfold dy at*);omega):(decide (abz.u64.wrap (abz.u64.wrap (↑nc:Int) - abz.u64.wrap (m.pc - 1048576))<1))=false),.cX (decide (0≤abz.u64.wrap (m.pc - 1048576)∧abz.u64.wrap (m.pc - 1048576)≤abz.i64.wrap (abz.i64.wrap (abz.u64.wrap (m.pc - 1048576))+1)∧abz.i64.wrap (abz.i64.wrap (abz.u64.wrap (m.pc - 1048576))+1)≤abz.i64.wrap (abz.i64.wrap (abz.u64.wrap (m.pc - 1048576))+1)∧abz.i64.wrap (abz.i64.wrap (abz.u64.wrap (m.pc - 1048576))+1)≤(↑nc:Int))) true (by ((try simp only [eZ] at*);(try unfold dy at*);omega)),tF,.cX (decide (0≤abz.u64.wrap (m.pc - 1048576)∧abz.u64.wrap (m.pc - 1048576)≤(↑nc:Int))) true (by ((try simp only [eZ] at*);(try unfold dy at*);omega)),.len (nc - aal (abz.u64.wrap (m.pc - 1048576))) (2147483648) (by first|decide|omega|(simp;omega)),.go 2,.po _ _ _ _ (@FC (cc) (0+aal (abz.u64.wrap (m.pc - 1048576))*1) ((nc - aal (abz.u64.wrap (m.pc - 1048576)))*1) _ hF),tC (v:=true) VI]
theorem SN {m:aq} {nc:Nat} (UK:nc≤16384) (p1:(abz.u64.wrap (m.pc - 1048576))≤nc):(decide (abz.u64.wrap (m.pc - 1048576)>abz.u64.wrap (↑nc:Int)))=false:=by
 rw [bN (nc:Int)];exact bF (by omega)
abbrev IY {P:Program} {cc fb:List D} {m:aq} {nc:Nat} (UK:nc≤16384) (p0:1048576≤m.pc) (p1:(abz.u64.wrap (m.pc - 1048576))≤nc) (p2:1≤nc - (abz.u64.wrap (m.pc - 1048576))) (hF:nN cc (0+aal (abz.u64.wrap (m.pc - 1048576))*1) ((nc - aal (abz.u64.wrap (m.pc - 1048576)))*1) fb) (VI:fb.all isByte=true):List (Ev P):= [aO,tF,aO]++(Z7 8 (tC (eF (bF (aah.2 p0))))++(tC (bF (aah.2 p0))::(Z7 4 (tC (eF (SN UK p1)))++TG UK p0 p1 p2 hF VI (SN UK p1))))
theorem BX (o0 fA fx fw fu:Ob) (cc cx fr st an tr:List D) (m:aq) (en:Int) (nc nx:Nat) (UK:nc≤16384) (h:m.pc<1048576∨nc<(abz.u64.wrap (m.pc - 1048576))∨nc - (abz.u64.wrap (m.pc - 1048576))<1):ak Z9 47 ([.ptr false 11 0]) ((sA o0 fA fx fw fu cc cx fr st m an tr 0 en nc nx 0 [])) (ax false) ((sA o0 fA fx fw fu cc cx fr st m an tr 0 3 nc nx 0 [])):=by
 rcases aaF (decide (aq.pc m<1048576)) with h0|h0
 ·exact ak.ai (aU:=aao 17) mixed ([aO,tF,aO,tC (eF h0),tC (eF h0),tC (eF h0),tC (eF h0),tC (eF h0),tC (eF h0),tC (eF h0),tC (eF h0),tC h0,tF,tF,tF,tF]++(cr 10 896++ [.go 64,tF])) (by kernel_rfl)
 ·rcases aaF (decide (abz.u64.wrap (m.pc - 1048576)>abz.u64.wrap (↑nc:Int))) with h1|h1
  ·exact ak.ai (aU:=aao 17) mixed ([aO,tF,aO,tC (eF h0),tC (eF h0),tC (eF h0),tC (eF h0),tC (eF h0),tC (eF h0),tC (eF h0),tC (eF h0),tC h0,tC (eF h1),tC (eF h1),tC (eF h1),tC (eF h1)]++ [tC (eF h1),tC (eF h1),tC (eF h1),tC (eF h1),tC (eF h1),tC (eF h1),tC (eF h1),tC h1,tT,tT,.go 64,tF]) (by kernel_rfl)
  ·exact ak.ai (aU:=aao 17) mixed ([aO,tF,aO,tC (eF h0),tC (eF h0),tC (eF h0),tC (eF h0),tC (eF h0),tC (eF h0),tC (eF h0),tC (eF h0),tC h0,tC (eF h1),tC (eF h1),tC (eF h1),tC (eF h1)]++ [tC (eF h1),tC (eF h1),tC (eF h1),tC (eF h1),tC (eF h1),tC (eF h1),tC (eF h1),tC h1,tC (by ((try simp only [eZ] at*);(try unfold dy at*);omega):(decide (abz.u64.wrap (abz.u64.wrap (↑nc:Int) - abz.u64.wrap (m.pc - 1048576))<1))=true),tT,.go 64,tF]) (by kernel_rfl)
section
variable (o0 fA fx fw fu:Ob) (cc cx fr st an tr:List D) (m:aq) (en:Int) (nc nx:Nat) (UK:nc≤16384) (p0:1048576≤m.pc) (p1:(abz.u64.wrap (m.pc - 1048576))≤nc) (p2:1≤nc - (abz.u64.wrap (m.pc - 1048576))) (fb:List D) (hF:nN cc (0+aal (abz.u64.wrap (m.pc - 1048576))*1) ((nc - aal (abz.u64.wrap (m.pc - 1048576)))*1) fb) (VI:fb.all isByte=true)
include UK p0 p1 p2 hF VI
theorem Gs (op w ab ae aa af aj TY len er:Int) (hr:aP Z9 81 [aZ 1 fb] (.aL [xD op w ab ae aa af aj TY,av len,av er])) (ZO:er≠0):ak Z9 47 ([.ptr false 11 0]) ((sA o0 fA fx fw fu cc cx fr st m an tr 0 en nc nx 0 [])) (ax false) ((sA o0 fA fx fw fu cc cx fr st m an tr 0 3 nc nx 0 (Z7 3 .dead))):=ak.ai (aU:=aao 17) mixed (IY UK p0 p1 p2 hF VI++ [.go 64,tT,aw hr,tC (nt (by ((try simp only [eZ] at*);(try unfold dy at*);omega):(er==0)=false))]) (by kernel_rfl)
theorem Gv (op w ab ae aa af aj TY len:Int) (hr:aP Z9 81 [aZ 1 fb] (.aL [xD op w ab ae aa af aj TY,av len,av 0])) (qN:(op==26)=false) (lM:(op==27)=false) (jD:(op==30)=false) (kV:(op==31)=false) (a n:Int) (q:Bool) (ha:aP Z9 111 [.agg (eW m),xD op w ab ae aa af aj TY] (.aL [au a,av n,ax q])) (m1:aq) (e:Int) (hd:aP Z9 83 [.agg (eW m),xD op w ab ae aa af aj TY,au 0] (.aL [.agg (eW m1),av e])) (he:e=0):ak Z9 47 ([.ptr false 11 0]) ((sA o0 fA fx fw fu cc cx fr st m an tr 0 en nc nx 0 [])) (ax true) ((sA o0 fA fx fw fu cc cx fr st m1 an tr 0 0 nc nx 0 (Z7 7 .dead))):=ak.ai (aU:=aao 17) mixed (IY UK p0 p1 p2 hF VI++ [.go 64,tT,aw hr,tF,aO,aw ha,tC kV,tC lM,tC jD,tC qN,tF,aw hd,tC (nt (cK 0 true he)),tC (eT jD),tC (eT jD),tC jD]++ [tF]) (by kernel_rfl)
theorem zs (op w ab ae aa af aj TY len:Int) (hr:aP Z9 81 [aZ 1 fb] (.aL [xD op w ab ae aa af aj TY,av len,av 0])) (qN:(op==26)=false) (lM:(op==27)=false) (jD:(op==30)=false) (kV:(op==31)=false) (a n:Int) (q:Bool) (ha:aP Z9 111 [.agg (eW m),xD op w ab ae aa af aj TY] (.aL [au a,av n,ax q])) (m1:aq) (e:Int) (hd:aP Z9 83 [.agg (eW m),xD op w ab ae aa af aj TY,au 0] (.aL [.agg (eW m1),av e])) (he:e≠0):ak Z9 47 ([.ptr false 11 0]) ((sA o0 fA fx fw fu cc cx fr st m an tr 0 en nc nx 0 [])) (ax false) ((sA o0 fA fx fw fu cc cx fr st m an tr 0 3 nc nx 0 (Z7 7 .dead))):=ak.ai (aU:=aao 17) mixed (IY UK p0 p1 p2 hF VI++ [.go 64,tT,aw hr,tF,aO,aw ha,tC kV,tC lM,tC jD,tC qN,tF,aw hd,tC (nt (by ((try simp only [eZ] at*);(try unfold dy at*);omega):(e==0)=false))]) (by kernel_rfl)
theorem Gt (op w ab ae aa af aj TY len:Int) (hr:aP Z9 81 [aZ 1 fb] (.aL [xD op w ab ae aa af aj TY,av len,av 0])) (qN:(op==26)=true) (lM:(op==27)=false) (jD:(op==30)=false) (kV:(op==31)=false) (a n:Int) (q:Bool) (ha:aP Z9 111 [.agg (eW m),xD op w ab ae aa af aj TY] (.aL [au a,av n,ax q])) (v:Int) (hm:ak Z9 115 [.ptr false 1 0,au a,av n] (sA o0 fA fx fw fu cc cx fr st m an tr 0 3 nc nx 0 [.dD 0 1,aF,xb op w ab ae aa af aj TY,xb op w ab ae aa af aj TY,aF]) (.aL [au v,av 0]) (sA o0 fA fx fw fu cc cx fr st m an tr 0 3 nc nx 0 [.dD 0 1,aF,xb op w ab ae aa af aj TY,xb op w ab ae aa af aj TY,aF])) (m1:aq) (e:Int) (hd:aP Z9 83 [.agg (eW m),xD op w ab ae aa af aj TY,au v] (.aL [.agg (eW m1),av e])) (he:e=0):ak Z9 47 ([.ptr false 11 0]) ((sA o0 fA fx fw fu cc cx fr st m an tr 0 en nc nx 0 [])) (ax true) ((sA o0 fA fx fw fu cc cx fr st m1 an tr 0 0 nc nx 0 (Z7 7 .dead))):=ak.ai (aU:=aao 17) mixed (IY UK p0 p1 p2 hF VI++ [.go 64,tT,aw hr,tF,aO,aw ha,tC (cK 31 false (eq_of_beq qN)),tC (cK 27 false (eq_of_beq qN)),tC (cK 30 false (eq_of_beq qN)),tC (cK 26 true (eq_of_beq qN)),.aH _ _ _ _ _ hm,tF,aw hd,tC (nt (cK 0 true he)),tC (eT (cK 30 false (eq_of_beq qN))),tC (eT (cK 30 false (eq_of_beq qN)))]++ [tC (cK 30 false (eq_of_beq qN)),tF]) (by kernel_rfl)
theorem zo (op w ab ae aa af aj TY len:Int) (hr:aP Z9 81 [aZ 1 fb] (.aL [xD op w ab ae aa af aj TY,av len,av 0])) (qN:(op==26)=true) (lM:(op==27)=false) (jD:(op==30)=false) (kV:(op==31)=false) (a n:Int) (q:Bool) (ha:aP Z9 111 [.agg (eW m),xD op w ab ae aa af aj TY] (.aL [au a,av n,ax q])) (hm:ak Z9 115 [.ptr false 1 0,au a,av n] (sA o0 fA fx fw fu cc cx fr st m an tr 0 3 nc nx 0 [.dD 0 1,aF,xb op w ab ae aa af aj TY,xb op w ab ae aa af aj TY,aF]) (.aL [au 0,av 20]) (sA o0 fA fx fw fu cc cx fr st m an tr 0 3 nc nx 0 [.dD 0 1,aF,xb op w ab ae aa af aj TY,xb op w ab ae aa af aj TY,aF])):ak Z9 47 ([.ptr false 11 0]) ((sA o0 fA fx fw fu cc cx fr st m an tr 0 en nc nx 0 [])) (ax false) ((sA o0 fA fx fw fu cc cx fr st m an tr 0 3 nc nx 0 (Z7 5 .dead))):=ak.ai (aU:=aao 17) mixed (IY UK p0 p1 p2 hF VI++ [.go 64,tT,aw hr,tF,aO,aw ha,tC (cK 31 false (eq_of_beq qN)),tC (cK 27 false (eq_of_beq qN)),tC (cK 30 false (eq_of_beq qN)),tC (cK 26 true (eq_of_beq qN)),.aH _ _ _ _ _ hm,tT]) (by kernel_rfl)
theorem JB (op w ab ae aa af aj TY len:Int) (hr:aP Z9 81 [aZ 1 fb] (.aL [xD op w ab ae aa af aj TY,av len,av 0])) (qN:(op==26)=false) (lM:(op==27)=false) (jD:(op==30)=true) (kV:(op==31)=false) (a n:Int) (q:Bool) (ha:aP Z9 111 [.agg (eW m),xD op w ab ae aa af aj TY] (.aL [au a,av n,ax q])) (v:Int) (hm:ak Z9 115 [.ptr false 1 0,au a,av n] (sA o0 fA fx fw fu cc cx fr st m an tr 0 3 nc nx 0 [.dD 0 1,aF,xb op w ab ae aa af aj TY,xb op w ab ae aa af aj TY,aF]) (.aL [au v,av 0]) (sA o0 fA fx fw fu cc cx fr st m an tr 0 3 nc nx 0 [.dD 0 1,aF,xb op w ab ae aa af aj TY,xb op w ab ae aa af aj TY,aF])) (m1:aq) (e:Int) (hd:aP Z9 83 [.agg (eW m),xD op w ab ae aa af aj TY,au v] (.aL [.agg (eW m1),av e])) (he:e=0) (hv:(v==0)=false):ak Z9 47 ([.ptr false 11 0]) ((sA o0 fA fx fw fu cc cx fr st m an tr 0 en nc nx 0 [])) (ax true) ((sA o0 fA fx fw fu cc cx fr st m1 an tr 0 0 nc nx 0 (Z7 7 .dead))):=ak.ai (aU:=aao 17) mixed (IY UK p0 p1 p2 hF VI++ [.go 64,tT,aw hr,tF,aO,aw ha,tC (cK 31 false (eq_of_beq jD)),tC lM,tC (cK 30 true (eq_of_beq jD)),.aH _ _ _ _ _ hm,tF,aw hd,tC (nt (cK 0 true he)),tC (eT (cK 30 true (eq_of_beq jD))),tC (eT (cK 30 true (eq_of_beq jD))),tC (cK 30 true (eq_of_beq jD))]++ [tC hv]) (by kernel_rfl)
theorem Gr (op w ab ae aa af aj TY len:Int) (hr:aP Z9 81 [aZ 1 fb] (.aL [xD op w ab ae aa af aj TY,av len,av 0])) (qN:(op==26)=false) (lM:(op==27)=false) (jD:(op==30)=true) (kV:(op==31)=false) (a n:Int) (q:Bool) (ha:aP Z9 111 [.agg (eW m),xD op w ab ae aa af aj TY] (.aL [au a,av n,ax q])) (v:Int) (hm:ak Z9 115 [.ptr false 1 0,au a,av n] (sA o0 fA fx fw fu cc cx fr st m an tr 0 3 nc nx 0 [.dD 0 1,aF,xb op w ab ae aa af aj TY,xb op w ab ae aa af aj TY,aF]) (.aL [au v,av 0]) (sA o0 fA fx fw fu cc cx fr st m an tr 0 3 nc nx 0 [.dD 0 1,aF,xb op w ab ae aa af aj TY,xb op w ab ae aa af aj TY,aF])) (m1:aq) (e:Int) (hd:aP Z9 83 [.agg (eW m),xD op w ab ae aa af aj TY,au v] (.aL [.agg (eW m1),av e])) (he:e=0) (hv:(v==0)=true):ak Z9 47 ([.ptr false 11 0]) ((sA o0 fA fx fw fu cc cx fr st m an tr 0 en nc nx 0 [])) (ax false) ((sA o0 fA fx fw fu cc cx fr st m1 an tr 0 1 nc nx 0 (Z7 7 .dead))):=ak.ai (aU:=aao 17) mixed (IY UK p0 p1 p2 hF VI++ [.go 64,tT,aw hr,tF,aO,aw ha,tC (cK 31 false (eq_of_beq jD)),tC lM,tC (cK 30 true (eq_of_beq jD)),.aH _ _ _ _ _ hm,tF,aw hd,tC (nt (cK 0 true he)),tC (eT (cK 30 true (eq_of_beq jD))),tC (eT (cK 30 true (eq_of_beq jD))),tC (cK 30 true (eq_of_beq jD))]++ [tC (cK 0 true (eq_of_beq hv))]) (by kernel_rfl)
theorem BW (op w ab ae aa af aj TY len:Int) (hr:aP Z9 81 [aZ 1 fb] (.aL [xD op w ab ae aa af aj TY,av len,av 0])) (qN:(op==26)=false) (lM:(op==27)=false) (jD:(op==30)=true) (kV:(op==31)=false) (a n:Int) (q:Bool) (ha:aP Z9 111 [.agg (eW m),xD op w ab ae aa af aj TY] (.aL [au a,av n,ax q])) (hm:ak Z9 115 [.ptr false 1 0,au a,av n] (sA o0 fA fx fw fu cc cx fr st m an tr 0 3 nc nx 0 [.dD 0 1,aF,xb op w ab ae aa af aj TY,xb op w ab ae aa af aj TY,aF]) (.aL [au 0,av 20]) (sA o0 fA fx fw fu cc cx fr st m an tr 0 3 nc nx 0 [.dD 0 1,aF,xb op w ab ae aa af aj TY,xb op w ab ae aa af aj TY,aF])):ak Z9 47 ([.ptr false 11 0]) ((sA o0 fA fx fw fu cc cx fr st m an tr 0 en nc nx 0 [])) (ax false) ((sA o0 fA fx fw fu cc cx fr st m an tr 0 3 nc nx 0 (Z7 5 .dead))):=ak.ai (aU:=aao 17) mixed (IY UK p0 p1 p2 hF VI++ [.go 64,tT,aw hr,tF,aO,aw ha,tC (cK 31 false (eq_of_beq jD)),tC lM,tC (cK 30 true (eq_of_beq jD)),.aH _ _ _ _ _ hm,tT]) (by kernel_rfl)
theorem BV (op w ab ae aa af aj TY len:Int) (hr:aP Z9 81 [aZ 1 fb] (.aL [xD op w ab ae aa af aj TY,av len,av 0])) (qN:(op==26)=false) (lM:(op==27)=true) (jD:(op==30)=false) (kV:(op==31)=false) (a n:Int) (q:Bool) (ha:aP Z9 111 [.agg (eW m),xD op w ab ae aa af aj TY] (.aL [au a,av n,ax q])) (z:Int) (UO UI UG:List D) (hs:aP Z9 114 [.agg (eW m),xD op w ab ae aa af aj TY] (au z)) (hm:ak Z9 113 [.ptr false 1 0,au a,av n,au z] (sA o0 fA fx fw fu cc cx fr st m an tr 0 3 nc nx 0 [.dD 0 1,aF,xb op w ab ae aa af aj TY,xb op w ab ae aa af aj TY,aF,aF]) (av 0) (sA o0 fA fx fw fu cc UO UI UG m an tr 0 3 nc nx 0 [.dD 0 1,aF,xb op w ab ae aa af aj TY,xb op w ab ae aa af aj TY,aF,aF])) (m1:aq) (e:Int) (hd:aP Z9 83 [.agg (eW m),xD op w ab ae aa af aj TY,au 0] (.aL [.agg (eW m1),av e])) (he:e=0):ak Z9 47 ([.ptr false 11 0]) ((sA o0 fA fx fw fu cc cx fr st m an tr 0 en nc nx 0 [])) (ax true) ((sA o0 fA fx fw fu cc UO UI UG m1 an tr 0 0 nc nx 0 (Z7 8 .dead))):=ak.ai (aU:=aao 17) mixed (IY UK p0 p1 p2 hF VI++ [.go 64,tT,aw hr,tF,aO,aw ha,tC (cK 31 false (eq_of_beq lM)),tC (cK 27 true (eq_of_beq lM)),aw hs,.aH _ _ _ _ _ hm,tF,aw hd,tC (nt (cK 0 true he)),tC (eT (cK 30 false (eq_of_beq lM))),tC (eT (cK 30 false (eq_of_beq lM))),tC (cK 30 false (eq_of_beq lM))]++ [tF]) (by kernel_rfl)
theorem wv (op w ab ae aa af aj TY len:Int) (hr:aP Z9 81 [aZ 1 fb] (.aL [xD op w ab ae aa af aj TY,av len,av 0])) (qN:(op==26)=false) (lM:(op==27)=true) (jD:(op==30)=false) (kV:(op==31)=false) (a n:Int) (q:Bool) (ha:aP Z9 111 [.agg (eW m),xD op w ab ae aa af aj TY] (.aL [au a,av n,ax q])) (z:Int) (hs:aP Z9 114 [.agg (eW m),xD op w ab ae aa af aj TY] (au z)) (hm:ak Z9 113 [.ptr false 1 0,au a,av n,au z] (sA o0 fA fx fw fu cc cx fr st m an tr 0 3 nc nx 0 [.dD 0 1,aF,xb op w ab ae aa af aj TY,xb op w ab ae aa af aj TY,aF,aF]) (av 20) (sA o0 fA fx fw fu cc cx fr st m an tr 0 3 nc nx 0 [.dD 0 1,aF,xb op w ab ae aa af aj TY,xb op w ab ae aa af aj TY,aF,aF])):ak Z9 47 ([.ptr false 11 0]) ((sA o0 fA fx fw fu cc cx fr st m an tr 0 en nc nx 0 [])) (ax false) ((sA o0 fA fx fw fu cc cx fr st m an tr 0 3 nc nx 0 (Z7 6 .dead))):=ak.ai (aU:=aao 17) mixed (IY UK p0 p1 p2 hF VI++ [.go 64,tT,aw hr,tF,aO,aw ha,tC (cK 31 false (eq_of_beq lM)),tC (cK 27 true (eq_of_beq lM)),aw hs,.aH _ _ _ _ _ hm,tT]) (by kernel_rfl)
theorem zr (op w ab ae aa af aj TY len:Int) (hr:aP Z9 81 [aZ 1 fb] (.aL [xD op w ab ae aa af aj TY,av len,av 0])) (qN:(op==26)=false) (lM:(op==27)=false) (jD:(op==30)=false) (kV:(op==31)=true) (a n:Int) (q:Bool) (ha:aP Z9 111 [.agg (eW m),xD op w ab ae aa af aj TY] (.aL [au a,av n,ax q])) (g:Int) (hn:aP Z9 144 [.agg (eW m)] (.aL [av g,ax false])):ak Z9 47 ([.ptr false 11 0]) ((sA o0 fA fx fw fu cc cx fr st m an tr 0 en nc nx 0 [])) (ax false) ((sA o0 fA fx fw fu cc cx fr st m an tr 0 3 nc nx 0 (Z7 6 .dead))):=by
 exact ak.ai (aU:=aao 17) mixed (IY UK p0 p1 p2 hF VI++ [.go 64,tT,aw hr,tF,aO,aw ha,tC (cK 31 true (eq_of_beq kV)),aO,aw hn,tT,tT]) (by kernel_rfl)
end
theorem zp (o0 fA fx fw fu:Ob) (cc cx fr st tr:List D) (m:aq) (en:Int) (nc nx:Nat) (UK:nc≤16384) (p0:1048576≤m.pc) (p1:(abz.u64.wrap (m.pc - 1048576))≤nc) (p2:1≤nc - (abz.u64.wrap (m.pc - 1048576))) (fb:List D) (hF:nN cc (0+aal (abz.u64.wrap (m.pc - 1048576))*1) ((nc - aal (abz.u64.wrap (m.pc - 1048576)))*1) fb) (VI:fb.all isByte=true) (op w ab ae aa af aj TY len:Int) (hr:aP Z9 81 [aZ 1 fb] (.aL [xD op w ab ae aa af aj TY,av len,av 0])) (qN:(op==26)=false) (lM:(op==27)=false) (jD:(op==30)=false) (kV:(op==31)=true) (a n:Int) (q:Bool) (ha:aP Z9 111 [.agg (eW m),xD op w ab ae aa af aj TY] (.aL [au a,av n,ax q])) (g:Int) (hn:aP Z9 144 [.agg (eW m)] (.aL [av g,ax true])):ak Z9 47 ([.ptr false 11 0]) ((sA o0 fA fx fw fu cc cx fr st m [] tr 0 en nc nx 0 [])) (ax false) ((sA o0 fA fx fw fu cc cx fr st m [] tr 0 2 nc nx 0 (Z7 6 .dead))):=ak.ai (aU:=aao 17) mixed (IY UK p0 p1 p2 hF VI++ [.go 64,tT,aw hr,tF,aO,aw ha,tC (cK 31 true (eq_of_beq kV)),aO,aw hn,tF,tT,tT]) (by kernel_rfl)
theorem Gu (o0 fA fx fw fu:Ob) (cc cx fr st ar tr ga:List D) (m:aq) (en:Int) (nc nx:Nat) (UK:nc≤16384) (p0:1048576≤m.pc) (p1:(abz.u64.wrap (m.pc - 1048576))≤nc) (p2:1≤nc - (abz.u64.wrap (m.pc - 1048576))) (fb:List D) (hF:nN cc (0+aal (abz.u64.wrap (m.pc - 1048576))*1) ((nc - aal (abz.u64.wrap (m.pc - 1048576)))*1) fb) (VI:fb.all isByte=true) (op w ab ae aa af aj TY len:Int) (hr:aP Z9 81 [aZ 1 fb] (.aL [xD op w ab ae aa af aj TY,av len,av 0])) (qN:(op==26)=false) (lM:(op==27)=false) (jD:(op==30)=false) (kV:(op==31)=true) (a n:Int) (q:Bool) (ha:aP Z9 111 [.agg (eW m),xD op w ab ae aa af aj TY] (.aL [au a,av n,ax q])) (g a0:Int) (ht:tr.length≤100000) (hn:aP Z9 144 [.agg (eW m)] (.aL [av g,ax true])) (hg:aP Z9 145 [.agg (eW m)] (aZ 1 ga)) (m1:aq) (e:Int) (hd:aP Z9 83 [.agg (eW m),xD op w ab ae aa af aj TY,au a0] (.aL [.agg (eW m1),av e])) (he:e=0):ak Z9 47 ([.ptr false 11 0]) ((sA o0 fA fx fw fu cc cx fr st m (au a0::ar) tr 0 en nc nx 0 [])) (ax true) ((sA o0 fA fx fw fu cc cx fr st m1 ar (tr++ [.agg [av g,aZ 1 ga,au a0]]) 1 0 nc nx 1 (Z7 9 .dead))):=by
 have VE:(decide (abz.wrap abz.u64 (aq.pc m - (1048576:Int))>abz.wrap abz.u64 (↑nc:Int)))=false:=by (try simp only [eZ] at*);(try unfold dy at*);omega
 exact ak.ai (aU:=aao 17) mixed ([aO,tF,aO,tC (eF (bF (aah.2 p0))),tC (eF (bF (aah.2 p0))),tC (eF (bF (aah.2 p0))),tC (eF (bF (aah.2 p0))),tC (eF (bF (aah.2 p0))),tC (eF (bF (aah.2 p0))),tC (eF (bF (aah.2 p0))),tC (eF (bF (aah.2 p0))),tC (bF (aah.2 p0)),tC (eF VE),tC (eF VE),tC (eF VE),tC (eF VE)]++ [tC (eF VE),tC (eF VE),tC (eF VE),tC (eF VE),tC (eF VE),tC (eF VE),tC (eF VE),tC VE,tC (by ((try simp only [eZ] at*);(try unfold dy at*);omega):(decide (abz.wrap abz.u64 (abz.wrap abz.u64 (↑nc:Int) - abz.wrap abz.u64 (aq.pc m - (1048576:Int)))<(1:Int)))=false),.cX (decide ((0:Int)≤abz.wrap abz.u64 (aq.pc m - (1048576:Int))∧abz.wrap abz.u64 (aq.pc m - (1048576:Int))≤abz.i64.wrap (abz.i64.wrap (abz.wrap abz.u64 (aq.pc m - (1048576:Int)))+(1:Int))∧abz.i64.wrap (abz.i64.wrap (abz.wrap abz.u64 (aq.pc m - (1048576:Int)))+(1:Int))≤abz.i64.wrap (abz.i64.wrap (abz.wrap abz.u64 (aq.pc m - (1048576:Int)))+(1:Int))∧abz.i64.wrap (abz.i64.wrap (abz.wrap abz.u64 (aq.pc m - (1048576:Int)))+(1:Int))≤(↑nc:Int))) true (by ((try simp only [eZ] at*);(try unfold dy at*);omega)),tF,.cX (decide ((0:Int)≤abz.wrap abz.u64 (aq.pc m - (1048576:Int))∧abz.wrap abz.u64 (aq.pc m - (1048576:Int))≤(↑nc:Int))) true (by ((try simp only [eZ] at*);(try unfold dy at*);omega)),.len (nc - aal (abz.wrap abz.u64 (aq.pc m - (1048576:Int)))) ((2147483648:Nat)) (by first|decide|omega|(simp;omega)),.go 2,.po _ _ _ _ (@FC (cc) ((0:Nat)+aal (abz.wrap abz.u64 (aq.pc m - (1048576:Int)))*(1:Nat)) ((nc - aal (abz.wrap abz.u64 (aq.pc m - (1048576:Int))))*(1:Nat)) _ hF),tC (v:=true) VI]++ [.go 64,tT,aw hr,tF,aO,aw ha,tC (cK 31 true (eq_of_beq kV)),aO,aw hn,tF,tF,.get (au a0::ar) 0 (au a0) rfl,.cX (decide ((0:Int)≤(1:Int)∧(1:Int)≤(↑(aaa (au a0::ar)):Int))) true (by ((try simp only [eZ] at*);(try unfold dy at*);omega)),aw hg,.len (aaa tr+(1:Nat)) ((2147483648:Nat)) (by first|decide|omega|(simp;omega)),tF]++ [aw hd,tC (nt (cK 0 true (by ((try simp only [eZ] at*);(try unfold dy at*);omega):e=(0:Int)))),tC (eT jD),tC (eT jD),tC jD,tF]) (by kernel_rfl)
def KB (pc:Int):Int:=if decide (abz.u64.wrap (pc - 1048576)<16385)=true then abz.i64.wrap (abz.u64.wrap (pc - 1048576)) else -1
theorem xU (o0 fA fx fw fu:Ob) (cc cx fr st an tr:List D) (m:aq) (en:Int) (nc nx:Nat):ak Z9 46 ([.ptr false 11 0]) ([o0,ay (vg nc nx),aF,aF,ay cc,aF,aF,ay cx,ay fr,ay st,aF,ay (uC m an tr 0 en),fA,fx,fw,fu,.dD 0 3]) (av (KB m.pc)) ([o0,ay (vg nc nx),aF,aF,ay cc,aF,aF,ay cx,ay fr,ay st,aF,ay (uC m an tr 0 en),fA,fx,fw,fu,.dD 0 3]):=by
 rcases aaF (decide (abz.wrap abz.u64 (aq.pc m - (1048576:Int))<(16385:Int))) with h0|h0
 ·exact (ak.ai (aU:= [0,1,2,3,4,5,6,7,8,9,10,11,12,13,14,15,16]) (d:= .int .i64 (abz.i64.wrap (abz.wrap abz.u64 (aq.pc m - (1048576:Int))))) (s':= [o0,ay [au 1048576,.dm 4 1 nc,ax false,au 2097152,.dm 7 1 nx,ax true,au 3145728,.dm 8 1 64,ax true,au 4194304,.dm 9 1 264,ax true],aF,aF,ay cc,aF,aF,ay cx,ay fr,ay st,aF,ay [au (aq.q0 m),au (aq.q1 m),au (aq.q2 m),au (aq.q3 m),au (aq.q4 m),au (aq.q5 m),au (aq.q6 m),au (aq.q7 m),au (aq.q8 m),au (aq.q9 m),au (aq.cZ m),au (aq.dj m),au (aq.dq m),au (aq.dp m),au (aq.dn m),au (aq.di m),ax (aq.fk m),ax (aq.fc m),ax (aq.fz m),ax (aq.fs m),ax (aq.fo m),au (aq.pc m),.ptr false 1 0,aZ 1 an,.aY (.tok 16 0) 3 tr,ao en],fA,fx,fw,fu,.dD 0 3]) mixed [tC (eH 16384 h0)]).cast (by unfold KB;first|(rw [if_pos h0])|(rw [if_neg (by rw [h0];decide)])) (by rfl)
 ·exact (ak.ai (aU:= [0,1,2,3,4,5,6,7,8,9,10,11,12,13,14,15,16]) (d:= .int .i64 (-1:Int)) (s':= [o0,ay [au 1048576,.dm 4 1 nc,ax false,au 2097152,.dm 7 1 nx,ax true,au 3145728,.dm 8 1 64,ax true,au 4194304,.dm 9 1 264,ax true],aF,aF,ay cc,aF,aF,ay cx,ay fr,ay st,aF,ay [au (aq.q0 m),au (aq.q1 m),au (aq.q2 m),au (aq.q3 m),au (aq.q4 m),au (aq.q5 m),au (aq.q6 m),au (aq.q7 m),au (aq.q8 m),au (aq.q9 m),au (aq.cZ m),au (aq.dj m),au (aq.dq m),au (aq.dp m),au (aq.dn m),au (aq.di m),ax (aq.fk m),ax (aq.fc m),ax (aq.fz m),ax (aq.fs m),ax (aq.fo m),au (aq.pc m),.ptr false 1 0,aZ 1 an,.aY (.tok 16 0) 3 tr,ao en],fA,fx,fw,fu,.dD 0 3]) mixed [tC (eH 16384 h0)]).cast (by unfold KB;first|(rw [if_pos h0])|(rw [if_neg (by rw [h0];decide)])) (by rfl)
abbrev vi (ga gb:Code):Ob:= .lp .ready (Z7 56 .undef) #[27,28] ga gb
abbrev lT:List D:= .jx 15:: .ptr false 12 0::cF:: .ptr false 14 0::Z7 31 .undef
abbrev lS (l:Int) (lp:Ob) (cc cx fr st:List D) (m:aq) (an tr:List D) (v:Nat) (en:Int) (nc nx:Nat) (dd:List Ob):List Ob:= .box [ao 0,au 0,.aY .tight 0 [],.aY .tight 0 [],av l]::ay (vg nc nx)::aF::aF::ay cc::aF::aF::ay cx::ay fr::ay st::aF::ay (uC m an tr v en)::ay [.ptr false 11 0]::aF::ay [.ptr false 0 4]::lp:: .dD v 3::dd
theorem Pm (cc cx fr st an tr:List D) (m:aq) (left en:Int) (nc nx:Nat) (Uu:∀c∈cc,c.clean=true) (W1:∀c∈cx,c.clean=true) (U1:∀c∈fr,c.clean=true) (T5:∀c∈st,c.clean=true) (h:left≤0):aB Z9 (cq Tryz.f45 0) ⟨[],[0,1,11,12,14,15,1000004,1000007,1000008,1000009],[(1011024,3)]⟩ 16 lT (lS left (vi (dv aaR 0) (du aaR 0)) cc cx fr st m an tr 0 en nc nx []) (Ex.exit 0) (Z7 35 .undef) ((lS left (vi (dv aaR 0) (du aaR 0)) (List.map D.bg cc) (List.map D.bg cx) (List.map D.bg fr) (List.map D.bg st) m an tr 0 en nc nx [])):=aB.ai mixed [tC (dg 0 (b8 (aac h))),.cl _ Uu,.cl _ W1,.cl _ U1,.cl _ T5] (by kernel_rfl)
theorem Pk (cc cx fr st an tr:List D) (m:aq) (left en:Int) (nc nx:Nat) (Uu:∀c∈cc,c.clean=true) (W1:∀c∈cx,c.clean=true) (U1:∀c∈fr,c.clean=true) (T5:∀c∈st,c.clean=true) (UO UI UG Vz Vw:List D) (m2:aq) (VV:Int) (dd:List Ob) (Vp:∀c∈UO,c.clean=true) (Vn:∀c∈UI,c.clean=true) (Vj:∀c∈UG,c.clean=true) (h:0<left) (hs:ak Z9 47 [.ptr false 11 0] (lS (abz.i64.wrap (left - 1)) (vi (dv aaR 0) (du aaR 0)) cc cx fr st m an tr 0 en nc nx []) (ax true) (lS (abz.i64.wrap (left - 1)) (vi (dv aaR 0) (du aaR 0)) cc UO UI UG m2 Vz Vw 0 VV nc nx dd)):aB Z9 (cq Tryz.f45 0) ⟨[0,1,3],[0,1,11,12,14,15,1000004,1000007,1000008,1000009],[(1011024,3)]⟩ 16 lT (lS left (vi (dv aaR 0) (du aaR 0)) cc cx fr st m an tr 0 en nc nx []) .norm lT ((lS (abz.i64.wrap (left - 1)) (vi (dv aaR 0) (du aaR 0)) (List.map D.bg cc) (List.map D.bg UO) (List.map D.bg UI) (List.map D.bg UG) m2 Vz Vw 0 VV nc nx [])):=aB.ai mixed [tC (dg 0 (bF (by omega:¬left<1))),.aH _ _ _ _ _ (@xU (ay [ao 0,au 0,.aY .tight 0 [],.aY .tight 0 [],av left]) (ay [.ptr false 11 0]) (aF) (ay [.ptr false 0 4]) (vi (dv aaR 0) (du aaR 0)) (cc) (cx) (fr) (st) (an) (tr) (m) (en) (nc) (nx)),.aU [(0,ay [ao 0,au 0,.aY .tight 0 [],.aY .tight 0 [],av left]),(1,ay (vg nc nx)),(4,ay cc),(7,ay cx),(8,ay fr),(9,ay st),(11,ay (uC m an tr 0 en)),(12,ay [.ptr false 11 0]),(14,ay [.ptr false 0 4]),(15,vi (dv aaR 0) (du aaR 0)),(16,.dD 0 3)],aO,tF,.aH _ _ _ _ _ hs,tF,.cl _ Uu,.cl _ Vp,.cl _ Vn,.cl _ Vj] (by kernel_rfl)
theorem Pj (cc cx fr st an tr:List D) (m:aq) (left en:Int) (nc nx:Nat) (Uu:∀c∈cc,c.clean=true) (W1:∀c∈cx,c.clean=true) (U1:∀c∈fr,c.clean=true) (T5:∀c∈st,c.clean=true) (UO UI UG Vz Vw:List D) (m2:aq) (VV:Int) (dd:List Ob) (Vp:∀c∈UO,c.clean=true) (Vn:∀c∈UI,c.clean=true) (Vj:∀c∈UG,c.clean=true) (h:0<left) (hs:ak Z9 47 [.ptr false 11 0] (lS (abz.i64.wrap (left - 1)) (vi (dv aaR 0) (du aaR 0)) cc cx fr st m an tr 0 en nc nx []) (ax true) (lS (abz.i64.wrap (left - 1)) (vi (dv aaR 0) (du aaR 0)) cc UO UI UG m2 Vz Vw 1 VV nc nx dd)):aB Z9 (cq Tryz.f45 0) ⟨[0,1,3],[0,1,11,12,14,15,1000004,1000007,1000008,1000009],[(1011024,3)]⟩ 16 lT (lS left (vi (dv aaR 0) (du aaR 0)) cc cx fr st m an tr 0 en nc nx []) .norm lT ((lS (abz.i64.wrap (left - 1)) (vi (dv aaR 0) (du aaR 0)) (List.map D.bg cc) (List.map D.bg UO) (List.map D.bg UI) (List.map D.bg UG) m2 Vz Vw 0 VV nc nx [])):=aB.ai mixed [tC (dg 0 (bF (by omega:¬left<1))),.aH _ _ _ _ _ (@xU (ay [ao 0,au 0,.aY .tight 0 [],.aY .tight 0 [],av left]) (ay [.ptr false 11 0]) (aF) (ay [.ptr false 0 4]) (vi (dv aaR 0) (du aaR 0)) (cc) (cx) (fr) (st) (an) (tr) (m) (en) (nc) (nx)),.aU [(0,ay [ao 0,au 0,.aY .tight 0 [],.aY .tight 0 [],av left]),(1,ay (vg nc nx)),(4,ay cc),(7,ay cx),(8,ay fr),(9,ay st),(11,ay (uC m an tr 0 en)),(12,ay [.ptr false 11 0]),(14,ay [.ptr false 0 4]),(15,vi (dv aaR 0) (du aaR 0)),(16,.dD 0 3)],aO,tF,.aH _ _ _ _ _ hs,tF,.cl _ Uu,.cl _ Vp,.cl _ Vn,.cl _ Vj] (by kernel_rfl)
theorem QS (cc cx fr st an tr:List D) (m:aq) (left en:Int) (nc nx:Nat) (Uu:∀c∈cc,c.clean=true) (W1:∀c∈cx,c.clean=true) (U1:∀c∈fr,c.clean=true) (T5:∀c∈st,c.clean=true) (UO UI UG Vz Vw:List D) (m2:aq) (VV:Int) (dd:List Ob) (Vp:∀c∈UO,c.clean=true) (Vn:∀c∈UI,c.clean=true) (Vj:∀c∈UG,c.clean=true) (h:0<left) (hs:ak Z9 47 [.ptr false 11 0] (lS (abz.i64.wrap (left - 1)) (vi (dv aaR 0) (du aaR 0)) cc cx fr st m an tr 0 en nc nx []) (ax false) (lS (abz.i64.wrap (left - 1)) (vi (dv aaR 0) (du aaR 0)) cc UO UI UG m2 Vz Vw 0 VV nc nx dd)):aB Z9 (cq Tryz.f45 0) ⟨[],[0,1,11,12,14,15,1000004,1000007,1000008,1000009],[(1011024,3)]⟩ 16 lT (lS left (vi (dv aaR 0) (du aaR 0)) cc cx fr st m an tr 0 en nc nx []) (Ex.ret) (Z7 35 .undef) ((lS (abz.i64.wrap (left - 1)) (vi (dv aaR 0) (du aaR 0)) (List.map D.bg cc) (List.map D.bg UO) (List.map D.bg UI) (List.map D.bg UG) m2 Vz Vw 0 VV nc nx [])):=aB.ai mixed [tC (dg 0 (bF (by omega:¬left<1))),.aH _ _ _ _ _ (@xU (ay [ao 0,au 0,.aY .tight 0 [],.aY .tight 0 [],av left]) (ay [.ptr false 11 0]) (aF) (ay [.ptr false 0 4]) (vi (dv aaR 0) (du aaR 0)) (cc) (cx) (fr) (st) (an) (tr) (m) (en) (nc) (nx)),.aU [(0,ay [ao 0,au 0,.aY .tight 0 [],.aY .tight 0 [],av left]),(1,ay (vg nc nx)),(4,ay cc),(7,ay cx),(8,ay fr),(9,ay st),(11,ay (uC m an tr 0 en)),(12,ay [.ptr false 11 0]),(14,ay [.ptr false 0 4]),(15,vi (dv aaR 0) (du aaR 0)),(16,.dD 0 3)],aO,tF,.aH _ _ _ _ _ hs,tT,.cl _ Uu,.cl _ Vp,.cl _ Vn,.cl _ Vj] (by kernel_rfl)
theorem Im (m:aq) (w ab ae aa af aj TY:Int) (d0:0≤ab) (d1:ab≤15) (s0:0≤ae) (s1:ae≤15) (b0:0≤aa) (b1:aa≤15) (w0:0≤w) (w1:w≤64) (hm:bC 26 w ab ae aa af aj TY=true):aP Z9 111 ([.agg (eW m),xD 26 w ab ae aa af aj TY]) (.aL [au (u64 (rg m.rl aa+u64 af)),av (w / 8),ax true]):=by
 have c0:= @a9 (26) (w) (ab) (ae) (aa) (af) (aj) (TY) (by first|rfl|decide)
 exact (aP.ai (d:= .aL [au (abz.u64.wrap (rg m.rl aa+abz.u64.wrap af)),av (abz.i64.wrap (Int.fdiv w 8)),ax true]) mixed Tryz.func111 (by kernel_rfl) [aw c0,tC (nt hm),tF,tT,tT,.cX (decide (0≤aa∧aa<(↑(16:Nat):Int))) true (by ((try simp only [dk,bo,aN,bN,bS,cI,cz,ki,fO,bne_eq_false_iff_eq,aaK,aaU,aae,aax] at*);omega)),.get _ _ _ (@bj (m) (aa) ([ax m.fk,ax m.fc,ax m.fz,ax m.fs,ax m.fo,au m.pc]) b0 b1)]).to (by simp only [wk,bf,ey,D.int.injEq,fm];refine ⟨rfl,?_⟩;first|rfl|(rw [aN,Rx];omega)|(rw [show abz.i64.wrap w=w by rw [aN];omega,Int.tdiv_eq_ediv_of_nonneg w0,aN];omega))
theorem Il (m:aq) (w ab ae aa af aj TY:Int) (d0:0≤ab) (d1:ab≤15) (s0:0≤ae) (s1:ae≤15) (b0:0≤aa) (b1:aa≤15) (w0:0≤w) (w1:w≤64) (hm:bC 27 w ab ae aa af aj TY=true):aP Z9 111 ([.agg (eW m),xD 27 w ab ae aa af aj TY]) (.aL [au (u64 (rg m.rl aa+u64 af)),av (w / 8),ax true]):=by
 have c0:= @a9 (27) (w) (ab) (ae) (aa) (af) (aj) (TY) (by first|rfl|decide)
 exact (aP.ai (d:= .aL [au (abz.u64.wrap (rg m.rl aa+abz.u64.wrap af)),av (abz.i64.wrap (Int.fdiv w 8)),ax true]) mixed Tryz.func111 (by kernel_rfl) [aw c0,tC (nt hm),tF,tF,tT,.cX (decide (0≤aa∧aa<(↑(16:Nat):Int))) true (by ((try simp only [dk,bo,aN,bN,bS,cI,cz,ki,fO,bne_eq_false_iff_eq,aaK,aaU,aae,aax] at*);omega)),.get _ _ _ (@bj (m) (aa) ([ax m.fk,ax m.fc,ax m.fz,ax m.fs,ax m.fo,au m.pc]) b0 b1)]).to (by simp only [wk,bf,ey,D.int.injEq,fm];refine ⟨rfl,?_⟩;first|rfl|(rw [aN,Rx];omega)|(rw [show abz.i64.wrap w=w by rw [aN];omega,Int.tdiv_eq_ediv_of_nonneg w0,aN];omega))
theorem Ik (m:aq) (w ab ae aa af aj TY:Int) (d0:0≤ab) (d1:ab≤15) (s0:0≤ae) (s1:ae≤15) (b0:0≤aa) (b1:aa≤15) (hm:bC 30 w ab ae aa af aj TY=true):aP Z9 111 ([.agg (eW m),xD 30 w ab ae aa af aj TY]) (.aL [au m.q4,av 8,ax true]):=by
 have c0:= @a9 (30) (w) (ab) (ae) (aa) (af) (aj) (TY) (by first|rfl|decide)
 exact (aP.ai (d:= .aL [au m.q4,av 8,ax true]) mixed Tryz.func111 (by kernel_rfl) [aw c0,tC (nt hm),tT]).to (by first|((simp only [wk,bf,ey];repeat' (first|rfl|exact True.intro|apply And.intro));done)|(simp [wk,bf,u64,];done))
theorem Bl (m:aq) (op w ab ae aa af aj TY:Int) (ho:op≤127) (n1:(op==26)=false) (n2:(op==27)=false) (n3:(op==30)=false) (hm:bC op w ab ae aa af aj TY=true):aP Z9 111 ([.agg (eW m),xD op w ab ae aa af aj TY]) (.aL [au 0,av 0,ax false]):=by
 have c0:= @a9 (op) (w) (ab) (ae) (aa) (af) (aj) (TY) ho
 exact (aP.ai (d:= .aL [au 0,av 0,ax false]) mixed Tryz.func111 (by kernel_rfl) [aw c0,tC (nt hm),tC n3,tC n1,tC n2]).to (by first|((simp only [wk,bf,ey];repeat' (first|rfl|exact True.intro|apply And.intro));done)|(simp [wk,bf,u64,];done))
theorem Ih (m:aq) (w ab ae aa af aj TY:Int) (d0:0≤ab) (d1:ab≤15) (s0:0≤ae) (s1:ae≤15) (b0:0≤aa) (b1:aa≤15) (w0:fS w=true) (hm:bC 27 w ab ae aa af aj TY=true):aP Z9 114 ([.agg (eW m),xD 27 w ab ae aa af aj TY]) (au (aI (rg m.rl ae) w)):=by
 have c0:= @a9 (27) (w) (ab) (ae) (aa) (af) (aj) (TY) (by first|rfl|decide)
 have c1:= @cC (rg m.rl ae) (w)
 exact (aP.ai (d:= .int .u64 (aI (rg m.rl ae) w)) mixed Tryz.func114 (by kernel_rfl) [tT,tT,aw c0,tT,tF,tC (nt hm),.cX (decide (0≤ae∧ae<(↑(16:Nat):Int))) true (by ((try simp only [dk,bo,aN,bN,bS,cI,cz,ki,fO,bne_eq_false_iff_eq,aaK,aaU,aae,aax] at*);omega)),.get _ _ _ (@bj (m) (ae) ([ax m.fk,ax m.fc,ax m.fz,ax m.fs,ax m.fo,au m.pc]) s0 s1),aw c1]).to (by first|((simp only [wk,bf,ey];repeat' (first|rfl|exact True.intro|apply And.intro));done)|(simp [wk,bf,u64,];done))
theorem Nh (m:aq):aP Z9 144 ([.agg (eW m)]) (.aL [av (ko m.q0),ax (qO m.q0)]):=by
 rcases aaF (decide (aq.q0 m<16)) with h0|h0
 ·exact (aP.ai (d:= .aL [av (abz.i64.wrap m.q0),ax true]) mixed Tryz.func144 (by kernel_rfl) [tC (bQ 16 h0)]).to (by first|exact xW h0|exact xX h0)
 ·exact (aP.ai (d:= .aL [av 0,ax false]) mixed Tryz.func144 (by kernel_rfl) [tC (bQ 16 h0)]).to (by first|exact xW h0|exact xX h0)
theorem KV (num:Int) (h0:0≤num) (h1:num≤15):aP Z9 162 ([av num]) (av (Int.tmod num 6)):=(aP.ai (d:= .int .i64 (Int.tmod num 6)) mixed Tryz.func162 (by kernel_rfl) ([aO]++Z7 3 (tC (eT (bQ 0 (bF (aah.2 h0)))))++ [tC (bQ 0 (bF (aah.2 h0))),tC (nt (eH 15 (b8 (aac h1))))])).to (by simp [wk,bf,cB])
theorem AX (num:Int) (h0:num<0):aP Z9 162 ([av num]) (av 0):=(aP.ai (d:= .int .i64 0) mixed Tryz.func162 (by kernel_rfl) ([aO]++Z7 3 (tC (eT (bQ 0 (b8 h0))))++ [tC (bQ 0 (b8 h0)),tT])).to (by simp [wk,bf,cB])
theorem AY (num:Int) (h0:15<num):aP Z9 162 ([av num]) (av 0):=(aP.ai (d:= .int .i64 0) mixed Tryz.func162 (by kernel_rfl) ([aO]++Z7 3 (tC (eT (bQ 0 (lu 0 (bF (by omega:¬num<16))))))++ [tC (bQ 0 (lu 0 (bF (by omega:¬num<16)))),tC (nt (eH 15 (bF (by omega:¬num<16))))])).to (by simp [wk,bf,cB])
theorem DX (m:aq) (v:Int) (hn:aP Z9 144 [.agg (eW m)] (.aL [av v,ax true])) (ha:aP Z9 162 [av v] (av 0)):aP Z9 145 ([.agg (eW m)]) (.aY .tight 0 []):=(aP.ai (d:= .aY .tight 0 []) mixed Tryz.func145 (by kernel_rfl) [aw hn,tF,aw ha,tT,.go 64,tF]).to (by simp [wk,bf,cB])
theorem DW (m:aq) (v:Int) (hn:aP Z9 144 [.agg (eW m)] (.aL [av v,ax true])) (ha:aP Z9 162 [av v] (av 1)):aP Z9 145 ([.agg (eW m)]) (.aY (.fresh 1) 1 [au m.q7]):=(aP.ai (d:= .aY (.fresh 1) 1 [au m.q7]) mixed Tryz.func145 (by kernel_rfl) [aw hn,tF,aw ha,tT,.go 64,tT,tT,tT,.len (1) (2147483648) (by first|decide|omega|(simp;omega)),tF]).to (by simp [wk,bf,cB])
theorem DV (m:aq) (v:Int) (hn:aP Z9 144 [.agg (eW m)] (.aL [av v,ax true])) (ha:aP Z9 162 [av v] (av 2)):aP Z9 145 ([.agg (eW m)]) (.aY (.fresh 1) 1 [au m.q7,au m.q6]):=(aP.ai (d:= .aY (.fresh 1) 1 [au m.q7,au m.q6]) mixed Tryz.func145 (by kernel_rfl) ([aw hn,tF,aw ha,tT,.go 64,tT,tT,tT,.len (1) (2147483648) (by first|decide|omega|(simp;omega)),tT,tT,tT]++ [.len (2) (2147483648) (by first|decide|omega|(simp;omega)),tF])).to (by simp [wk,bf,cB])
theorem DU (m:aq) (v:Int) (hn:aP Z9 144 [.agg (eW m)] (.aL [av v,ax true])) (ha:aP Z9 162 [av v] (av 3)):aP Z9 145 ([.agg (eW m)]) (.aY (.fresh 1) 1 [au m.q7,au m.q6,au m.q2]):=(aP.ai (d:= .aY (.fresh 1) 1 [au m.q7,au m.q6,au m.q2]) mixed Tryz.func145 (by kernel_rfl) ([aw hn,tF,aw ha,tT,.go 64,tT,tT,tT,.len (1) (2147483648) (by first|decide|omega|(simp;omega)),tT,tT,tT]++ [.len (2) (2147483648) (by first|decide|omega|(simp;omega)),tT,tT,tT,.len (3) (2147483648) (by first|decide|omega|(simp;omega)),tF])).to (by simp [wk,bf,cB])
theorem DT (m:aq) (v:Int) (hn:aP Z9 144 [.agg (eW m)] (.aL [av v,ax true])) (ha:aP Z9 162 [av v] (av 4)):aP Z9 145 ([.agg (eW m)]) (.aY (.fresh 1) 1 [au m.q7,au m.q6,au m.q2,au m.cZ]):=(aP.ai (d:= .aY (.fresh 1) 1 [au m.q7,au m.q6,au m.q2,au m.cZ]) mixed Tryz.func145 (by kernel_rfl) ([aw hn,tF,aw ha,tT,.go 64,tT,tT,tT,.len (1) (2147483648) (by first|decide|omega|(simp;omega)),tT,tT,tT]++ [.len (2) (2147483648) (by first|decide|omega|(simp;omega)),tT,tT,tT,.len (3) (2147483648) (by first|decide|omega|(simp;omega)),tT,tT,tT,.len (4) (2147483648) (by first|decide|omega|(simp;omega)),tF])).to (by simp [wk,bf,cB])
theorem DS (m:aq) (v:Int) (hn:aP Z9 144 [.agg (eW m)] (.aL [av v,ax true])) (ha:aP Z9 162 [av v] (av 5)):aP Z9 145 ([.agg (eW m)]) (.aY (.fresh 1) 1 [au m.q7,au m.q6,au m.q2,au m.cZ,au m.q8]):=by
 exact (aP.ai (d:= .aY (.fresh 1) 1 [au m.q7,au m.q6,au m.q2,au m.cZ,au m.q8]) mixed Tryz.func145 (by kernel_rfl) ([aw hn,tF,aw ha,tT,.go 64,tT,tT,tT,.len (1) (2147483648) (by first|decide|omega|(simp;omega)),tT,tT,tT]++ [.len (2) (2147483648) (by first|decide|omega|(simp;omega)),tT,tT,tT,.len (3) (2147483648) (by first|decide|omega|(simp;omega)),tT,tT,tT,.len (4) (2147483648) (by first|decide|omega|(simp;omega)),tT,tT]++ [tT,.len (5) (2147483648) (by first|decide|omega|(simp;omega)),tF])).to (by simp [wk,bf,cB])
section
variable (o0 fA fx fw fu x0 x1 x2 x3 x4 x5:Ob) (cb cx fr st:List Int) (u:List D) (v:Nat)
abbrev rS:List Ob:= [o0,ay (vg cb.length cx.length),aF,aF,ay (bD cb),aF,aF,ay (bD cx),ay (bD fr),ay (bD st),aF,ay u,fA,fx,fw,fu,.dD v 3,x0,x1,x2,x3,x4]
abbrev wS (nc nx:Nat):List Ob:= [o0,ay (vg nc nx),aF,aF,ay (bD cb),aF,aF,ay (bD cx),ay (bD fr),ay (bD st),aF,ay u,fA,fx,fw,fu,.dD v 3,x0,x1,x2,x3,x4,x5]
abbrev ED:List Nat:= [10,1,2,3,4,5,6,7,8,9]
theorem AV (hc:cb.length≤16384) (hx:cx.length≤256) (hf:fr.length=64) (hs:st.length=264) (a n:Int) (hn:n=1∨n=2∨n=4∨n=8):
  ak Z9 115 [.ptr false 1 0,au a,av n] (rS o0 fA fx fw fu x0 x1 x2 x3 x4 cb cx fr st u v) (match jE cb cx fr st a n with|some z=> .aL [au z,av 0]|none=> .aL [au 0,av 20]) (rS o0 fA fx fw fu x0 x1 x2 x3 x4 cb cx fr st u v):=by
 have e:pJ ED (rS o0 fA fx fw fu x0 x1 x2 x3 x4 cb cx fr st u v) (sI .dead cb cx fr st)=rS o0 fA fx fw fu x0 x1 x2 x3 x4 cb cx fr st u v:=by
  show [o0,ay (vg cb.length cx.length),aF,aF,ay (D.jR (gL ED 22) (bD cb)),aF,aF,ay (D.jR (gL ED 22) (bD cx)),ay (D.jR (gL ED 22) (bD fr)),ay (D.jR (gL ED 22) (bD st)),aF,ay u,fA,fx,fw,fu,.dD v 3,x0,x1,x2,x3,x4]=_
  rw [eE,eE,eE,eE]
 have h:=(Po .dead cb cx fr st hc hx hf hs a n hn).rn ED (rS o0 fA fx fw fu x0 x1 x2 x3 x4 cb cx fr st u v) rfl (by decide) (show ∀x∈ED,x<22 by decide) e
 rw [e] at h
 cases hl:jE cb cx fr st a n<;>(rw [hl] at h;exact h)
theorem Gf (hc:cb.length≤16384) (hx:cx.length≤256) (hf:fr.length=64) (hs:st.length=264) (a n w:Int) (hn:n=1∨n=2∨n=4∨n=8):
  match ir cx fr st a n w with
  |some r=>ak Z9 113 [.ptr false 1 0,.int .u64 a,.int .i64 n,.int .u64 w] (wS o0 fA fx fw fu x0 x1 x2 x3 x4 x5 cb cx fr st u v cb.length cx.length) (.int .i64 0) (wS o0 fA fx fw fu x0 x1 x2 x3 x4 x5 cb r.1 r.2.1 r.2.2 u v cb.length cx.length)
  |none=>ak Z9 113 [.ptr false 1 0,.int .u64 a,.int .i64 n,.int .u64 w] (wS o0 fA fx fw fu x0 x1 x2 x3 x4 x5 cb cx fr st u v cb.length cx.length) (.int .i64 20) (wS o0 fA fx fw fu x0 x1 x2 x3 x4 x5 cb cx fr st u v cb.length cx.length):=by
 have e:∀y f s:List Int,pJ ED (wS o0 fA fx fw fu x0 x1 x2 x3 x4 x5 cb cx fr st u v cb.length cx.length) (L4 .dead cb.length cx.length (bD cb) (bD y) (bD f) (bD s))=wS o0 fA fx fw fu x0 x1 x2 x3 x4 x5 cb y f s u v cb.length cx.length:=fun y f s=>by
  show [o0,ay (vg cb.length cx.length),aF,aF,ay (D.jR (gL ED 23) (bD cb)),aF,aF,ay (D.jR (gL ED 23) (bD y)),ay (D.jR (gL ED 23) (bD f)),ay (D.jR (gL ED 23) (bD s)),aF,ay u,fA,fx,fw,fu,.dD v 3,x0,x1,x2,x3,x4,x5]=_
  rw [eE,eE,eE,eE]
 have h:=(Mh .dead cb cx fr st hc hx hf hs a n hn w).rn ED (wS o0 fA fx fw fu x0 x1 x2 x3 x4 x5 cb cx fr st u v cb.length cx.length) rfl (by decide) (show ∀x∈ED,x<23 by decide) (e cx fr st)
 cases hl:ir cx fr st a n w<;>(rw [hl] at h;simp only [e] at h;exact h)
end
theorem MR (v:Int):aP Z9 162 [av v] (av (mT v:Int)):=by
 unfold mT
 by_cases h0:0≤v
 ·by_cases h1:v≤15
  ·rw [if_pos ⟨h0,h1⟩]
   have e:Int.tmod v 6=((v.toNat%6:Nat):Int):=by rw [Int.tmod_eq_emod_of_nonneg h0];omega
   rw [← e]
   exact KV v h0 h1
  ·rw [if_neg (fun h=>h1 h.2)];exact AY v (by omega)
 ·rw [if_neg (fun h=>h0 h.1)];exact AX v (by omega)
theorem Ni (m:aq) (v:Int) (hn:aP Z9 144 [.agg (eW m)] (.aL [av v,ax true])):aP Z9 145 [.agg (eW m)] (aZ 1 (wD (mS m (mT v)))):=by
 have ha:=MR v
 have h5:=FV v
 generalize mT v=n at ha h5
 have:n=0∨n=1∨n=2∨n=3∨n=4∨n=5:=by omega
 rcases this with rfl|rfl|rfl|rfl|rfl|rfl
 ·exact (DX m v hn ha).to (by exact ⟨rfl,.inr rfl,trivial,.inl rfl⟩)
 ·exact (DW m v hn ha).to (by exact ⟨rfl,.inl rfl,trivial,.inr rfl⟩)
 ·exact (DV m v hn ha).to (by exact ⟨rfl,.inl rfl,trivial,.inr rfl⟩)
 ·exact (DU m v hn ha).to (by exact ⟨rfl,.inl rfl,trivial,.inr rfl⟩)
 ·exact (DT m v hn ha).to (by exact ⟨rfl,.inl rfl,trivial,.inr rfl⟩)
 ·exact (DS m v hn ha).to (by exact ⟨rfl,.inl rfl,trivial,.inr rfl⟩)
end Go.Proofs.YtbfpahigdpigpaaGreat
