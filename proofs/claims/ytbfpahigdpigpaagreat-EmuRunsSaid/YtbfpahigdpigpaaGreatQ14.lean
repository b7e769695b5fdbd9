import Derived.Test.YtbfpahigdpigpaaGreatQ08
import Derived.Test.YtbfpahigdpigpaaGreatQ11
import Derived.Test.YtbfpahigdpigpaaGreatQ12
import Derived.Test.YtbfpahigdpigpaaGreatQ13
open List renaming replicate→Z7
open Go.Proofs.Tryz renaming prog→Z9
open And renaming intro→aaj
open True renaming intro→aaz
open Go renaming IntKind→abz
/- Contracts and plain laws that a statement's proof leans on (texts merged:XR2c,XR2d,XR2e,XR2f,XRB,XRBy,ZR5,R1a,R1b,R1c,R1d,ZEe). -/
set_option linter.unusedVariables false
set_option linter.unusedSimpArgs false
set_option maxRecDepth 100000
set_option maxHeartbeats 8000000
namespace Go.Proofs.YtbfpahigdpigpaaGreat
open Go Go.Ev
def kI (Ua:Int):Prop:= ∀(w ab ae aa af aj cc:Int) (d0:0≤ab) (d1:ab≤15) (s0:0≤ae) (s1:ae≤15) (b0:0≤aa) (b1:aa≤15) (p0: -2147483648≤af) (p1:af≤2147483647) (i0: -2147483648≤aj) (i1:aj≤2147483647) (c0:0≤cc) (c1:cc≤15) (hm:bC Ua w ab ae aa af aj cc=true),aP Z9 42 ([xD Ua w ab ae aa af aj cc]) (.aL [aZ 1 (bD (aD Ua w ab ae aa af aj cc)),av 0])
theorem xw:kI 17:=by
 intro w ab ae aa af aj cc d0 d1 s0 s1 b0 b1 p0 p1 i0 i1 c0 c1 hm
 have c0:= @a8 17 w ab ae aa af aj cc
 rw [hm] at c0
 have c1:= @aG 17
 have c2:= @aG 17
 have c3:= @aG 17
 let E1:EL:=([aw c0,tF,aO]++Z7 12 tF++ [tT,tT,tF,aw c1,tF,tF,aw c2,tF,aw c3,tT])
 rcases cf (bP (w==64) 0 ab false) with h4|h4
 ·have c5:= @dF 0 ab (by decide) (by decide) d0 d1 (w==64) false h4
  generalize g7:cV (w==64) 0 ab=r6 at c5
  have c8:= @bh 4 ab (by decide) (by decide) d0 d1
  generalize g10:bk 4 ab=r9 at c8
  exact (gj (d:= .aL [.aY (.fresh 1) 1 [aC r6,aC 193,aC r9,aC (abz.wrap abz.u8 aj)],av 0]) (E1++ [aw c5,aw c8,bH 4])).to (by clear E1;(subst_vars;(try simp only [aV] at*);(try simp only [cz] at h);(try simp only [bS,cI] at*);simp_all [wk,bf,cB,aD,show aA 17=4 from rfl,bD,bl,bq,aW,bo,ba,bI];done))
 have Uz:= @cU 0 ab (by decide) (by decide) d0 d1 (w==64) false h4
 have Uc:= @bh 4 ab (by decide) (by decide) d0 d1
 generalize g14:bk 4 ab=Vc at Uc
 exact (gj (d:= .aL [.aY (.fresh 1) 1 [aC 193,aC Vc,aC (abz.wrap abz.u8 aj)],av 0]) (E1++ [aw Uz,aw Uc,bH 3])).to (by clear E1;(subst_vars;(try simp only [aV] at*);(try simp only [cz] at h);(try simp only [bS,cI] at*);simp_all [wk,bf,cB,aD,show aA 17=4 from rfl,bD,bl,bq,aW,bo,ba,bI];done))
theorem xv:kI 18:=by
 intro w ab ae aa af aj cc d0 d1 s0 s1 b0 b1 p0 p1 i0 i1 c0 c1 hm
 have c0:= @a8 18 w ab ae aa af aj cc
 rw [hm] at c0
 have c1:= @aG 18
 have c2:= @aG 18
 have c3:= @aG 18
 let E1:EL:=([aw c0,tF,aO]++Z7 15 tF++ [tT,tT,tF,aw c1,tF,tF,aw c2,tF,aw c3,tT])
 rcases cf (bP (w==64) 0 ab false) with h4|h4
 ·have c5:= @dF 0 ab (by decide) (by decide) d0 d1 (w==64) false h4
  generalize g7:cV (w==64) 0 ab=r6 at c5
  have c8:= @bh 5 ab (by decide) (by decide) d0 d1
  generalize g10:bk 5 ab=r9 at c8
  exact (gj (d:= .aL [.aY (.fresh 1) 1 [aC r6,aC 193,aC r9,aC (abz.wrap abz.u8 aj)],av 0]) (E1++ [aw c5,aw c8,bH 4])).to (by clear E1;(subst_vars;(try simp only [aV] at*);(try simp only [cz] at h);(try simp only [bS,cI] at*);simp_all [wk,bf,cB,aD,show aA 18=4 from rfl,bD,bl,bq,aW,bo,ba,bI];done))
 have Uz:= @cU 0 ab (by decide) (by decide) d0 d1 (w==64) false h4
 have Uc:= @bh 5 ab (by decide) (by decide) d0 d1
 generalize g14:bk 5 ab=Vc at Uc
 exact (gj (d:= .aL [.aY (.fresh 1) 1 [aC 193,aC Vc,aC (abz.wrap abz.u8 aj)],av 0]) (E1++ [aw Uz,aw Uc,bH 3])).to (by clear E1;(subst_vars;(try simp only [aV] at*);(try simp only [cz] at h);(try simp only [bS,cI] at*);simp_all [wk,bf,cB,aD,show aA 18=4 from rfl,bD,bl,bq,aW,bo,ba,bI];done))
theorem xu:kI 19:=by
 intro w ab ae aa af aj cc d0 d1 s0 s1 b0 b1 p0 p1 i0 i1 c0 c1 hm
 have c0:= @a8 19 w ab ae aa af aj cc
 rw [hm] at c0
 have c1:= @aG 19
 have c2:= @aG 19
 have c3:= @aG 19
 let E1:EL:=([aw c0,tF,aO]++Z7 20 tF++ [tT,tT,tF,aw c1,tF,tF,aw c2,tF,aw c3,tT])
 rcases cf (bP (w==64) 0 ab false) with h4|h4
 ·have c5:= @dF 0 ab (by decide) (by decide) d0 d1 (w==64) false h4
  generalize g7:cV (w==64) 0 ab=r6 at c5
  have c8:= @bh 7 ab (by decide) (by decide) d0 d1
  generalize g10:bk 7 ab=r9 at c8
  exact (gj (d:= .aL [.aY (.fresh 1) 1 [aC r6,aC 193,aC r9,aC (abz.wrap abz.u8 aj)],av 0]) (E1++ [aw c5,aw c8,bH 4])).to (by clear E1;(subst_vars;(try simp only [aV] at*);(try simp only [cz] at h);(try simp only [bS,cI] at*);simp_all [wk,bf,cB,aD,show aA 19=4 from rfl,bD,bl,bq,aW,bo,ba,bI];done))
 have Uz:= @cU 0 ab (by decide) (by decide) d0 d1 (w==64) false h4
 have Uc:= @bh 7 ab (by decide) (by decide) d0 d1
 generalize g14:bk 7 ab=Vc at Uc
 exact (gj (d:= .aL [.aY (.fresh 1) 1 [aC 193,aC Vc,aC (abz.wrap abz.u8 aj)],av 0]) (E1++ [aw Uz,aw Uc,bH 3])).to (by clear E1;(subst_vars;(try simp only [aV] at*);(try simp only [cz] at h);(try simp only [bS,cI] at*);simp_all [wk,bf,cB,aD,show aA 19=4 from rfl,bD,bl,bq,aW,bo,ba,bI];done))
theorem xr:kI 20:=by
 intro w ab ae aa af aj cc d0 d1 s0 s1 b0 b1 p0 p1 i0 i1 c0 c1 hm
 have c0:= @a8 20 w ab ae aa af aj cc
 rw [hm] at c0
 have c1:= @aG 20
 have c2:= @aG 20
 have c3:= @aG 20
 have c4:= @aG 20
 let E1:EL:=([aw c0,tF,aO]++Z7 13 tF++ [tT,tF,aw c1,tF,tF,aw c2,tF,aw c3,tF,aw c4,tT])
 rcases cf (bP (w==64) 0 ab false) with h5|h5
 ·have c6:= @dF 0 ab (by decide) (by decide) d0 d1 (w==64) false h5
  generalize g8:cV (w==64) 0 ab=r7 at c6
  have c9:= @bh 4 ab (by decide) (by decide) d0 d1
  generalize g11:bk 4 ab=UC at c9
  exact (gj (d:= .aL [.aY (.fresh 1) 1 [aC r7,aC 211,aC UC],av 0]) (E1++ [aw c6,tT,tT,tT,tF,tF,aw c9,bH 3])).to (by clear E1;(subst_vars;(try simp only [aV] at*);(try simp only [cz] at h);(try simp only [bS,cI] at*);simp_all [wk,bf,cB,aD,show aA 20=5 from rfl,bD,bl,bq,aW,bo,ba,bI];done))
 have Uc:= @cU 0 ab (by decide) (by decide) d0 d1 (w==64) false h5
 have Uh:= @bh 4 ab (by decide) (by decide) d0 d1
 generalize g15:bk 4 ab=UD at Uh
 exact (gj (d:= .aL [.aY (.fresh 1) 1 [aC 211,aC UD],av 0]) (E1++ [aw Uc,tT,tT,tT,tF,tF,aw Uh,bH 2])).to (by clear E1;(subst_vars;(try simp only [aV] at*);(try simp only [cz] at h);(try simp only [bS,cI] at*);simp_all [wk,bf,cB,aD,show aA 20=5 from rfl,bD,bl,bq,aW,bo,ba,bI];done))
theorem xq:kI 21:=by
 intro w ab ae aa af aj cc d0 d1 s0 s1 b0 b1 p0 p1 i0 i1 c0 c1 hm
 have c0:= @a8 21 w ab ae aa af aj cc
 rw [hm] at c0
 have c1:= @aG 21
 have c2:= @aG 21
 have c3:= @aG 21
 have c4:= @aG 21
 let E1:EL:=([aw c0,tF,aO]++Z7 16 tF++ [tT,tF,aw c1,tF,tF,aw c2,tF,aw c3,tF,aw c4,tT])
 rcases cf (bP (w==64) 0 ab false) with h5|h5
 ·have c6:= @dF 0 ab (by decide) (by decide) d0 d1 (w==64) false h5
  generalize g8:cV (w==64) 0 ab=r7 at c6
  have c9:= @bh 5 ab (by decide) (by decide) d0 d1
  generalize g11:bk 5 ab=UC at c9
  exact (gj (d:= .aL [.aY (.fresh 1) 1 [aC r7,aC 211,aC UC],av 0]) (E1++ [aw c6,tT,tT,tT,tF,tF,aw c9,bH 3])).to (by clear E1;(subst_vars;(try simp only [aV] at*);(try simp only [cz] at h);(try simp only [bS,cI] at*);simp_all [wk,bf,cB,aD,show aA 21=5 from rfl,bD,bl,bq,aW,bo,ba,bI];done))
 have Uc:= @cU 0 ab (by decide) (by decide) d0 d1 (w==64) false h5
 have Uh:= @bh 5 ab (by decide) (by decide) d0 d1
 generalize g15:bk 5 ab=UD at Uh
 exact (gj (d:= .aL [.aY (.fresh 1) 1 [aC 211,aC UD],av 0]) (E1++ [aw Uc,tT,tT,tT,tF,tF,aw Uh,bH 2])).to (by clear E1;(subst_vars;(try simp only [aV] at*);(try simp only [cz] at h);(try simp only [bS,cI] at*);simp_all [wk,bf,cB,aD,show aA 21=5 from rfl,bD,bl,bq,aW,bo,ba,bI];done))
theorem xp:kI 22:=by
 intro w ab ae aa af aj cc d0 d1 s0 s1 b0 b1 p0 p1 i0 i1 c0 c1 hm
 have c0:= @a8 22 w ab ae aa af aj cc
 rw [hm] at c0
 have c1:= @aG 22
 have c2:= @aG 22
 have c3:= @aG 22
 have c4:= @aG 22
 let E1:EL:=([aw c0,tF,aO]++Z7 21 tF++ [tT,tF,aw c1,tF,tF,aw c2,tF,aw c3,tF,aw c4,tT])
 rcases cf (bP (w==64) 0 ab false) with h5|h5
 ·have c6:= @dF 0 ab (by decide) (by decide) d0 d1 (w==64) false h5
  generalize g8:cV (w==64) 0 ab=r7 at c6
  have c9:= @bh 7 ab (by decide) (by decide) d0 d1
  generalize g11:bk 7 ab=UC at c9
  exact (gj (d:= .aL [.aY (.fresh 1) 1 [aC r7,aC 211,aC UC],av 0]) (E1++ [aw c6,tT,tT,tT,tF,tF,aw c9,bH 3])).to (by clear E1;(subst_vars;(try simp only [aV] at*);(try simp only [cz] at h);(try simp only [bS,cI] at*);simp_all [wk,bf,cB,aD,show aA 22=5 from rfl,bD,bl,bq,aW,bo,ba,bI];done))
 have Uc:= @cU 0 ab (by decide) (by decide) d0 d1 (w==64) false h5
 have Uh:= @bh 7 ab (by decide) (by decide) d0 d1
 generalize g15:bk 7 ab=UD at Uh
 exact (gj (d:= .aL [.aY (.fresh 1) 1 [aC 211,aC UD],av 0]) (E1++ [aw Uc,tT,tT,tT,tF,tF,aw Uh,bH 2])).to (by clear E1;(subst_vars;(try simp only [aV] at*);(try simp only [cz] at h);(try simp only [bS,cI] at*);simp_all [wk,bf,cB,aD,show aA 22=5 from rfl,bD,bl,bq,aW,bo,ba,bI];done))
theorem xo:kI 23:=by
 intro w ab ae aa af aj cc d0 d1 s0 s1 b0 b1 p0 p1 i0 i1 c0 c1 hm
 have c0:= @a8 23 w ab ae aa af aj cc
 rw [hm] at c0
 have c1:= @aG 23
 have c2:= @aG 23
 have c3:= @aG 23
 have c4:= @aG 23
 let E1:EL:=([aw c0,tF,aO]++Z7 22 tF++ [tT,tF,aw c1,tF,tF,aw c2,tF,aw c3,tF,aw c4,tT])
 rcases cf (bP (w==64) 0 ab false) with h5|h5
 ·have c6:= @dF 0 ab (by decide) (by decide) d0 d1 (w==64) false h5
  generalize g8:cV (w==64) 0 ab=r7 at c6
  have c9:= @bh 3 ab (by decide) (by decide) d0 d1
  generalize g11:bk 3 ab=UC at c9
  exact (gj (d:= .aL [.aY (.fresh 1) 1 [aC r7,aC 247,aC UC],av 0]) (E1++ [aw c6,tF,tF,tF,tT,tT,aw c9,bH 3])).to (by clear E1;(subst_vars;(try simp only [aV] at*);(try simp only [cz] at h);(try simp only [bS,cI] at*);simp_all [wk,bf,cB,aD,show aA 23=5 from rfl,bD,bl,bq,aW,bo,ba,bI];done))
 have Uc:= @cU 0 ab (by decide) (by decide) d0 d1 (w==64) false h5
 have Uh:= @bh 3 ab (by decide) (by decide) d0 d1
 generalize g15:bk 3 ab=UD at Uh
 exact (gj (d:= .aL [.aY (.fresh 1) 1 [aC 247,aC UD],av 0]) (E1++ [aw Uc,tF,tF,tF,tT,tT,aw Uh,bH 2])).to (by clear E1;(subst_vars;(try simp only [aV] at*);(try simp only [cz] at h);(try simp only [bS,cI] at*);simp_all [wk,bf,cB,aD,show aA 23=5 from rfl,bD,bl,bq,aW,bo,ba,bI];done))
theorem xn:kI 24:=by
 intro w ab ae aa af aj cc d0 d1 s0 s1 b0 b1 p0 p1 i0 i1 c0 c1 hm
 have c0:= @a8 24 w ab ae aa af aj cc
 rw [hm] at c0
 have c1:= @aG 24
 have c2:= @aG 24
 have c3:= @aG 24
 have c4:= @aG 24
 let E1:EL:=([aw c0,tF,aO]++Z7 18 tF++ [tT,tF,aw c1,tF,tF,aw c2,tF,aw c3,tF,aw c4,tT])
 rcases cf (bP (w==64) 0 ab false) with h5|h5
 ·have c6:= @dF 0 ab (by decide) (by decide) d0 d1 (w==64) false h5
  generalize g8:cV (w==64) 0 ab=r7 at c6
  have c9:= @bh 6 ab (by decide) (by decide) d0 d1
  generalize g11:bk 6 ab=UC at c9
  exact (gj (d:= .aL [.aY (.fresh 1) 1 [aC r7,aC 247,aC UC],av 0]) (E1++ [aw c6,tT,tT,tT,tF,tT,aw c9,bH 3])).to (by clear E1;(subst_vars;(try simp only [aV] at*);(try simp only [cz] at h);(try simp only [bS,cI] at*);simp_all [wk,bf,cB,aD,show aA 24=5 from rfl,bD,bl,bq,aW,bo,ba,bI];done))
 have Uc:= @cU 0 ab (by decide) (by decide) d0 d1 (w==64) false h5
 have Uh:= @bh 6 ab (by decide) (by decide) d0 d1
 generalize g15:bk 6 ab=UD at Uh
 exact (gj (d:= .aL [.aY (.fresh 1) 1 [aC 247,aC UD],av 0]) (E1++ [aw Uc,tT,tT,tT,tF,tT,aw Uh,bH 2])).to (by clear E1;(subst_vars;(try simp only [aV] at*);(try simp only [cz] at h);(try simp only [bS,cI] at*);simp_all [wk,bf,cB,aD,show aA 24=5 from rfl,bD,bl,bq,aW,bo,ba,bI];done))
theorem xl (w ab ae aa af aj cc:Int) (d0:0≤ab) (d1:ab≤15) (s0:0≤ae) (s1:ae≤15) (b0:0≤aa) (b1:aa≤15) (p0: -2147483648≤af) (p1:af≤2147483647) (i0: -2147483648≤aj) (i1:aj≤2147483647) (c0:0≤cc) (c1:cc≤15) (hm:bC 26 w ab ae aa af aj cc=true):aP Z9 42 ([xD 26 w ab ae aa af aj cc]) (.aL [aZ 1 (bD (aD 26 w ab ae aa af aj cc)),av 0]):=by
 have c0:= @a8 26 w ab ae aa af aj cc
 rw [hm] at c0
 have c1:= @aG 26
 have c2:= @aG 26
 have c3:= @aG 26
 have c4:= @aG 26
 let E1:EL:=([aw c0,tF,aO]++Z7 24 tF++ [aw c1,tF,tF,aw c2,tF,aw c3,tF,aw c4,tF,tF,tT])
 rcases cf (bP (w==64) ab aa false) with h5|h5
 ·have c6:= @dF ab aa d0 d1 b0 b1 (w==64) false h5
  generalize g8:cV (w==64) ab aa=r7 at c6
  let E2:EL:=E1++ [aw c6]
  by_cases h9:w=8
  ·subst h9
   let E3:EL:=E2++ [tT,bH 3]
   rcases cf (decide (aa%8=4)) with Vo|Vo
   ·have Uz:= @gN ab aa af d0 d1 b0 b1 p0 p1 Vo
    exact (gj (d:= .aL [.aY (.fresh 1) 1 [aC r7,aC 15,aC 182,aC (128+8*(ab%8)+aa%8),aC 36,aC (af%256),aC (af / 256%256),aC (af / 65536%256),aC (af / 16777216%256)],av 0]) (E3++ [aw Uz,bH 9])).to (by clear E1 E2 E3;(subst_vars;(try simp only [aV] at*);(try simp only [cz] at h);(try simp only [bS,cI] at*);simp_all [wk,bf,cB,aD,show aA 26=7 from rfl,bD,bl,bq,aW,bo,aN];done))
   have Uc:= @gM ab aa af d0 d1 b0 b1 p0 p1 Vo
   exact (gj (d:= .aL [.aY (.fresh 1) 1 [aC r7,aC 15,aC 182,aC (128+8*(ab%8)+aa%8),aC (af%256),aC (af / 256%256),aC (af / 65536%256),aC (af / 16777216%256)],av 0]) (E3++ [aw Uc,bH 8])).to (by clear E1 E2 E3;(subst_vars;(try simp only [aV] at*);(try simp only [cz] at h);(try simp only [bS,cI] at*);simp_all [wk,bf,cB,aD,show aA 26=7 from rfl,bD,bl,bq,aW,bo,aN];done))
  by_cases h13:w=16
  ·subst h13
   let E4:EL:=E2++ [tC (bc h9),tT,bH 3]
   rcases cf (decide (aa%8=4)) with h14|h14
   ·have U5:= @gN ab aa af d0 d1 b0 b1 p0 p1 h14
    exact (gj (d:= .aL [.aY (.fresh 1) 1 [aC r7,aC 15,aC 183,aC (128+8*(ab%8)+aa%8),aC 36,aC (af%256),aC (af / 256%256),aC (af / 65536%256),aC (af / 16777216%256)],av 0]) (E4++ [aw U5,bH 9])).to (by clear E1 E2 E4;(subst_vars;(try simp only [aV] at*);(try simp only [cz] at h);(try simp only [bS,cI] at*);simp_all [wk,bf,cB,aD,show aA 26=7 from rfl,bD,bl,bq,aW,bo,aN];done))
   have Ui:= @gM ab aa af d0 d1 b0 b1 p0 p1 h14
   exact (gj (d:= .aL [.aY (.fresh 1) 1 [aC r7,aC 15,aC 183,aC (128+8*(ab%8)+aa%8),aC (af%256),aC (af / 256%256),aC (af / 65536%256),aC (af / 16777216%256)],av 0]) (E4++ [aw Ui,bH 8])).to (by clear E1 E2 E4;(subst_vars;(try simp only [aV] at*);(try simp only [cz] at h);(try simp only [bS,cI] at*);simp_all [wk,bf,cB,aD,show aA 26=7 from rfl,bD,bl,bq,aW,bo,aN];done))
  let E5:EL:=E2++ [tC (bc h9),tC (bc h13),bH 2]
  rcases cf (decide (aa%8=4)) with h17|h17
  ·have Xd:= @gN ab aa af d0 d1 b0 b1 p0 p1 h17
   exact (gj (d:= .aL [.aY (.fresh 1) 1 [aC r7,aC 139,aC (128+8*(ab%8)+aa%8),aC 36,aC (af%256),aC (af / 256%256),aC (af / 65536%256),aC (af / 16777216%256)],av 0]) (E5++ [aw Xd,bH 8])).to (by clear E1 E2 E5;(subst_vars;(try simp only [aV] at*);(try simp only [cz] at h);(try simp only [bS,cI] at*);simp_all [wk,bf,cB,aD,show aA 26=7 from rfl,bD,bl,bq,aW,bo,aN];done))
  have U6:= @gM ab aa af d0 d1 b0 b1 p0 p1 h17
  exact (gj (d:= .aL [.aY (.fresh 1) 1 [aC r7,aC 139,aC (128+8*(ab%8)+aa%8),aC (af%256),aC (af / 256%256),aC (af / 65536%256),aC (af / 16777216%256)],av 0]) (E5++ [aw U6,bH 7])).to (by clear E1 E2 E5;(subst_vars;(try simp only [aV] at*);(try simp only [cz] at h);(try simp only [bS,cI] at*);simp_all [wk,bf,cB,aD,show aA 26=7 from rfl,bD,bl,bq,aW,bo,aN];done))
 have XD:= @cU ab aa d0 d1 b0 b1 (w==64) false h5
 let E6:EL:=E1++ [aw XD]
 by_cases h21:w=8
 ·subst h21
  let E7:EL:=E6++ [tT,bH 2]
  rcases cf (decide (aa%8=4)) with h22|h22
  ·have Vb:= @gN ab aa af d0 d1 b0 b1 p0 p1 h22
   exact (gj (d:= .aL [.aY (.fresh 1) 1 [aC 15,aC 182,aC (128+8*(ab%8)+aa%8),aC 36,aC (af%256),aC (af / 256%256),aC (af / 65536%256),aC (af / 16777216%256)],av 0]) (E7++ [aw Vb,bH 8])).to (by clear E1 E6 E7;(subst_vars;(try simp only [aV] at*);(try simp only [cz] at h);(try simp only [bS,cI] at*);simp_all [wk,bf,cB,aD,show aA 26=7 from rfl,bD,bl,bq,aW,bo,aN];done))
  have Vg:= @gM ab aa af d0 d1 b0 b1 p0 p1 h22
  exact (gj (d:= .aL [.aY (.fresh 1) 1 [aC 15,aC 182,aC (128+8*(ab%8)+aa%8),aC (af%256),aC (af / 256%256),aC (af / 65536%256),aC (af / 16777216%256)],av 0]) (E7++ [aw Vg,bH 7])).to (by clear E1 E6 E7;(subst_vars;(try simp only [aV] at*);(try simp only [cz] at h);(try simp only [bS,cI] at*);simp_all [wk,bf,cB,aD,show aA 26=7 from rfl,bD,bl,bq,aW,bo,aN];done))
 by_cases h25:w=16
 ·subst h25
  let E8:EL:=E6++ [tC (bc h21),tT,bH 2]
  rcases cf (decide (aa%8=4)) with h26|h26
  ·have UR:= @gN ab aa af d0 d1 b0 b1 p0 p1 h26
   exact (gj (d:= .aL [.aY (.fresh 1) 1 [aC 15,aC 183,aC (128+8*(ab%8)+aa%8),aC 36,aC (af%256),aC (af / 256%256),aC (af / 65536%256),aC (af / 16777216%256)],av 0]) (E8++ [aw UR,bH 8])).to (by clear E1 E6 E8;(subst_vars;(try simp only [aV] at*);(try simp only [cz] at h);(try simp only [bS,cI] at*);simp_all [wk,bf,cB,aD,show aA 26=7 from rfl,bD,bl,bq,aW,bo,aN];done))
  have XX:= @gM ab aa af d0 d1 b0 b1 p0 p1 h26
  exact (gj (d:= .aL [.aY (.fresh 1) 1 [aC 15,aC 183,aC (128+8*(ab%8)+aa%8),aC (af%256),aC (af / 256%256),aC (af / 65536%256),aC (af / 16777216%256)],av 0]) (E8++ [aw XX,bH 7])).to (by clear E1 E6 E8;(subst_vars;(try simp only [aV] at*);(try simp only [cz] at h);(try simp only [bS,cI] at*);simp_all [wk,bf,cB,aD,show aA 26=7 from rfl,bD,bl,bq,aW,bo,aN];done))
 let E9:EL:=E6++ [tC (bc h21),tC (bc h25),bH 1]
 rcases cf (decide (aa%8=4)) with h29|h29
 ·have VC:= @gN ab aa af d0 d1 b0 b1 p0 p1 h29
  exact (gj (d:= .aL [.aY (.fresh 1) 1 [aC 139,aC (128+8*(ab%8)+aa%8),aC 36,aC (af%256),aC (af / 256%256),aC (af / 65536%256),aC (af / 16777216%256)],av 0]) (E9++ [aw VC,bH 7])).to (by clear E1 E6 E9;(subst_vars;(try simp only [aV] at*);(try simp only [cz] at h);(try simp only [bS,cI] at*);simp_all [wk,bf,cB,aD,show aA 26=7 from rfl,bD,bl,bq,aW,bo,aN];done))
 have Vy:= @gM ab aa af d0 d1 b0 b1 p0 p1 h29
 exact (gj (d:= .aL [.aY (.fresh 1) 1 [aC 139,aC (128+8*(ab%8)+aa%8),aC (af%256),aC (af / 256%256),aC (af / 65536%256),aC (af / 16777216%256)],av 0]) (E9++ [aw Vy,bH 6])).to (by clear E1 E6 E9;(subst_vars;(try simp only [aV] at*);(try simp only [cz] at h);(try simp only [bS,cI] at*);simp_all [wk,bf,cB,aD,show aA 26=7 from rfl,bD,bl,bq,aW,bo,aN];done))
theorem xk (w ab ae aa af aj cc:Int) (d0:0≤ab) (d1:ab≤15) (s0:0≤ae) (s1:ae≤15) (b0:0≤aa) (b1:aa≤15) (p0: -2147483648≤af) (p1:af≤2147483647) (i0: -2147483648≤aj) (i1:aj≤2147483647) (c0:0≤cc) (c1:cc≤15) (hm:bC 27 w ab ae aa af aj cc=true):aP Z9 42 ([xD 27 w ab ae aa af aj cc]) (.aL [aZ 1 (bD (aD 27 w ab ae aa af aj cc)),av 0]):=by
 have c0:= @a8 27 w ab ae aa af aj cc
 rw [hm] at c0
 have c1:= @aG 27
 have c2:= @aG 27
 have c3:= @aG 27
 have c4:= @aG 27
 let E1:EL:=([aw c0,tF,aO]++Z7 24 tF++ [aw c1,tF,tF,aw c2,tF,aw c3,tF,aw c4,tF,tF,tF,tT])
 by_cases h5:w=16
 ·subst h5
  let E2:EL:=E1++ [tT,bH 1]
  rcases cf (bP false ae aa false) with h6|h6
  ·have c7:= @dF ae aa s0 s1 b0 b1 false false h6
   generalize g9:cV false ae aa=r8 at c7
   let E3:EL:=E2++ [aw c7,bH 2,tF,bH 3]
   rcases cf (decide (aa%8=4)) with Vo|Vo
   ·have Uz:= @gN ae aa af s0 s1 b0 b1 p0 p1 Vo
    exact (gj (d:= .aL [.aY (.fresh (1:Nat)) (1:Nat) [aC 102,aC r8,aC 137,aC (128+8*(ae%8)+aa%8),aC 36,aC (af%256),aC (af / 256%256),aC (af / 65536%256),aC (af / 16777216%256)],av 0]) (E3++ [aw Uz,bH 9])).to (by clear E1 E2 E3;((try simp only [gv]);subst_vars;(try simp only [aV] at*);(try simp only [cz] at h);(try simp only [bS,cI] at*);simp_all [wk,bf,cB,aD,show aA 27=8 from rfl,bD,bl,bq,aW,bo,aN,dk];done))
   have Uc:= @gM ae aa af s0 s1 b0 b1 p0 p1 Vo
   exact (gj (d:= .aL [.aY (.fresh (1:Nat)) (1:Nat) [aC 102,aC r8,aC 137,aC (128+8*(ae%8)+aa%8),aC (af%256),aC (af / 256%256),aC (af / 65536%256),aC (af / 16777216%256)],av 0]) (E3++ [aw Uc,bH 8])).to (by clear E1 E2 E3;((try simp only [gv]);subst_vars;(try simp only [aV] at*);(try simp only [cz] at h);(try simp only [bS,cI] at*);simp_all [wk,bf,cB,aD,show aA 27=8 from rfl,bD,bl,bq,aW,bo,aN,dk];done))
  have Uh:= @cU ae aa s0 s1 b0 b1 false false h6
  let E4:EL:=E2++ [aw Uh,bH 1,tF,bH 2]
  rcases cf (decide (aa%8=4)) with h14|h14
  ·have U5:= @gN ae aa af s0 s1 b0 b1 p0 p1 h14
   exact (gj (d:= .aL [.aY (.fresh (1:Nat)) (1:Nat) [aC 102,aC 137,aC (128+8*(ae%8)+aa%8),aC 36,aC (af%256),aC (af / 256%256),aC (af / 65536%256),aC (af / 16777216%256)],av 0]) (E4++ [aw U5,bH 8])).to (by clear E1 E2 E4;((try simp only [gv]);subst_vars;(try simp only [aV] at*);(try simp only [cz] at h);(try simp only [bS,cI] at*);simp_all [wk,bf,cB,aD,show aA 27=8 from rfl,bD,bl,bq,aW,bo,aN,dk];done))
  have Ui:= @gM ae aa af s0 s1 b0 b1 p0 p1 h14
  exact (gj (d:= .aL [.aY (.fresh (1:Nat)) (1:Nat) [aC 102,aC 137,aC (128+8*(ae%8)+aa%8),aC (af%256),aC (af / 256%256),aC (af / 65536%256),aC (af / 16777216%256)],av 0]) (E4++ [aw Ui,bH 7])).to (by clear E1 E2 E4;((try simp only [gv]);subst_vars;(try simp only [aV] at*);(try simp only [cz] at h);(try simp only [bS,cI] at*);simp_all [wk,bf,cB,aD,show aA 27=8 from rfl,bD,bl,bq,aW,bo,aN,dk];done))
 let E5:EL:=E1++ [tC (bc h5)]
 rcases cf (bP (w==64) ae aa (w==8)) with h17|h17
 ·have Xd:= @dF ae aa s0 s1 b0 b1 (w==64) (w==8) h17
  generalize g20:cV (w==64) ae aa=r19 at Xd
  let E6:EL:=E5++ [aw Xd,bH 1]
  by_cases h21:w=8
  ·subst h21
   let E7:EL:=E6++ [tT,bH 2]
   rcases cf (decide (aa%8=4)) with h22|h22
   ·have Vb:= @gN ae aa af s0 s1 b0 b1 p0 p1 h22
    exact (gj (d:= .aL [.aY (.fresh (1:Nat)) (1:Nat) [aC r19,aC 136,aC (128+8*(ae%8)+aa%8),aC 36,aC (af%256),aC (af / 256%256),aC (af / 65536%256),aC (af / 16777216%256)],av 0]) (E7++ [aw Vb,bH 8])).to (by clear E1 E5 E6 E7;((try simp only [gv]);subst_vars;(try simp only [aV] at*);(try simp only [cz] at h);(try simp only [bS,cI] at*);simp_all [wk,bf,cB,aD,show aA 27=8 from rfl,bD,bl,bq,aW,bo,aN,dk];done))
   have Vg:= @gM ae aa af s0 s1 b0 b1 p0 p1 h22
   exact (gj (d:= .aL [.aY (.fresh (1:Nat)) (1:Nat) [aC r19,aC 136,aC (128+8*(ae%8)+aa%8),aC (af%256),aC (af / 256%256),aC (af / 65536%256),aC (af / 16777216%256)],av 0]) (E7++ [aw Vg,bH 7])).to (by clear E1 E5 E6 E7;((try simp only [gv]);subst_vars;(try simp only [aV] at*);(try simp only [cz] at h);(try simp only [bS,cI] at*);simp_all [wk,bf,cB,aD,show aA 27=8 from rfl,bD,bl,bq,aW,bo,aN,dk];done))
  let E8:EL:=E6++ [tC (bc h21),bH 2]
  rcases cf (decide (aa%8=4)) with h25|h25
  ·have Vv:= @gN ae aa af s0 s1 b0 b1 p0 p1 h25
   exact (gj (d:= .aL [.aY (.fresh (1:Nat)) (1:Nat) [aC r19,aC 137,aC (128+8*(ae%8)+aa%8),aC 36,aC (af%256),aC (af / 256%256),aC (af / 65536%256),aC (af / 16777216%256)],av 0]) (E8++ [aw Vv,bH 8])).to (by clear E1 E5 E6 E8;((try simp only [gv]);subst_vars;(try simp only [aV] at*);(try simp only [cz] at h);(try simp only [bS,cI] at*);simp_all [wk,bf,cB,aD,show aA 27=8 from rfl,bD,bl,bq,aW,bo,aN,dk];done))
  have UR:= @gM ae aa af s0 s1 b0 b1 p0 p1 h25
  exact (gj (d:= .aL [.aY (.fresh (1:Nat)) (1:Nat) [aC r19,aC 137,aC (128+8*(ae%8)+aa%8),aC (af%256),aC (af / 256%256),aC (af / 65536%256),aC (af / 16777216%256)],av 0]) (E8++ [aw UR,bH 7])).to (by clear E1 E5 E6 E8;((try simp only [gv]);subst_vars;(try simp only [aV] at*);(try simp only [cz] at h);(try simp only [bS,cI] at*);simp_all [wk,bf,cB,aD,show aA 27=8 from rfl,bD,bl,bq,aW,bo,aN,dk];done))
 have XX:= @cU ae aa s0 s1 b0 b1 (w==64) (w==8) h17
 let E9:EL:=E5++ [aw XX,bH 0]
 by_cases h29:w=8
 ·subst h29
  let E10:EL:=E9++ [tT,bH 1]
  rcases cf (decide (aa%8=4)) with h30|h30
  ·have Vy:= @gN ae aa af s0 s1 b0 b1 p0 p1 h30
   exact (gj (d:= .aL [.aY (.fresh (1:Nat)) (1:Nat) [aC 136,aC (128+8*(ae%8)+aa%8),aC 36,aC (af%256),aC (af / 256%256),aC (af / 65536%256),aC (af / 16777216%256)],av 0]) (E10++ [aw Vy,bH 7])).to (by clear E1 E5 E9 E10;((try simp only [gv]);subst_vars;(try simp only [aV] at*);(try simp only [cz] at h);(try simp only [bS,cI] at*);simp_all [wk,bf,cB,aD,show aA 27=8 from rfl,bD,bl,bq,aW,bo,aN,dk];done))
  have Y0:= @gM ae aa af s0 s1 b0 b1 p0 p1 h30
  exact (gj (d:= .aL [.aY (.fresh (1:Nat)) (1:Nat) [aC 136,aC (128+8*(ae%8)+aa%8),aC (af%256),aC (af / 256%256),aC (af / 65536%256),aC (af / 16777216%256)],av 0]) (E10++ [aw Y0,bH 6])).to (by clear E1 E5 E9 E10;((try simp only [gv]);subst_vars;(try simp only [aV] at*);(try simp only [cz] at h);(try simp only [bS,cI] at*);simp_all [wk,bf,cB,aD,show aA 27=8 from rfl,bD,bl,bq,aW,bo,aN,dk];done))
 let E11:EL:=E9++ [tC (bc h29),bH 1]
 rcases cf (decide (aa%8=4)) with h33|h33
 ·have Y1:= @gN ae aa af s0 s1 b0 b1 p0 p1 h33
  exact (gj (d:= .aL [.aY (.fresh (1:Nat)) (1:Nat) [aC 137,aC (128+8*(ae%8)+aa%8),aC 36,aC (af%256),aC (af / 256%256),aC (af / 65536%256),aC (af / 16777216%256)],av 0]) (E11++ [aw Y1,bH 7])).to (by clear E1 E5 E9 E11;((try simp only [gv]);subst_vars;(try simp only [aV] at*);(try simp only [cz] at h);(try simp only [bS,cI] at*);simp_all [wk,bf,cB,aD,show aA 27=8 from rfl,bD,bl,bq,aW,bo,aN,dk];done))
 have ZD:= @gM ae aa af s0 s1 b0 b1 p0 p1 h33
 exact (gj (d:= .aL [.aY (.fresh (1:Nat)) (1:Nat) [aC 137,aC (128+8*(ae%8)+aa%8),aC (af%256),aC (af / 256%256),aC (af / 65536%256),aC (af / 16777216%256)],av 0]) (E11++ [aw ZD,bH 6])).to (by clear E1 E5 E9 E11;((try simp only [gv]);subst_vars;(try simp only [aV] at*);(try simp only [cz] at h);(try simp only [bS,cI] at*);simp_all [wk,bf,cB,aD,show aA 27=8 from rfl,bD,bl,bq,aW,bo,aN,dk];done))
def rH (Ua:Int):Prop:= ∀(w ab ae aa af aj cc:Int) (d0:0≤ab) (d1:ab≤15) (s0:0≤ae) (s1:ae≤15) (b0:0≤aa) (b1:aa≤15) (p0: -2147483648≤af) (p1:af≤2147483647) (i0: -2147483648≤aj) (i1:aj≤2147483647) (c0:0≤cc) (c1:cc≤15) (hm:bC Ua w ab ae aa af aj cc=true),aP Z9 42 ([xD Ua w ab ae aa af aj cc]) (.aL [aZ 1 (bD (aD Ua w ab ae aa af aj cc)),av 0])
theorem xj:rH 28:=by
 intro w ab ae aa af aj cc d0 d1 s0 s1 b0 b1 p0 p1 i0 i1 c0 c1 hm
 have c0:= @Proofs.YtbfpahigdpigpaaGreat.a8 28 w ab ae aa af aj cc
 rw [show (bC 28 w ab ae aa af aj cc)=true from hm] at c0
 have c1:= @Proofs.YtbfpahigdpigpaaGreat.aG 28
 have c2:= @Proofs.YtbfpahigdpigpaaGreat.aG 28
 have c3:= @Proofs.YtbfpahigdpigpaaGreat.aG 28
 have c4:= @Proofs.YtbfpahigdpigpaaGreat.aG 28
 let E1:EL:=([aw c0,tF,aO]++Z7 24 tF++ [aw c1,tF,tF,aw c2,tF,aw c3,tF,aw c4,tF,tF,tF,tF,aO,tT,tT,tT,tT])
 by_cases h5:w=8
 ·subst h5
  exact (gj (d:=D.aL [D.aY ln.tight 1 [D.int abz.u8 235,D.int abz.u8 (abz.wrap abz.u8 aj)],D.int abz.i64 0]) (E1++ [tT])).to (by clear E1;((try simp only [gv]);subst_vars;(try simp only [aV] at*);(try simp only [cz] at h);(try simp only [bS,cI] at*);simp_all [wk,bf,cB,aD,show aA 28=9 from rfl,bD,bl,bq,aW,bo,aN,dk];done))
 have c6:= @Proofs.YtbfpahigdpigpaaGreat.dQ aj
 exact (gj (d:=D.aL [D.aY (ln.fresh (1:Nat)) (1:Nat) [D.int abz.u8 233,D.int abz.u8 (aj%256),D.int abz.u8 (aj / 256%256),D.int abz.u8 (aj / 65536%256),D.int abz.u8 (aj / 16777216%256)],D.int abz.i64 0]) (E1++ [tC (bc h5),tT,aw c6,bH 5])).to (by clear E1;((try simp only [gv]);subst_vars;(try simp only [aV] at*);(try simp only [cz] at h);(try simp only [bS,cI] at*);simp_all [wk,bf,cB,aD,show aA 28=9 from rfl,bD,bl,bq,aW,bo,aN,dk];done))
theorem xi:rH 29:=by
 intro w ab ae aa af aj cc d0 d1 s0 s1 b0 b1 p0 p1 i0 i1 c0 c1 hm
 have c0:= @Proofs.YtbfpahigdpigpaaGreat.a8 29 w ab ae aa af aj cc
 rw [show (bC 29 w ab ae aa af aj cc)=true from hm] at c0
 have c1:= @Proofs.YtbfpahigdpigpaaGreat.aG 29
 have c2:= @Proofs.YtbfpahigdpigpaaGreat.aG 29
 have c3:= @Proofs.YtbfpahigdpigpaaGreat.aG 29
 have c4:= @Proofs.YtbfpahigdpigpaaGreat.aG 29
 let E1:EL:=([aw c0,tF,aO]++Z7 24 tF++([aw c1,tF,tF,aw c2,tF,aw c3,tF,aw c4,tF,tF,tF,tF,aO]++cr 10 960))
 by_cases h5:w=8
 ·subst h5
  exact (gj (d:=D.aL [D.aY ln.tight 1 [D.int abz.u8 (abz.wrap abz.u8 (abz.i64.wrap (112+abz.wrap abz.i64 cc))),D.int abz.u8 (abz.wrap abz.u8 aj)],D.int abz.i64 0]) (E1++ [tT])).to (by clear E1;((try simp only [gv]);subst_vars;(try simp only [aV] at*);(try simp only [cz] at h);(try simp only [bS,cI] at*);simp_all [wk,bf,cB,aD,show aA 29=10 from rfl,bD,bl,bq,aW,bo,aN,dk];omega))
 have c6:= @Proofs.YtbfpahigdpigpaaGreat.dQ aj
 exact (gj (d:=D.aL [D.aY (ln.fresh (1:Nat)) (1:Nat) [D.int abz.u8 15,D.int abz.u8 (abz.wrap abz.u8 (abz.i64.wrap (128+abz.wrap abz.i64 cc))),D.int abz.u8 (aj%256),D.int abz.u8 (aj / 256%256),D.int abz.u8 (aj / 65536%256),D.int abz.u8 (aj / 16777216%256)],D.int abz.i64 0]) (E1++ [tC (bc h5),tT,aw c6,bH 6])).to (by clear E1;((try simp only [gv]);subst_vars;(try simp only [aV] at*);(try simp only [cz] at h);(try simp only [bS,cI] at*);simp_all [wk,bf,cB,aD,show aA 29=10 from rfl,bD,bl,bq,aW,bo,aN,dk];omega))
theorem xh:rH 30:=by
 intro w ab ae aa af aj cc d0 d1 s0 s1 b0 b1 p0 p1 i0 i1 c0 c1 hm
 have c0:= @Proofs.YtbfpahigdpigpaaGreat.a8 30 w ab ae aa af aj cc
 rw [show (bC 30 w ab ae aa af aj cc)=true from hm] at c0
 have c1:= @Proofs.YtbfpahigdpigpaaGreat.aG 30
 have c2:= @Proofs.YtbfpahigdpigpaaGreat.aG 30
 have c3:= @Proofs.YtbfpahigdpigpaaGreat.aG 30
 have c4:= @Proofs.YtbfpahigdpigpaaGreat.aG 30
 exact (gj (d:=D.aL [D.aY ln.tight 1 [D.int abz.u8 195],D.int abz.i64 0]) ([aw c0,tF,aO]++Z7 24 tF++ [aw c1,tF,tF,aw c2,tF,aw c3,tF,aw c4,tF,tF,tF,tF,aO]++Z7 12 tF++ [tT])).to (by ((try simp only [gv]);subst_vars;(try simp only [aV] at*);(try simp only [cz] at h);(try simp only [bS,cI] at*);simp_all [wk,bf,cB,aD,show aA 30=11 from rfl,bD,bl,bq,aW,bo,aN,dk];done))
theorem xg:rH 31:=by
 intro w ab ae aa af aj cc d0 d1 s0 s1 b0 b1 p0 p1 i0 i1 c0 c1 hm
 have c0:= @Proofs.YtbfpahigdpigpaaGreat.a8 31 w ab ae aa af aj cc
 rw [show (bC 31 w ab ae aa af aj cc)=true from hm] at c0
 have c1:= @Proofs.YtbfpahigdpigpaaGreat.aG 31
 have c2:= @Proofs.YtbfpahigdpigpaaGreat.aG 31
 have c3:= @Proofs.YtbfpahigdpigpaaGreat.aG 31
 have c4:= @Proofs.YtbfpahigdpigpaaGreat.aG 31
 exact (gj (d:=D.aL [D.aY ln.tight 1 [D.int abz.u8 15,D.int abz.u8 5],D.int abz.i64 0]) ([aw c0,tF,aO]++Z7 24 tF++ [aw c1,tF,tF,aw c2,tF,aw c3,tF,aw c4,tF,tF,tF,tF,aO]++Z7 13 tF)).to (by ((try simp only [gv]);subst_vars;(try simp only [aV] at*);(try simp only [cz] at h);(try simp only [bS,cI] at*);simp_all [wk,bf,cB,aD,show aA 31=11 from rfl,bD,bl,bq,aW,bo,aN,dk];done))
theorem xf (op w ab ae aa af aj cc:Int) (ho:op≤127) (hm:bC op w ab ae aa af aj cc=false):aP Z9 42 ([xD op w ab ae aa af aj cc]) (.aL [aZ 1 [],av 2]):=by
 have c0:= @Proofs.YtbfpahigdpigpaaGreat.a8 op w ab ae aa af aj cc
 rw [show (bC op w ab ae aa af aj cc)=false from hm] at c0
 exact (gj (d:=D.aL [D.aY ln.tight 0 [],D.int abz.i64 2]) [aw c0,tT]).to (by simp [wk,bf,cB])
theorem QP {w ab ae aa af aj cc:Int} (h:bC 1 w ab ae aa af aj cc=true):w=32∨w=64:=by
 have hs:=(dw h).2
 rw [show aA 1=3 from rfl] at hs
 exact dW (by simp [iy] at hs;exact hs.1)
theorem um (op w ab ae aa af aj cc:Int) (hm:bC op w ab ae aa af aj cc=true):
  aP Z9 42 [xD op w ab ae aa af aj cc] (.aL [aZ 1 (bD (aD op w ab ae aa af aj cc)),av 0]):=by
 obtain ⟨⟨d0,d1,s0,s1,b0,b1,p0,p1,i0,i1⟩,hs⟩:=dw hm
 obtain ⟨c0,c1⟩:=Fv hs
 rcases gQ (Fu hm) with rfl|rfl|rfl|rfl|rfl|rfl|rfl|rfl|rfl|rfl|rfl|rfl|rfl|rfl|rfl|rfl|rfl|rfl|rfl|rfl|rfl|rfl|rfl|rfl|rfl|rfl|rfl|rfl|rfl|rfl|rfl|rfl
 ·exact AA _ _ _ _ _ _ _ d0 d1 s0 s1 b0 b1 p0 p1 i0 i1 c0 c1 hm
 ·exact Ay _ _ _ _ _ _ _ d0 d1 s0 s1 b0 b1 p0 p1 i0 i1 c0 c1 (QP hm) hm
 ·exact Ax _ _ _ _ _ _ _ d0 d1 s0 s1 b0 b1 p0 p1 i0 i1 c0 c1 hm
 ·exact Aw _ _ _ _ _ _ _ d0 d1 s0 s1 b0 b1 p0 p1 i0 i1 c0 c1 hm
 ·exact Av _ _ _ _ _ _ _ d0 d1 s0 s1 b0 b1 p0 p1 i0 i1 c0 c1 hm
 ·exact Au _ _ _ _ _ _ _ d0 d1 s0 s1 b0 b1 p0 p1 i0 i1 c0 c1 hm
 ·exact Ar _ _ _ _ _ _ _ d0 d1 s0 s1 b0 b1 p0 p1 i0 i1 c0 c1 hm
 ·exact Aq _ _ _ _ _ _ _ d0 d1 s0 s1 b0 b1 p0 p1 i0 i1 c0 c1 hm
 ·exact Ap _ _ _ _ _ _ _ d0 d1 s0 s1 b0 b1 p0 p1 i0 i1 c0 c1 hm
 ·exact Ao _ _ _ _ _ _ _ d0 d1 s0 s1 b0 b1 p0 p1 i0 i1 c0 c1 hm
 ·exact xG _ _ _ _ _ _ _ d0 d1 s0 s1 b0 b1 p0 p1 i0 i1 c0 c1 hm
 ·exact xF _ _ _ _ _ _ _ d0 d1 s0 s1 b0 b1 p0 p1 i0 i1 c0 c1 hm
 ·exact xE _ _ _ _ _ _ _ d0 d1 s0 s1 b0 b1 p0 p1 i0 i1 c0 c1 hm
 ·exact xA _ _ _ _ _ _ _ d0 d1 s0 s1 b0 b1 p0 p1 i0 i1 c0 c1 hm
 ·exact xz _ _ _ _ _ _ _ d0 d1 s0 s1 b0 b1 p0 p1 i0 i1 c0 c1 hm
 ·exact xy _ _ _ _ _ _ _ d0 d1 s0 s1 b0 b1 p0 p1 i0 i1 c0 c1 hm
 ·exact xx _ _ _ _ _ _ _ d0 d1 s0 s1 b0 b1 p0 p1 i0 i1 c0 c1 hm
 ·exact xw _ _ _ _ _ _ _ d0 d1 s0 s1 b0 b1 p0 p1 i0 i1 c0 c1 hm
 ·exact xv _ _ _ _ _ _ _ d0 d1 s0 s1 b0 b1 p0 p1 i0 i1 c0 c1 hm
 ·exact xu _ _ _ _ _ _ _ d0 d1 s0 s1 b0 b1 p0 p1 i0 i1 c0 c1 hm
 ·exact xr _ _ _ _ _ _ _ d0 d1 s0 s1 b0 b1 p0 p1 i0 i1 c0 c1 hm
 ·exact xq _ _ _ _ _ _ _ d0 d1 s0 s1 b0 b1 p0 p1 i0 i1 c0 c1 hm
 ·exact xp _ _ _ _ _ _ _ d0 d1 s0 s1 b0 b1 p0 p1 i0 i1 c0 c1 hm
 ·exact xo _ _ _ _ _ _ _ d0 d1 s0 s1 b0 b1 p0 p1 i0 i1 c0 c1 hm
 ·exact xn _ _ _ _ _ _ _ d0 d1 s0 s1 b0 b1 p0 p1 i0 i1 c0 c1 hm
 ·exact xm _ _ _ _ _ _ _ d0 d1 s0 s1 b0 b1 p0 p1 i0 i1 c0 c1 hm
 ·exact xl _ _ _ _ _ _ _ d0 d1 s0 s1 b0 b1 p0 p1 i0 i1 c0 c1 hm
 ·exact xk _ _ _ _ _ _ _ d0 d1 s0 s1 b0 b1 p0 p1 i0 i1 c0 c1 hm
 ·exact xj _ _ _ _ _ _ _ d0 d1 s0 s1 b0 b1 p0 p1 i0 i1 c0 c1 hm
 ·exact xi _ _ _ _ _ _ _ d0 d1 s0 s1 b0 b1 p0 p1 i0 i1 c0 c1 hm
 ·exact xh _ _ _ _ _ _ _ d0 d1 s0 s1 b0 b1 p0 p1 i0 i1 c0 c1 hm
 ·exact xg _ _ _ _ _ _ _ d0 d1 s0 s1 b0 b1 p0 p1 i0 i1 c0 c1 hm
theorem nI (op w ab ae aa af aj cc:Int) (ho:op≤127):aP Z9 42 [xD op w ab ae aa af aj cc] (.aL [aZ 1 (lU op w ab ae aa af aj cc),av (qm op w ab ae aa af aj cc)]):=by
 unfold lU qm
 cases h:bC op w ab ae aa af aj cc
 ·simp only [Bool.false_eq_true,if_false]
  exact xf op w ab ae aa af aj cc ho h
 ·simp only [if_true]
  exact um op w ab ae aa af aj cc h
theorem uM (w a b:Int) (hw:bG w=true):aP Z9 93 ([ao 12,ao w,au a,au b]) (.aL [au (ft 12 w a b),av 0]):=by
 have c0:= @fU w
 rw [show (bG w)=true from hw] at c0
 have c1:= @bn a w hw
 have c2:= @bn b w hw
 have c3:= @B0 (aI a w) w hw
 have c4:= @bn (abz.wrap abz.u64 (Int.fdiv (abz.i64.wrap (eV (aI a w) w)) (2^min (Int.toNat (abz.wrap abz.u64 (↑(BitVec.toNat (BitVec.ofInt (64:Nat) (aI b w)&&&BitVec.ofInt (64:Nat) (abz.wrap abz.u64 (abz.wrap abz.i8 (w - 1))))):Int))) (64:Nat)))) w hw
 exact (L1 (d:= .aL [au (aI (abz.wrap abz.u64 (Int.fdiv (abz.i64.wrap (eV (aI a w) w)) (2^min (Int.toNat (abz.wrap abz.u64 (↑(BitVec.toNat (BitVec.ofInt (64:Nat) (aI b w)&&&BitVec.ofInt (64:Nat) (abz.wrap abz.u64 (abz.wrap abz.i8 (w - 1))))):Int))) (64:Nat)))) w),av 0]) ([tT,tT,tF,tT,tT,aw c0,tT,tF,tF,aw c1,aw c2]++Z7 10 tF++ [tT,aw c3,tT,aw c4])).to (by first|((simp only [wk,bf,ey];repeat' (first|rfl|exact aaz|apply aaj));done)|(simp [wk,bf,ft,tX,u64, *];done))
theorem cQ (op w ab ae aa af aj cc:Int) (ho:op≤127):aP Z9 90 ([xD op w ab ae aa af aj cc]) (av (ck op w ab ae aa af aj cc)):=by
 have c0:= @nI op w ab ae aa af aj cc ho
 exact (Tl (d:= .int .i64 (↑(List.length (lU op w ab ae aa af aj cc)):Int)) [aw c0]).to (by simp [wk,ck])
theorem Cm (m:aq) (w ab ae aa af aj cc ld:Int) (d0:0≤ab) (d1:ab≤15) (s0:0≤ae) (s1:ae≤15) (b0:0≤aa) (b1:aa≤15) (hm:bC 2 w ab ae aa af aj cc=true) (hw:bG w=true):aP Z9 57 ([m.d,xD 2 w ab ae aa af aj cc,au ld]) (.aL [(gu (m.at (u64 (m.pc+u64 (ck 2 w ab ae aa af aj cc)))) ⟨2,w,ab,ae,aa,af,aj,cc⟩ ld).1.d,av 0]):=by
 have c0:= @a8 2 w ab ae aa af aj cc
 rw [show (bC 2 w ab ae aa af aj cc)=true from hm] at c0
 have c1:= @cQ 2 w ab ae aa af aj cc (by decide)
 have c2:= @aG 2
 have c3:= @An w (rg (aq.rl m) ab) (rg (aq.rl m) ae) hw
 have c4:= @dN
 have c5:= @EV w (rg (aq.rl m) ab) (rg (aq.rl m) ae) hw
 exact (lr (d:= .aL [(gu (m.at (u64 (m.pc+u64 (ck 2 w ab ae aa af aj cc)))) ⟨2,w,ab,ae,aa,af,aj,cc⟩ ld).1.d,av 0]) ([aw c0,tF,aw c1,aO,tT,tT,tT,.cX _ true (cu d0 d1),.get _ _ _ (@bj m ab ((fT m (de m 2 w ab ae aa af aj cc) [])) d0 d1),aO,aw c2,tF,tF,tF,.cX _ true (cu s0 s1),.get _ _ _ (@bj m ae ((fT m (de m 2 w ab ae aa af aj cc) [])) s0 s1),.aU [(0,ay (aq.cw m (de m 2 w ab ae aa af aj cc) [])),(1,ay [ao 2,ao w,ao ab,ao ae,ao aa,av af,av aj,ao cc]),(2,ay zC)],aw c3,aO,aw c4,tT,aw c5]++Z7 13 tT++ [.cX _ true (cu d0 d1),.ej _ _ _ _ (@bO m ab (ft 0 w (rg (aq.rl m) ab) (rg (aq.rl m) ae)) ([ax true,ax (yL w (rg (aq.rl m) ab) (rg (aq.rl m) ae)),ax (aI (u64 (rg (aq.rl m) ab+rg (aq.rl m) ae)) w==0),ax (fG (u64 (rg (aq.rl m) ab+rg (aq.rl m) ae)) w),ax (yK w (rg (aq.rl m) ab) (rg (aq.rl m) ae)),au (de m 2 w ab ae aa af aj cc)]) d0 d1)]) (by kernel_rfl))
def oo (Ua:Int):Prop:= ∀(m:aq) (w ab ae aa af aj cc ld:Int) (d0:0≤ab) (d1:ab≤15) (s0:0≤ae) (s1:ae≤15) (b0:0≤aa) (b1:aa≤15) (hm:bC Ua w ab ae aa af aj cc=true) (hw:bG w=true),aP Z9 57 ([m.d,xD Ua w ab ae aa af aj cc,au ld]) (.aL [(gu (m.at (u64 (m.pc+u64 (ck Ua w ab ae aa af aj cc)))) ⟨Ua,w,ab,ae,aa,af,aj,cc⟩ ld).1.d,av 0])
theorem Cl:oo 3:=by
 intro m w ab ae aa af aj cc ld d0 d1 s0 s1 b0 b1 hm hw
 have c0:= @a8 3 w ab ae aa af aj cc
 rw [hm] at c0
 have c1:= @cQ 3 w ab ae aa af aj cc (by decide)
 have c2:= @aG 3
 have c3:= @Am w (rg (aq.rl m) ab) (rg (aq.rl m) ae) hw
 have c4:= @dN
 have c5:= @mB w (ft 4 w (rg (aq.rl m) ab) (rg (aq.rl m) ae)) hw
 exact (lr (d:= .aL [(gu (m.at (u64 (m.pc+u64 (ck 3 w ab ae aa af aj cc)))) ⟨3,w,ab,ae,aa,af,aj,cc⟩ ld).1.d,av 0]) ([aw c0,tF,aw c1,aO,tF,tF,tT,tT,tT,.cX _ true (cu d0 d1),.get _ _ _ (@bj m ab ((fT m (de m 3 w ab ae aa af aj cc) [])) d0 d1),aO,aw c2,tF,tF,tF,.cX _ true (cu s0 s1),.get _ _ _ (@bj m ae ((fT m (de m 3 w ab ae aa af aj cc) [])) s0 s1),.aU [(0,ay (aq.cw m (de m 3 w ab ae aa af aj cc) [])),(1,ay [ao 3,ao w,ao ab,ao ae,ao aa,av af,av aj,ao cc]),(2,ay zC)],aw c3,aO,aw c4,tF,tF,tT,tT,aw c5]++Z7 13 tT++ [.cX _ true (cu d0 d1),.ej _ _ _ _ (@bO m ab (ft 4 w (rg (aq.rl m) ab) (rg (aq.rl m) ae)) ([ax true,ax false,ax (aI (ft 4 w (rg (aq.rl m) ab) (rg (aq.rl m) ae)) w==0),ax (fG (ft 4 w (rg (aq.rl m) ab) (rg (aq.rl m) ae)) w),ax false,au (de m 3 w ab ae aa af aj cc)]) d0 d1)]) (by kernel_rfl))
theorem Ck:oo 4:=by
 intro m w ab ae aa af aj cc ld d0 d1 s0 s1 b0 b1 hm hw
 have c0:= @a8 4 w ab ae aa af aj cc
 rw [hm] at c0
 have c1:= @cQ 4 w ab ae aa af aj cc (by decide)
 have c2:= @aG 4
 have c3:= @oS w (rg (aq.rl m) ab) (rg (aq.rl m) ae) hw
 have c4:= @dN
 have c5:= @mB w (ft 5 w (rg (aq.rl m) ab) (rg (aq.rl m) ae)) hw
 exact (lr (d:= .aL [(gu (m.at (u64 (m.pc+u64 (ck 4 w ab ae aa af aj cc)))) ⟨4,w,ab,ae,aa,af,aj,cc⟩ ld).1.d,av 0]) ([aw c0,tF,aw c1,aO,tF,tF,tF,tF,tT,tT,tT,.cX _ true (cu d0 d1),.get _ _ _ (@bj m ab ((fT m (de m 4 w ab ae aa af aj cc) [])) d0 d1),aO,aw c2,tF,tF,tF,.cX _ true (cu s0 s1),.get _ _ _ (@bj m ae ((fT m (de m 4 w ab ae aa af aj cc) [])) s0 s1),.aU [(0,ay (aq.cw m (de m 4 w ab ae aa af aj cc) [])),(1,ay [ao 4,ao w,ao ab,ao ae,ao aa,av af,av aj,ao cc]),(2,ay zC)],aw c3,aO,aw c4,tF,tF,tF,tT,tT,aw c5]++Z7 13 tT++ [.cX _ true (cu d0 d1),.ej _ _ _ _ (@bO m ab (ft 5 w (rg (aq.rl m) ab) (rg (aq.rl m) ae)) ([ax true,ax false,ax (aI (ft 5 w (rg (aq.rl m) ab) (rg (aq.rl m) ae)) w==0),ax (fG (ft 5 w (rg (aq.rl m) ab) (rg (aq.rl m) ae)) w),ax false,au (de m 4 w ab ae aa af aj cc)]) d0 d1)]) (by kernel_rfl))
theorem Cj:oo 5:=by
 intro m w ab ae aa af aj cc ld d0 d1 s0 s1 b0 b1 hm hw
 have c0:= @a8 5 w ab ae aa af aj cc
 rw [hm] at c0
 have c1:= @cQ 5 w ab ae aa af aj cc (by decide)
 have c2:= @aG 5
 have c3:= @oT w (rg (aq.rl m) ab) (rg (aq.rl m) ae) hw
 have c4:= @dN
 have c5:= @oJ w (rg (aq.rl m) ab) (rg (aq.rl m) ae) hw
 exact (lr (d:= .aL [(gu (m.at (u64 (m.pc+u64 (ck 5 w ab ae aa af aj cc)))) ⟨5,w,ab,ae,aa,af,aj,cc⟩ ld).1.d,av 0]) ([aw c0,tF,aw c1,aO]++Z7 8 tF++ [tT,tT,tT,.cX _ true (cu d0 d1),.get _ _ _ (@bj m ab ((fT m (de m 5 w ab ae aa af aj cc) [])) d0 d1),aO,aw c2,tF,tF,tF,.cX _ true (cu s0 s1),.get _ _ _ (@bj m ae ((fT m (de m 5 w ab ae aa af aj cc) [])) s0 s1),.aU [(0,ay (aq.cw m (de m 5 w ab ae aa af aj cc) [])),(1,ay [ao 5,ao w,ao ab,ao ae,ao aa,av af,av aj,ao cc]),(2,ay zC)],aw c3,aO,aw c4,tF,tT,aw c5]++Z7 13 tT++ [.cX _ true (cu d0 d1),.ej _ _ _ _ (@bO m ab (ft 1 w (rg (aq.rl m) ab) (rg (aq.rl m) ae)) ([ax true,ax (rY w (rg (aq.rl m) ab) (rg (aq.rl m) ae)),ax (aI (u64 (rg (aq.rl m) ab - rg (aq.rl m) ae)) w==0),ax (fG (u64 (rg (aq.rl m) ab - rg (aq.rl m) ae)) w),ax (rX w (rg (aq.rl m) ab) (rg (aq.rl m) ae)),au (de m 5 w ab ae aa af aj cc)]) d0 d1)]) (by kernel_rfl))
theorem Ci:oo 6:=by
 intro m w ab ae aa af aj cc ld d0 d1 s0 s1 b0 b1 hm hw
 have c0:= @a8 6 w ab ae aa af aj cc
 rw [hm] at c0
 have c1:= @cQ 6 w ab ae aa af aj cc (by decide)
 have c2:= @aG 6
 have c3:= @uN w (rg (aq.rl m) ab) (rg (aq.rl m) ae) hw
 have c4:= @dN
 have c5:= @mB w (ft 10 w (rg (aq.rl m) ab) (rg (aq.rl m) ae)) hw
 exact (lr (d:= .aL [(gu (m.at (u64 (m.pc+u64 (ck 6 w ab ae aa af aj cc)))) ⟨6,w,ab,ae,aa,af,aj,cc⟩ ld).1.d,av 0]) ([aw c0,tF,aw c1,aO]++Z7 12 tF++ [tT,tT,tT,.cX _ true (cu d0 d1),.get _ _ _ (@bj m ab ((fT m (de m 6 w ab ae aa af aj cc) [])) d0 d1),aO,aw c2,tF,tF,tF,.cX _ true (cu s0 s1),.get _ _ _ (@bj m ae ((fT m (de m 6 w ab ae aa af aj cc) [])) s0 s1),.aU [(0,ay (aq.cw m (de m 6 w ab ae aa af aj cc) [])),(1,ay [ao 6,ao w,ao ab,ao ae,ao aa,av af,av aj,ao cc]),(2,ay zC)],aw c3,aO,aw c4,tF,tF,tF,tF,tT,aw c5]++Z7 13 tT++ [.cX _ true (cu d0 d1),.ej _ _ _ _ (@bO m ab (ft 10 w (rg (aq.rl m) ab) (rg (aq.rl m) ae)) ([ax true,ax false,ax (aI (ft 10 w (rg (aq.rl m) ab) (rg (aq.rl m) ae)) w==0),ax (fG (ft 10 w (rg (aq.rl m) ab) (rg (aq.rl m) ae)) w),ax false,au (de m 6 w ab ae aa af aj cc)]) d0 d1)]) (by kernel_rfl))
theorem Ch:oo 7:=by
 intro m w ab ae aa af aj cc ld d0 d1 s0 s1 b0 b1 hm hw
 have c0:= @a8 7 w ab ae aa af aj cc
 rw [hm] at c0
 have c1:= @cQ 7 w ab ae aa af aj cc (by decide)
 have c2:= @aG 7
 have c3:= @oT w (rg (aq.rl m) ab) (rg (aq.rl m) ae) hw
 have c4:= @dN
 have c5:= @oJ w (rg (aq.rl m) ab) (rg (aq.rl m) ae) hw
 exact (lr (d:= .aL [(gu (m.at (u64 (m.pc+u64 (ck 7 w ab ae aa af aj cc)))) ⟨7,w,ab,ae,aa,af,aj,cc⟩ ld).1.d,av 0]) ([aw c0,tF,aw c1,aO]++Z7 10 tF++ [tT,tT,tT,.cX _ true (cu d0 d1),.get _ _ _ (@bj m ab ((fT m (de m 7 w ab ae aa af aj cc) [])) d0 d1),aO,aw c2,tF,tF,tF,.cX _ true (cu s0 s1),.get _ _ _ (@bj m ae ((fT m (de m 7 w ab ae aa af aj cc) [])) s0 s1),.aU [(0,ay (aq.cw m (de m 7 w ab ae aa af aj cc) [])),(1,ay [ao 7,ao w,ao ab,ao ae,ao aa,av af,av aj,ao cc]),(2,ay zC)],aw c3,aO,aw c4,tF,tT,aw c5]++Z7 13 tF) (by kernel_rfl))
theorem Cg:oo 8:=by
 intro m w ab ae aa af aj cc ld d0 d1 s0 s1 b0 b1 hm hw
 have c0:= @a8 8 w ab ae aa af aj cc
 rw [hm] at c0
 have c1:= @cQ 8 w ab ae aa af aj cc (by decide)
 have c2:= @aG 8
 have c3:= @oS w (rg (aq.rl m) ab) (rg (aq.rl m) ae) hw
 have c4:= @dN
 have c5:= @mB w (ft 5 w (rg (aq.rl m) ab) (rg (aq.rl m) ae)) hw
 exact (lr (d:= .aL [(gu (m.at (u64 (m.pc+u64 (ck 8 w ab ae aa af aj cc)))) ⟨8,w,ab,ae,aa,af,aj,cc⟩ ld).1.d,av 0]) (([aw c0,tF,aw c1,aO]++cr 9 448++ [.cX _ true (cu d0 d1),.get _ _ _ (@bj m ab ((fT m (de m 8 w ab ae aa af aj cc) [])) d0 d1),aO,aw c2,tF,tF,tF,.cX _ true (cu s0 s1),.get _ _ _ (@bj m ae ((fT m (de m 8 w ab ae aa af aj cc) [])) s0 s1),.aU [(0,ay (aq.cw m (de m 8 w ab ae aa af aj cc) [])),(1,ay [ao 8,ao w,ao ab,ao ae,ao aa,av af,av aj,ao cc]),(2,ay zC)],aw c3,aO,aw c4,tF,tF,tF,tT,tT,aw c5])++Z7 8 tT++ [tF,tF,tF,tF,tF]) (by kernel_rfl))
theorem z7:oo 12:=by
 intro m w ab ae aa af aj cc ld d0 d1 s0 s1 b0 b1 hm hw
 have c0:= @a8 12 w ab ae aa af aj cc
 rw [hm] at c0
 have c1:= @cQ 12 w ab ae aa af aj cc (by decide)
 have c2:= @aG 12
 have c3:= @oT w (rg (aq.rl m) ab) (abz.wrap abz.u64 aj) hw
 have c4:= @dN
 have c5:= @oJ w (rg (aq.rl m) ab) (abz.wrap abz.u64 aj) hw
 exact (lr (d:= .aL [(gu (m.at (u64 (m.pc+u64 (ck 12 w ab ae aa af aj cc)))) ⟨12,w,ab,ae,aa,af,aj,cc⟩ ld).1.d,av 0]) ([aw c0,tF,aw c1,aO]++Z7 9 tF++ [tT,tT,tT,.cX _ true (cu d0 d1),.get _ _ _ (@bj m ab ((fT m (de m 12 w ab ae aa af aj cc) [])) d0 d1),aO,aw c2,tT,tT,.aU [(0,ay (aq.cw m (de m 12 w ab ae aa af aj cc) [])),(1,ay [ao 12,ao w,ao ab,ao ae,ao aa,av af,av aj,ao cc]),(2,ay zC)],aw c3,aO,aw c4,tF,tT,aw c5]++Z7 13 tT++ [.cX _ true (cu d0 d1),.ej _ _ _ _ (@bO m ab (ft 1 w (rg (aq.rl m) ab) (abz.wrap abz.u64 aj)) ([ax true,ax (rY w (rg (aq.rl m) ab) (abz.wrap abz.u64 aj)),ax (aI (u64 (rg (aq.rl m) ab - abz.wrap abz.u64 aj)) w==0),ax (fG (u64 (rg (aq.rl m) ab - abz.wrap abz.u64 aj)) w),ax (rX w (rg (aq.rl m) ab) (abz.wrap abz.u64 aj)),au (de m 12 w ab ae aa af aj cc)]) d0 d1)]) (by kernel_rfl))
def om (Ua:Int):Prop:= ∀(m:aq) (w ab ae aa af aj cc ld:Int) (d0:0≤ab) (d1:ab≤15) (s0:0≤ae) (s1:ae≤15) (b0:0≤aa) (b1:aa≤15) (hm:bC Ua w ab ae aa af aj cc=true) (hw:bG w=true),aP Z9 57 ([m.d,xD Ua w ab ae aa af aj cc,au ld]) (.aL [(gu (m.at (u64 (m.pc+u64 (ck Ua w ab ae aa af aj cc)))) ⟨Ua,w,ab,ae,aa,af,aj,cc⟩ ld).1.d,av 0])
theorem zU:om 17:=by
 intro m w ab ae aa af aj cc ld d0 d1 s0 s1 b0 b1 hm hw
 have c0:= @a8 17 w ab ae aa af aj cc
 rw [hm] at c0
 have c1:= @cQ 17 w ab ae aa af aj cc (by decide)
 have c2:= @aG 17
 have c3:= @Al w (rg (aq.rl m) ab) (abz.wrap abz.u64 aj) hw
 have c4:= @dN
 exact (lr (d:= .aL [(gu (m.at (u64 (m.pc+u64 (ck 17 w ab ae aa af aj cc)))) ⟨17,w,ab,ae,aa,af,aj,cc⟩ ld).1.d,av 0]) ([aw c0,tF,aw c1,aO]++Z7 15 tF++ [tT,tT,tT,.cX _ true (cu d0 d1),.get _ _ _ (@bj m ab ((fT m (de m 17 w ab ae aa af aj cc) [])) d0 d1),aO,aw c2,tF,tT,.aU [(0,ay (aq.cw m (de m 17 w ab ae aa af aj cc) [])),(1,ay [ao 17,ao w,ao ab,ao ae,ao aa,av af,av aj,ao cc]),(2,ay zC)],aw c3,aO,aw c4,tF,tF,tF,tF,tF]++Z7 13 tT++ [.cX _ true (cu d0 d1),.ej _ _ _ _ (@bO m ab (ft 6 w (rg (aq.rl m) ab) (abz.wrap abz.u64 aj)) ([ax false,ax false,ax false,ax false,ax false,au (de m 17 w ab ae aa af aj cc)]) d0 d1)]) (by kernel_rfl))
theorem zT:om 18:=by
 intro m w ab ae aa af aj cc ld d0 d1 s0 s1 b0 b1 hm hw
 have c0:= @a8 18 w ab ae aa af aj cc
 rw [hm] at c0
 have c1:= @cQ 18 w ab ae aa af aj cc (by decide)
 have c2:= @aG 18
 have c3:= @Ak w (rg (aq.rl m) ab) (abz.wrap abz.u64 aj) hw
 have c4:= @dN
 exact (lr (d:= .aL [(gu (m.at (u64 (m.pc+u64 (ck 18 w ab ae aa af aj cc)))) ⟨18,w,ab,ae,aa,af,aj,cc⟩ ld).1.d,av 0]) ([aw c0,tF,aw c1,aO]++Z7 17 tF++ [tT,tT,tT,.cX _ true (cu d0 d1),.get _ _ _ (@bj m ab ((fT m (de m 18 w ab ae aa af aj cc) [])) d0 d1),aO,aw c2,tF,tT,.aU [(0,ay (aq.cw m (de m 18 w ab ae aa af aj cc) [])),(1,ay [ao 18,ao w,ao ab,ao ae,ao aa,av af,av aj,ao cc]),(2,ay zC)],aw c3,aO,aw c4,tF,tF,tF,tF,tF]++Z7 13 tT++ [.cX _ true (cu d0 d1),.ej _ _ _ _ (@bO m ab (ft 7 w (rg (aq.rl m) ab) (abz.wrap abz.u64 aj)) ([ax false,ax false,ax false,ax false,ax false,au (de m 18 w ab ae aa af aj cc)]) d0 d1)]) (by kernel_rfl))
theorem zS:om 19:=by
 intro m w ab ae aa af aj cc ld d0 d1 s0 s1 b0 b1 hm hw
 have c0:= @a8 19 w ab ae aa af aj cc
 rw [hm] at c0
 have c1:= @cQ 19 w ab ae aa af aj cc (by decide)
 have c2:= @aG 19
 have c3:= @uM w (rg (aq.rl m) ab) (abz.wrap abz.u64 aj) hw
 have c4:= @dN
 exact (lr (d:= .aL [(gu (m.at (u64 (m.pc+u64 (ck 19 w ab ae aa af aj cc)))) ⟨19,w,ab,ae,aa,af,aj,cc⟩ ld).1.d,av 0]) ([aw c0,tF,aw c1,aO]++Z7 19 tF++ [tT,tT,tT,.cX _ true (cu d0 d1),.get _ _ _ (@bj m ab ((fT m (de m 19 w ab ae aa af aj cc) [])) d0 d1),aO,aw c2,tF,tT,.aU [(0,ay (aq.cw m (de m 19 w ab ae aa af aj cc) [])),(1,ay [ao 19,ao w,ao ab,ao ae,ao aa,av af,av aj,ao cc]),(2,ay zC)],aw c3,aO,aw c4,tF,tF,tF,tF,tF]++Z7 13 tT++ [.cX _ true (cu d0 d1),.ej _ _ _ _ (@bO m ab (ft 12 w (rg (aq.rl m) ab) (abz.wrap abz.u64 aj)) ([ax false,ax false,ax false,ax false,ax false,au (de m 19 w ab ae aa af aj cc)]) d0 d1)]) (by kernel_rfl))
theorem zR:om 20:=by
 intro m w ab ae aa af aj cc ld d0 d1 s0 s1 b0 b1 hm hw
 have c0:= @a8 20 w ab ae aa af aj cc
 rw [hm] at c0
 have c1:= @cQ 20 w ab ae aa af aj cc (by decide)
 have c2:= @aG 20
 have c3:= @Al w (rg (aq.rl m) ab) (aq.q1 m) hw
 have c4:= @dN
 exact (lr (d:= .aL [(gu (m.at (u64 (m.pc+u64 (ck 20 w ab ae aa af aj cc)))) ⟨20,w,ab,ae,aa,af,aj,cc⟩ ld).1.d,av 0]) ([aw c0,tF,aw c1,aO]++Z7 16 tF++ [tT,tT,.cX _ true (cu d0 d1),.get _ _ _ (@bj m ab ((fT m (de m 20 w ab ae aa af aj cc) [])) d0 d1),aO,aw c2,tF,tF,tT,.aU [(0,ay (aq.cw m (de m 20 w ab ae aa af aj cc) [])),(1,ay [ao 20,ao w,ao ab,ao ae,ao aa,av af,av aj,ao cc]),(2,ay zC)],aw c3,aO,aw c4,tF,tF,tF,tF,tF]++Z7 13 tT++ [.cX _ true (cu d0 d1),.ej _ _ _ _ (@bO m ab (ft 6 w (rg (aq.rl m) ab) (aq.q1 m)) ([ax false,ax false,ax false,ax false,ax false,au (de m 20 w ab ae aa af aj cc)]) d0 d1)]) (by kernel_rfl))
theorem zQ:om 21:=by
 intro m w ab ae aa af aj cc ld d0 d1 s0 s1 b0 b1 hm hw
 have c0:= @a8 21 w ab ae aa af aj cc
 rw [hm] at c0
 have c1:= @cQ 21 w ab ae aa af aj cc (by decide)
 have c2:= @aG 21
 have c3:= @Ak w (rg (aq.rl m) ab) (aq.q1 m) hw
 have c4:= @dN
 exact (lr (d:= .aL [(gu (m.at (u64 (m.pc+u64 (ck 21 w ab ae aa af aj cc)))) ⟨21,w,ab,ae,aa,af,aj,cc⟩ ld).1.d,av 0]) ([aw c0,tF,aw c1,aO]++Z7 18 tF++ [tT,tT,.cX _ true (cu d0 d1),.get _ _ _ (@bj m ab ((fT m (de m 21 w ab ae aa af aj cc) [])) d0 d1),aO,aw c2,tF,tF,tT,.aU [(0,ay (aq.cw m (de m 21 w ab ae aa af aj cc) [])),(1,ay [ao 21,ao w,ao ab,ao ae,ao aa,av af,av aj,ao cc]),(2,ay zC)],aw c3,aO,aw c4,tF,tF,tF,tF,tF]++Z7 13 tT++ [.cX _ true (cu d0 d1),.ej _ _ _ _ (@bO m ab (ft 7 w (rg (aq.rl m) ab) (aq.q1 m)) ([ax false,ax false,ax false,ax false,ax false,au (de m 21 w ab ae aa af aj cc)]) d0 d1)]) (by kernel_rfl))
theorem zP:om 22:=by
 intro m w ab ae aa af aj cc ld d0 d1 s0 s1 b0 b1 hm hw
 have c0:= @a8 22 w ab ae aa af aj cc
 rw [hm] at c0
 have c1:= @cQ 22 w ab ae aa af aj cc (by decide)
 have c2:= @aG 22
 have c3:= @uM w (rg (aq.rl m) ab) (aq.q1 m) hw
 have c4:= @dN
 exact (lr (d:= .aL [(gu (m.at (u64 (m.pc+u64 (ck 22 w ab ae aa af aj cc)))) ⟨22,w,ab,ae,aa,af,aj,cc⟩ ld).1.d,av 0]) ([aw c0,tF,aw c1,aO]++Z7 20 tF++ [tT,tT,.cX _ true (cu d0 d1),.get _ _ _ (@bj m ab ((fT m (de m 22 w ab ae aa af aj cc) [])) d0 d1),aO,aw c2,tF,tF,tT,.aU [(0,ay (aq.cw m (de m 22 w ab ae aa af aj cc) [])),(1,ay [ao 22,ao w,ao ab,ao ae,ao aa,av af,av aj,ao cc]),(2,ay zC)],aw c3,aO,aw c4,tF,tF,tF,tF,tF]++Z7 13 tT++ [.cX _ true (cu d0 d1),.ej _ _ _ _ (@bO m ab (ft 12 w (rg (aq.rl m) ab) (aq.q1 m)) ([ax false,ax false,ax false,ax false,ax false,au (de m 22 w ab ae aa af aj cc)]) d0 d1)]) (by kernel_rfl))
theorem zO:om 23:=by
 intro m w ab ae aa af aj cc ld d0 d1 s0 s1 b0 b1 hm hw
 have c0:= @a8 23 w ab ae aa af aj cc
 rw [hm] at c0
 have c1:= @cQ 23 w ab ae aa af aj cc (by decide)
 have c2:= @J1 w (rg (aq.rl m) ab) 0 hw
 have c3:= @oJ w 0 (rg (aq.rl m) ab) hw
 exact (lr (d:= .aL [(gu (m.at (u64 (m.pc+u64 (ck 23 w ab ae aa af aj cc)))) ⟨23,w,ab,ae,aa,af,aj,cc⟩ ld).1.d,av 0]) ([aw c0,tF,aw c1,aO]++Z7 24 tF++ [tT,.cX _ true (cu d0 d1),.get _ _ _ (@bj m ab ((fT m (de m 23 w ab ae aa af aj cc) [])) d0 d1),aw c2,aw c3,.cX _ true (cu d0 d1),.ej _ _ _ _ (@bO m ab (ft 8 w (rg (aq.rl m) ab) 0) ((fT m (de m 23 w ab ae aa af aj cc) [])) d0 d1)]) (by kernel_rfl))
theorem Co (m:aq) (w ab ae aa af aj cc ld:Int) (d0:0≤ab) (d1:ab≤15) (s0:0≤ae) (s1:ae≤15) (b0:0≤aa) (b1:aa≤15) (hm:bC 0 w ab ae aa af aj cc=true) (hw:bG w=true):aP Z9 57 ([m.d,xD 0 w ab ae aa af aj cc,au ld]) (.aL [(gu (m.at (u64 (m.pc+u64 (ck 0 w ab ae aa af aj cc)))) ⟨0,w,ab,ae,aa,af,aj,cc⟩ ld).1.d,av 0]):=by
 have c0:= @a8 0 w ab ae aa af aj cc
 rw [show (bC 0 w ab ae aa af aj cc)=true from hm] at c0
 have c1:= @cQ 0 w ab ae aa af aj cc (by decide)
 have c2:= @bn (rg (aq.rl m) ae) w hw
 exact (lr (d:= .aL [(gu (m.at (u64 (m.pc+u64 (ck 0 w ab ae aa af aj cc)))) ⟨0,w,ab,ae,aa,af,aj,cc⟩ ld).1.d,av 0]) ([aw c0,tF,aw c1,aO]++Z7 22 tF++ [tT,.cX _ true (cu s0 s1),.get _ _ _ (@bj m ae ((fT m (de m 0 w ab ae aa af aj cc) [])) s0 s1),aw c2,.cX _ true (cu d0 d1),.ej _ _ _ _ (@bO m ab (aI (rg (aq.rl m) ae) w) ((fT m (de m 0 w ab ae aa af aj cc) [])) d0 d1)]) (by kernel_rfl))
theorem Cn (m:aq) (w ab ae aa af aj cc ld:Int) (d0:0≤ab) (d1:ab≤15) (s0:0≤ae) (s1:ae≤15) (b0:0≤aa) (b1:aa≤15) (hm:bC 1 w ab ae aa af aj cc=true) (hw:bG w=true):aP Z9 57 ([m.d,xD 1 w ab ae aa af aj cc,au ld]) (.aL [(gu (m.at (u64 (m.pc+u64 (ck 1 w ab ae aa af aj cc)))) ⟨1,w,ab,ae,aa,af,aj,cc⟩ ld).1.d,av 0]):=by
 have c0:= @a8 1 w ab ae aa af aj cc
 rw [show (bC 1 w ab ae aa af aj cc)=true from hm] at c0
 have c1:= @cQ 1 w ab ae aa af aj cc (by decide)
 have c2:= @bn (abz.wrap abz.u64 aj) w hw
 exact (lr (d:= .aL [(gu (m.at (u64 (m.pc+u64 (ck 1 w ab ae aa af aj cc)))) ⟨1,w,ab,ae,aa,af,aj,cc⟩ ld).1.d,av 0]) ([aw c0,tF,aw c1,aO]++Z7 23 tF++ [tT,aw c2,.cX _ true (cu d0 d1),.ej _ _ _ _ (@bO m ab (aI (abz.wrap abz.u64 aj) w) ((fT m (de m 1 w ab ae aa af aj cc) [])) d0 d1)]) (by kernel_rfl))
theorem zL (m:aq) (w ab ae aa af aj cc ld:Int) (d0:0≤ab) (d1:ab≤15) (s0:0≤ae) (s1:ae≤15) (b0:0≤aa) (b1:aa≤15) (hm:bC 26 w ab ae aa af aj cc=true) (hw:fS w=true):aP Z9 57 ([m.d,xD 26 w ab ae aa af aj cc,au ld]) (.aL [(gu (m.at (u64 (m.pc+u64 (ck 26 w ab ae aa af aj cc)))) ⟨26,w,ab,ae,aa,af,aj,cc⟩ ld).1.d,av 0]):=by
 have c0:= @a8 26 w ab ae aa af aj cc
 rw [show (bC 26 w ab ae aa af aj cc)=true from hm] at c0
 have c1:= @cQ 26 w ab ae aa af aj cc (by decide)
 have c2:= @xe ld w hw
 exact (lr (d:= .aL [(gu (m.at (u64 (m.pc+u64 (ck 26 w ab ae aa af aj cc)))) ⟨26,w,ab,ae,aa,af,aj,cc⟩ ld).1.d,av 0]) ([aw c0,tF,aw c1,aO]++Z7 28 tF++ [tT,aw c2,.cX _ true (cu d0 d1),.ej _ _ _ _ (@bO m ab (aI ld w) ((fT m (de m 26 w ab ae aa af aj cc) [])) d0 d1)]) (by kernel_rfl))
def yQ (Ua:Int):Prop:= ∀(m:aq) (w ab ae aa af aj cc ld:Int) (d0:0≤ab) (d1:ab≤15) (s0:0≤ae) (s1:ae≤15) (b0:0≤aa) (b1:aa≤15) (hm:bC Ua w ab ae aa af aj cc=true),aP Z9 57 ([m.d,xD Ua w ab ae aa af aj cc,au ld]) (.aL [(gu (m.at (u64 (m.pc+u64 (ck Ua w ab ae aa af aj cc)))) ⟨Ua,w,ab,ae,aa,af,aj,cc⟩ ld).1.d,av 0])
theorem zK:yQ 27:=by
 intro m w ab ae aa af aj cc ld d0 d1 s0 s1 b0 b1 hm
 have c0:= @a8 27 w ab ae aa af aj cc
 rw [show (bC 27 w ab ae aa af aj cc)=true from hm] at c0
 have c1:= @cQ 27 w ab ae aa af aj cc (by decide)
 exact (lr (d:= .aL [(gu (m.at (u64 (m.pc+u64 (ck 27 w ab ae aa af aj cc)))) ⟨27,w,ab,ae,aa,af,aj,cc⟩ ld).1.d,av 0]) ([aw c0,tF,aw c1,aO]++Z7 32 tF) (by kernel_rfl))
theorem zJ:yQ 28:=by
 intro m w ab ae aa af aj cc ld d0 d1 s0 s1 b0 b1 hm
 have c0:= @a8 28 w ab ae aa af aj cc
 rw [show (bC 28 w ab ae aa af aj cc)=true from hm] at c0
 have c1:= @cQ 28 w ab ae aa af aj cc (by decide)
 exact (lr (d:= .aL [(gu (m.at (u64 (m.pc+u64 (ck 28 w ab ae aa af aj cc)))) ⟨28,w,ab,ae,aa,af,aj,cc⟩ ld).1.d,av 0]) ([aw c0,tF,aw c1,aO]++Z7 29 tF++ [tT]) (by kernel_rfl))
theorem zH:yQ 30:=by
 intro m w ab ae aa af aj cc ld d0 d1 s0 s1 b0 b1 hm
 have c0:= @a8 30 w ab ae aa af aj cc
 rw [show (bC 30 w ab ae aa af aj cc)=true from hm] at c0
 have c1:= @cQ 30 w ab ae aa af aj cc (by decide)
 exact (lr (d:= .aL [(gu (m.at (u64 (m.pc+u64 (ck 30 w ab ae aa af aj cc)))) ⟨30,w,ab,ae,aa,af,aj,cc⟩ ld).1.d,av 0]) ([aw c0,tF,aw c1,aO]++Z7 30 tF++ [tT]) (by kernel_rfl))
theorem zG:yQ 31:=by
 intro m w ab ae aa af aj cc ld d0 d1 s0 s1 b0 b1 hm
 have c0:= @a8 31 w ab ae aa af aj cc
 rw [show (bC 31 w ab ae aa af aj cc)=true from hm] at c0
 have c1:= @cQ 31 w ab ae aa af aj cc (by decide)
 exact (lr (d:= .aL [(gu (m.at (u64 (m.pc+u64 (ck 31 w ab ae aa af aj cc)))) ⟨31,w,ab,ae,aa,af,aj,cc⟩ ld).1.d,av 0]) ([aw c0,tF,aw c1,aO]++Z7 31 tF++ [tT]) (by kernel_rfl))
theorem zN (q0 q1 q2 q3 q4 q5 q6 q7 q8 q9 cZ dj dq dp dn di Uf:Int) (fk fc fz fs fo:Bool) (w ab ae aa af aj cc ld:Int) (d0:0≤ab) (d1:ab≤15) (s0:0≤ae) (s1:ae≤15) (b0:0≤aa) (b1:aa≤15) (hm:bC 24 w ab ae aa af aj cc=true) (hw:bG w=true) (hd:(aI (rg [q0,q1,q2,q3,q4,q5,q6,q7,q8,q9,cZ,dj,dq,dp,dn,di] ab) w==0)=false) (hz:(aI q2 w==0)=true):aP Z9 57 ([.agg [au q0,au q1,au q2,au q3,au q4,au q5,au q6,au q7,au q8,au q9,au cZ,au dj,au dq,au dp,au dn,au di,ax fk,ax fc,ax fz,ax fs,ax fo,au (Uf)],xD 24 w ab ae aa af aj cc,au ld]) (.aL [.agg [au (u64 ((aI q0 w).tdiv (aI (rg [q0,q1,q2,q3,q4,q5,q6,q7,q8,q9,cZ,dj,dq,dp,dn,di] ab) w))),au q1,au ((aI q0 w).tmod (aI (rg [q0,q1,q2,q3,q4,q5,q6,q7,q8,q9,cZ,dj,dq,dp,dn,di] ab) w)),au q3,au q4,au q5,au q6,au q7,au q8,au q9,au cZ,au dj,au dq,au dp,au dn,au di,ax false,ax false,ax false,ax false,ax false,au (u64 (Uf+u64 (ck 24 w ab ae aa af aj cc)))],av 0]):=by
 have c0:= @a8 24 w ab ae aa af aj cc
 rw [hm] at c0
 have c1:= @cQ 24 w ab ae aa af aj cc (by decide)
 have c2:= @bn (rg [q0,q1,q2,q3,q4,q5,q6,q7,q8,q9,cZ,dj,dq,dp,dn,di] ab) w hw
 have c3:= @bn q2 w hw
 have c4:= @bn q0 w hw
 have c5:= @dN
 exact (lr (d:= .aL [.agg [au (abz.wrap abz.u64 (Int.tdiv (aI q0 w) (aI (rg [q0,q1,q2,q3,q4,q5,q6,q7,q8,q9,cZ,dj,dq,dp,dn,di] ab) w))),au q1,au (Int.tmod (aI q0 w) (aI (rg [q0,q1,q2,q3,q4,q5,q6,q7,q8,q9,cZ,dj,dq,dp,dn,di] ab) w)),au q3,au q4,au q5,au q6,au q7,au q8,au q9,au cZ,au dj,au dq,au dp,au dn,au di,ax false,ax false,ax false,ax false,ax false,au (abz.wrap abz.u64 (Uf+abz.wrap abz.u64 (ck 24 w ab ae aa af aj cc)))],av 0]) ([aw c0,tF,aw c1,aO]++Z7 25 tF++ [tT,.cX (decide (0≤ab∧ab<(↑(16:Nat):Int))) true (by (simp only [cH] at*;omega)),.get _ _ _ (@iX q0 q1 q2 q3 q4 q5 q6 q7 q8 q9 cZ dj dq dp dn di ab ([ax fk,ax fc,ax fz,ax fs,ax fo,au (abz.wrap abz.u64 (Uf+abz.wrap abz.u64 (ck 24 w ab ae aa af aj cc)))]) d0 d1),aw c2,aw c3,tC (eF (nt (cK 0 true (eq_of_beq hz)))),tC (eF (nt (cK 0 true (eq_of_beq hz)))),tC (nt (cK 0 true (eq_of_beq hz))),tC hd,aw c4,tC (v:=true) (Rv hd),tC (v:=true) (Rv hd),aw c5])).to (by first|((simp only [wk,bf,ey];repeat' (first|rfl|exact aaz|apply aaj));done)|(simp [wk,bf,u64,];done))
theorem w9 (q0 q1 q2 q3 q4 q5 q6 q7 q8 q9 cZ dj dq dp dn di Uf:Int) (fk fc fz fs fo:Bool) (w ab ae aa af aj cc ld:Int) (d0:0≤ab) (d1:ab≤15) (s0:0≤ae) (s1:ae≤15) (b0:0≤aa) (b1:aa≤15) (hm:bC 24 w ab ae aa af aj cc=true) (hw:bG w=true) (hd:(aI (rg [q0,q1,q2,q3,q4,q5,q6,q7,q8,q9,cZ,dj,dq,dp,dn,di] ab) w==0)=true):aP Z9 57 ([.agg [au q0,au q1,au q2,au q3,au q4,au q5,au q6,au q7,au q8,au q9,au cZ,au dj,au dq,au dp,au dn,au di,ax fk,ax fc,ax fz,ax fs,ax fo,au (Uf)],xD 24 w ab ae aa af aj cc,au ld]) (.aL [.agg [au (0),au (0),au (0),au (0),au (0),au (0),au (0),au (0),au (0),au (0),au (0),au (0),au (0),au (0),au (0),au (0),ax false,ax false,ax false,ax false,ax false,au (0)],av 20]):=by
 have c0:= @a8 24 w ab ae aa af aj cc
 rw [hm] at c0
 have c1:= @cQ 24 w ab ae aa af aj cc (by decide)
 have c2:= @bn (rg [q0,q1,q2,q3,q4,q5,q6,q7,q8,q9,cZ,dj,dq,dp,dn,di] ab) w hw
 have c3:= @bn q2 w hw
 let E1:EL:=([aw c0,tF,aw c1,aO]++Z7 25 tF++ [tT,.cX (decide (0≤ab∧ab<(↑(16:Nat):Int))) true (by (simp only [cH] at*;omega)),.get _ _ _ (@iX q0 q1 q2 q3 q4 q5 q6 q7 q8 q9 cZ dj dq dp dn di ab ([ax fk,ax fc,ax fz,ax fs,ax fo,au (abz.wrap abz.u64 (Uf+abz.wrap abz.u64 (ck 24 w ab ae aa af aj cc)))]) d0 d1),aw c2,aw c3])
 by_cases h4:aI q2 w=0
 ·exact (lr (d:= .aL [.agg [au 0,au 0,au 0,au 0,au 0,au 0,au 0,au 0,au 0,au 0,au 0,au 0,au 0,au 0,au 0,au 0,ax false,ax false,ax false,ax false,ax false,au 0],av 20]) (E1++ [tC (eF (nt (cK 0 true h4))),tC (eF (nt (cK 0 true h4))),tC (nt (cK 0 true h4)),tC (cK 0 true (eq_of_beq hd))])).to (by clear E1;first|((simp only [wk,bf,ey];repeat' (first|rfl|exact aaz|apply aaj));done)|(simp [wk,bf,u64,h4];done))
 exact (lr (d:= .aL [.agg [au 0,au 0,au 0,au 0,au 0,au 0,au 0,au 0,au 0,au 0,au 0,au 0,au 0,au 0,au 0,au 0,ax false,ax false,ax false,ax false,ax false,au 0],av 20]) (E1++ [tC (eF (nt (bc h4))),tC (eF (nt (bc h4))),tC (nt (bc h4)),tT])).to (by clear E1;first|((simp only [wk,bf,ey];repeat' (first|rfl|exact aaz|apply aaj));done)|(simp [wk,bf,u64,h4];done))
theorem w8 (q0 q1 q2 q3 q4 q5 q6 q7 q8 q9 cZ dj dq dp dn di Uf:Int) (fk fc fz fs fo:Bool) (w ab ae aa af aj cc ld:Int) (d0:0≤ab) (d1:ab≤15) (s0:0≤ae) (s1:ae≤15) (b0:0≤aa) (b1:aa≤15) (hm:bC 24 w ab ae aa af aj cc=true) (hw:bG w=true) (hd:(aI (rg [q0,q1,q2,q3,q4,q5,q6,q7,q8,q9,cZ,dj,dq,dp,dn,di] ab) w==0)=false) (hz:(aI q2 w==0)=false):aP Z9 57 ([.agg [au q0,au q1,au q2,au q3,au q4,au q5,au q6,au q7,au q8,au q9,au cZ,au dj,au dq,au dp,au dn,au di,ax fk,ax fc,ax fz,ax fs,ax fo,au (Uf)],xD 24 w ab ae aa af aj cc,au ld]) (.aL [.agg [au (0),au (0),au (0),au (0),au (0),au (0),au (0),au (0),au (0),au (0),au (0),au (0),au (0),au (0),au (0),au (0),ax false,ax false,ax false,ax false,ax false,au (0)],av 20]):=by
 have c0:= @a8 24 w ab ae aa af aj cc
 rw [hm] at c0
 have c1:= @cQ 24 w ab ae aa af aj cc (by decide)
 have c2:= @bn (rg [q0,q1,q2,q3,q4,q5,q6,q7,q8,q9,cZ,dj,dq,dp,dn,di] ab) w hw
 have c3:= @bn q2 w hw
 exact (lr (d:= .aL [.agg [au 0,au 0,au 0,au 0,au 0,au 0,au 0,au 0,au 0,au 0,au 0,au 0,au 0,au 0,au 0,au 0,ax false,ax false,ax false,ax false,ax false,au 0],av 20]) ([aw c0,tF,aw c1,aO]++Z7 25 tF++ [tT,.cX (decide (0≤ab∧ab<(↑(16:Nat):Int))) true (by (simp only [cH] at*;omega)),.get _ _ _ (@iX q0 q1 q2 q3 q4 q5 q6 q7 q8 q9 cZ dj dq dp dn di ab ([ax fk,ax fc,ax fz,ax fs,ax fo,au (abz.wrap abz.u64 (Uf+abz.wrap abz.u64 (ck 24 w ab ae aa af aj cc)))]) d0 d1),aw c2,aw c3,tC (eF (nt hz)),tC (eF (nt hz)),tC (nt hz),tT])).to (by first|((simp only [wk,bf,ey];repeat' (first|rfl|exact aaz|apply aaj));done)|(simp [wk,bf,u64,];done))
theorem zM (q0 q1 q2 q3 q4 q5 q6 q7 q8 q9 cZ dj dq dp dn di Uf:Int) (fc fz fs fo:Bool) (w ab ae aa af aj cc ld:Int) (d0:0≤ab) (d1:ab≤15) (s0:0≤ae) (s1:ae≤15) (b0:0≤aa) (b1:aa≤15) (hm:bC 25 w ab ae aa af aj cc=true) (hw:bG w=true) (Uu:kO cc=true):aP Z9 57 ([.agg [au q0,au q1,au q2,au q3,au q4,au q5,au q6,au q7,au q8,au q9,au cZ,au dj,au dq,au dp,au dn,au di,ax true,ax fc,ax fz,ax fs,ax fo,au (Uf)],xD 25 w ab ae aa af aj cc,au ld]) (.aL [.agg (sC ab (aI (if ee cc fc fz fs fo then rg [q0,q1,q2,q3,q4,q5,q6,q7,q8,q9,cZ,dj,dq,dp,dn,di] ae else rg [q0,q1,q2,q3,q4,q5,q6,q7,q8,q9,cZ,dj,dq,dp,dn,di] ab) w) q0 q1 q2 q3 q4 q5 q6 q7 q8 q9 cZ dj dq dp dn di++ [ax true,ax fc,ax fz,ax fs,ax fo,au (u64 (Uf+u64 (ck 25 w ab ae aa af aj cc)))]),av 0]):=by
 have c0:= @a8 25 w ab ae aa af aj cc
 rw [hm] at c0
 have c1:= @cQ 25 w ab ae aa af aj cc (by decide)
 have c2:= @qs cc fc fz fs fo Uu
 let E1:EL:=([aw c0,tF,aw c1,aO]++Z7 26 tF++ [tT,tT,aw c2,tF,tF,tF,tF,tT,.cX (decide (0≤ab∧ab<(↑(16:Nat):Int))) true (by (simp only [cH] at*;omega)),.get _ _ _ (@iX q0 q1 q2 q3 q4 q5 q6 q7 q8 q9 cZ dj dq dp dn di ab ([ax true,ax fc,ax fz,ax fs,ax fo,au (abz.wrap abz.u64 (Uf+abz.wrap abz.u64 (ck 25 w ab ae aa af aj cc)))]) d0 d1)])
 rcases cf (ee cc fc fz fs fo) with h3|h3
 ·have c4:= @bn (rg [q0,q1,q2,q3,q4,q5,q6,q7,q8,q9,cZ,dj,dq,dp,dn,di] ae) w hw
  exact (lr (d:= .aL [.agg (sC ab (aI (rg [q0,q1,q2,q3,q4,q5,q6,q7,q8,q9,cZ,dj,dq,dp,dn,di] ae) w) q0 q1 q2 q3 q4 q5 q6 q7 q8 q9 cZ dj dq dp dn di++ [ax true,ax fc,ax fz,ax fs,ax fo,au (abz.wrap abz.u64 (Uf+abz.wrap abz.u64 (ck 25 w ab ae aa af aj cc)))]),av 0]) (E1++ [tC h3,.cX (decide (0≤ae∧ae<(↑(16:Nat):Int))) true (by (simp only [cH] at*;omega)),.get _ _ _ (@iX q0 q1 q2 q3 q4 q5 q6 q7 q8 q9 cZ dj dq dp dn di ae ([ax true,ax fc,ax fz,ax fs,ax fo,au (abz.wrap abz.u64 (Uf+abz.wrap abz.u64 (ck 25 w ab ae aa af aj cc)))]) s0 s1),aw c4,.cX (decide (0≤ab∧ab<(↑(16:Nat):Int))) true (by (simp only [cH] at*;omega)),.ej _ _ _ _ (@oU q0 q1 q2 q3 q4 q5 q6 q7 q8 q9 cZ dj dq dp dn di ab (aI (rg [q0,q1,q2,q3,q4,q5,q6,q7,q8,q9,cZ,dj,dq,dp,dn,di] ae) w) ([ax true,ax fc,ax fz,ax fs,ax fo,au (abz.wrap abz.u64 (Uf+abz.wrap abz.u64 (ck 25 w ab ae aa af aj cc)))]) d0 d1)])).to (by clear E1;first|((simp only [wk,bf,ey];repeat' (first|rfl|exact aaz|apply aaj));done)|(simp [wk,bf,u64,h3];done))
 have c5:= @bn (rg [q0,q1,q2,q3,q4,q5,q6,q7,q8,q9,cZ,dj,dq,dp,dn,di] ab) w hw
 exact (lr (d:= .aL [.agg (sC ab (aI (rg [q0,q1,q2,q3,q4,q5,q6,q7,q8,q9,cZ,dj,dq,dp,dn,di] ab) w) q0 q1 q2 q3 q4 q5 q6 q7 q8 q9 cZ dj dq dp dn di++ [ax true,ax fc,ax fz,ax fs,ax fo,au (abz.wrap abz.u64 (Uf+abz.wrap abz.u64 (ck 25 w ab ae aa af aj cc)))]),av 0]) (E1++ [tC h3,aw c5,.cX (decide (0≤ab∧ab<(↑(16:Nat):Int))) true (by (simp only [cH] at*;omega)),.ej _ _ _ _ (@oU q0 q1 q2 q3 q4 q5 q6 q7 q8 q9 cZ dj dq dp dn di ab (aI (rg [q0,q1,q2,q3,q4,q5,q6,q7,q8,q9,cZ,dj,dq,dp,dn,di] ab) w) ([ax true,ax fc,ax fz,ax fs,ax fo,au (abz.wrap abz.u64 (Uf+abz.wrap abz.u64 (ck 25 w ab ae aa af aj cc)))]) d0 d1)])).to (by clear E1;first|((simp only [wk,bf,ey];repeat' (first|rfl|exact aaz|apply aaj));done)|(simp [wk,bf,u64,h3];done))
theorem w7 (q0 q1 q2 q3 q4 q5 q6 q7 q8 q9 cZ dj dq dp dn di Uf:Int) (fc fz fs fo:Bool) (w ab ae aa af aj cc ld:Int) (d0:0≤ab) (d1:ab≤15) (s0:0≤ae) (s1:ae≤15) (b0:0≤aa) (b1:aa≤15) (hm:bC 25 w ab ae aa af aj cc=true) (hw:bG w=true) (Uu:kO cc=true):aP Z9 57 ([.agg [au q0,au q1,au q2,au q3,au q4,au q5,au q6,au q7,au q8,au q9,au cZ,au dj,au dq,au dp,au dn,au di,ax false,ax fc,ax fz,ax fs,ax fo,au (Uf)],xD 25 w ab ae aa af aj cc,au ld]) (.aL [.agg [au (0),au (0),au (0),au (0),au (0),au (0),au (0),au (0),au (0),au (0),au (0),au (0),au (0),au (0),au (0),au (0),ax false,ax false,ax false,ax false,ax false,au (0)],av 20]):=by
 have c0:= @a8 25 w ab ae aa af aj cc
 rw [hm] at c0
 have c1:= @cQ 25 w ab ae aa af aj cc (by decide)
 have c2:= @qt cc fc fz fs fo Uu
 exact (lr (d:= .aL [.agg [au 0,au 0,au 0,au 0,au 0,au 0,au 0,au 0,au 0,au 0,au 0,au 0,au 0,au 0,au 0,au 0,ax false,ax false,ax false,ax false,ax false,au 0],av 20]) ([aw c0,tF,aw c1,aO]++Z7 26 tF++ [tT,tT,aw c2,tT])).to (by first|((simp only [wk,bf,ey];repeat' (first|rfl|exact aaz|apply aaj));done)|(simp [wk,bf,u64,];done))
theorem zI (q0 q1 q2 q3 q4 q5 q6 q7 q8 q9 cZ dj dq dp dn di Uf:Int) (fc fz fs fo:Bool) (w ab ae aa af aj cc ld:Int) (d0:0≤ab) (d1:ab≤15) (s0:0≤ae) (s1:ae≤15) (b0:0≤aa) (b1:aa≤15) (hm:bC 29 w ab ae aa af aj cc=true) (Uu:kO cc=true):aP Z9 57 ([.agg [au q0,au q1,au q2,au q3,au q4,au q5,au q6,au q7,au q8,au q9,au cZ,au dj,au dq,au dp,au dn,au di,ax true,ax fc,ax fz,ax fs,ax fo,au (Uf)],xD 29 w ab ae aa af aj cc,au ld]) (.aL [.agg [au q0,au q1,au q2,au q3,au q4,au q5,au q6,au q7,au q8,au q9,au cZ,au dj,au dq,au dp,au dn,au di,ax true,ax fc,ax fz,ax fs,ax fo,au (if ee cc fc fz fs fo then u64 (u64 (Uf+u64 (ck 29 w ab ae aa af aj cc))+u64 aj) else u64 (Uf+u64 (ck 29 w ab ae aa af aj cc)))],av 0]):=by
 have c0:= @a8 29 w ab ae aa af aj cc
 rw [hm] at c0
 have c1:= @cQ 29 w ab ae aa af aj cc (by decide)
 have c2:= @qs cc fc fz fs fo Uu
 let E1:EL:=([aw c0,tF,aw c1,aO]++Z7 27 tF++ [tT,aw c2,tF,tT,tT])
 rcases cf (ee cc fc fz fs fo) with h3|h3
 ·exact (lr (d:= .aL [.agg [au q0,au q1,au q2,au q3,au q4,au q5,au q6,au q7,au q8,au q9,au cZ,au dj,au dq,au dp,au dn,au di,ax true,ax fc,ax fz,ax fs,ax fo,au (abz.wrap abz.u64 (abz.wrap abz.u64 (Uf+abz.wrap abz.u64 (ck 29 w ab ae aa af aj cc))+abz.wrap abz.u64 aj))],av 0]) (E1++ [tC h3,tF])).to (by clear E1;first|((simp only [wk,bf,ey];repeat' (first|rfl|exact aaz|apply aaj));done)|(simp [wk,bf,u64,h3];done))
 exact (lr (d:= .aL [.agg [au q0,au q1,au q2,au q3,au q4,au q5,au q6,au q7,au q8,au q9,au cZ,au dj,au dq,au dp,au dn,au di,ax true,ax fc,ax fz,ax fs,ax fo,au (abz.wrap abz.u64 (Uf+abz.wrap abz.u64 (ck 29 w ab ae aa af aj cc)))],av 0]) (E1++ [tC h3,tF])).to (by clear E1;first|((simp only [wk,bf,ey];repeat' (first|rfl|exact aaz|apply aaj));done)|(simp [wk,bf,u64,h3];done))
theorem w6 (q0 q1 q2 q3 q4 q5 q6 q7 q8 q9 cZ dj dq dp dn di Uf:Int) (fc fz fs fo:Bool) (w ab ae aa af aj cc ld:Int) (d0:0≤ab) (d1:ab≤15) (s0:0≤ae) (s1:ae≤15) (b0:0≤aa) (b1:aa≤15) (hm:bC 29 w ab ae aa af aj cc=true) (Uu:kO cc=true):aP Z9 57 ([.agg [au q0,au q1,au q2,au q3,au q4,au q5,au q6,au q7,au q8,au q9,au cZ,au dj,au dq,au dp,au dn,au di,ax false,ax fc,ax fz,ax fs,ax fo,au (Uf)],xD 29 w ab ae aa af aj cc,au ld]) (.aL [.agg [au (0),au (0),au (0),au (0),au (0),au (0),au (0),au (0),au (0),au (0),au (0),au (0),au (0),au (0),au (0),au (0),ax false,ax false,ax false,ax false,ax false,au (0)],av 20]):=by
 have c0:= @a8 29 w ab ae aa af aj cc
 rw [hm] at c0
 have c1:= @cQ 29 w ab ae aa af aj cc (by decide)
 have c2:= @qt cc fc fz fs fo Uu
 exact (lr (d:= .aL [.agg [au 0,au 0,au 0,au 0,au 0,au 0,au 0,au 0,au 0,au 0,au 0,au 0,au 0,au 0,au 0,au 0,ax false,ax false,ax false,ax false,ax false,au 0],av 20]) ([aw c0,tF,aw c1,aO]++Z7 27 tF++ [tT,aw c2,tT])).to (by first|((simp only [wk,bf,ey];repeat' (first|rfl|exact aaz|apply aaj));done)|(simp [wk,bf,u64,];done))
theorem zF (q0 q1 q2 q3 q4 q5 q6 q7 q8 q9 cZ dj dq dp dn di Uf:Int) (fk fc fz fs fo:Bool) (op w ab ae aa af aj cc ld:Int)(ho:op≤127) (hm:bC op w ab ae aa af aj cc=false):aP Z9 57 ([.agg [au q0,au q1,au q2,au q3,au q4,au q5,au q6,au q7,au q8,au q9,au cZ,au dj,au dq,au dp,au dn,au di,ax fk,ax fc,ax fz,ax fs,ax fo,au (Uf)],xD op w ab ae aa af aj cc,au ld]) (.aL [.agg [au (0),au (0),au (0),au (0),au (0),au (0),au (0),au (0),au (0),au (0),au (0),au (0),au (0),au (0),au (0),au (0),ax false,ax false,ax false,ax false,ax false,au (0)],av 2]):=by
 have c0:= @a8 op w ab ae aa af aj cc
 rw [hm] at c0
 exact (lr (d:= .aL [.agg [au 0,au 0,au 0,au 0,au 0,au 0,au 0,au 0,au 0,au 0,au 0,au 0,au 0,au 0,au 0,au 0,ax false,ax false,ax false,ax false,ax false,au 0],av 2]) [aw c0,tT]).to (by first|((simp only [wk,bf,ey];repeat' (first|rfl|exact aaz|apply aaj));done)|(simp [wk,bf,u64,];done))
end Go.Proofs.YtbfpahigdpigpaaGreat
