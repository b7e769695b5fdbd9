import Derived.Test.YtbfpahigdpigpaaGreatQ05
import Derived.Test.YtbfpahigdpigpaaGreatQ06
import Derived.Test.YtbfpahigdpigpaaGreatQ08
import Derived.Test.YtbfpahigdpigpaaGreatQ09
import Derived.Test.YtbfpahigdpigpaaGreatQ10
open List renaming replicate→Z7,length→aaa,drop_zero→aa0
open BitVec renaming ofInt→Z8,toNat→aab
open Go.Proofs.Tryz renaming prog→Z9,f81→aaS
open Int renaming lt_add_one_of_le→aac,not_lt→aah,toNat→aal,fdiv→aaQ
open And renaming intro→aaj
open True renaming intro→aaz
open Go renaming IntKind→abz
/- Contracts and plain laws that a statement's proof leans on (texts merged:XB2b,XB2c,XB2d,XB2e,XBytes,XB3,XBytes2,XLen,XD2,XD3,XD4,XD4A,E0,XS1,XS2,XW,Y1a). -/
set_option linter.unusedVariables false
set_option linter.unusedSimpArgs false
set_option maxRecDepth 100000
set_option maxHeartbeats 8000000
namespace Go.Proofs.YtbfpahigdpigpaaGreat
open Go Go.Ev
theorem Eb (op w ab ae aa af aj cc:Int) (ho:op≤127) (d0:0≤ab) (d1:ab≤15) (s0:0≤ae) (s1:ae≤15) (b0:0≤aa) (b1:aa≤15) (p0: -2147483648≤af) (p1:af≤2147483647) (i0: -2147483648≤aj) (i1:aj≤2147483647) (c0:0≤cc) (c1:cc≤15) (n0:0≤bI op) (n1:bI op≤7) (h:(aA op==4)=true) (Ue:decide (0≤op∧op≤31)=true) (hm:bC op w ab ae aa af aj cc=true):aP Z9 43 ([xD op w ab ae aa af aj cc]) (.aL [aZ 1 (bD (aD op w ab ae aa af aj cc)),av 0]):=by
 have c0:= @a9 op w ab ae aa af aj cc ho
 rw [hm] at c0
 have c1:= @da op ho
 rw [eq_of_beq h] at c1
 generalize g3:ba op=r2 at c1
 generalize g5:bI op=r4 at c1
 rcases cf (bP (w==64) 0 ab false) with h6|h6
 ·have c7:= @eG 0 ab (by decide) (by decide) d0 d1 (w==64) false h6
  generalize g9:cV (w==64) 0 ab=r8 at c7
  have T7:= @jg r4 ab (by (simp only [cH] at*;omega)) (by (simp only [cH] at*;omega)) d0 d1
  generalize g12:bk r4 ab=Un at T7
  exact (kA (d:= .aL [.aY (.fresh 1) 1 [aC r8,aC r2,aC Un,aC (abz.u8.wrap aj)],av 0]) [aw c0,tF,aw c1,tF,tF,tF,tF,tT,aw c7,aw T7,aO,.go 64,tT,tT,bH 1,tT,tT,bH 2,tT,tT,bH 3,tT,tT,bH 4,tF]).to (by (try rw [oY d0 d1]);(subst_vars;(try simp only [aV] at*);(try simp only [cz] at h);(try simp only [bS,cI] at*);simp_all [wk,bf,cB,aD,bD,bl,bq,aW,bo];done))
 have Uh:= @fL 0 ab (by decide) (by decide) d0 d1 (w==64) false h6
 have UP:= @jg r4 ab (by (simp only [cH] at*;omega)) (by (simp only [cH] at*;omega)) d0 d1
 generalize g16:bk r4 ab=V6 at UP
 exact (kA (d:= .aL [.aY (.fresh 1) 1 [aC r2,aC V6,aC (abz.u8.wrap aj)],av 0]) [aw c0,tF,aw c1,tF,tF,tF,tF,tT,aw Uh,aw UP,aO,.go 64,tT,tT,bH 0,tT,tT,bH 1,tT,tT,bH 2,tT,tT,bH 3,tF]).to (by (try rw [oY d0 d1]);(subst_vars;(try simp only [aV] at*);(try simp only [cz] at h);(try simp only [bS,cI] at*);simp_all [wk,bf,cB,aD,bD,bl,bq,aW,bo];done))
theorem Ec (op w ab ae aa af aj cc:Int) (ho:op≤127) (d0:0≤ab) (d1:ab≤15) (s0:0≤ae) (s1:ae≤15) (b0:0≤aa) (b1:aa≤15) (p0: -2147483648≤af) (p1:af≤2147483647) (i0: -2147483648≤aj) (i1:aj≤2147483647) (c0:0≤cc) (c1:cc≤15) (n0:0≤bI op) (n1:bI op≤7) (h:(aA op==3)=true) (Ue:decide (0≤op∧op≤31)=true) (hw:w=32∨w=64) (hm:bC op w ab ae aa af aj cc=true):aP Z9 43 ([xD op w ab ae aa af aj cc]) (.aL [aZ 1 (bD (aD op w ab ae aa af aj cc)),av 0]):=by
 have c0:= @a9 op w ab ae aa af aj cc ho
 rw [hm] at c0
 have c1:= @da op ho
 rw [eq_of_beq h] at c1
 generalize g3:ba op=r2 at c1
 generalize g5:bI op=r4 at c1
 let E1:EL:= [aw c0,tF,aw c1,tF,tF,tF,tT]
 by_cases h6:op=1
 ·subst h6
  by_cases h7:w=64
  ·subst h7
   have c8:= @eG 0 ab n0 (by decide) d0 d1 true false (rfl:true=true)
   generalize g10:cV true 0 ab=r9 at c8
   have Uz:= @jg r4 ab (by (simp only [cH] at*;omega)) (by (simp only [cH] at*;omega)) d0 d1
   generalize g13:bk r4 ab=WI at Uz
   have UP:= @lQ aj
   exact (kA (d:= .aL [.aY (.fresh 1) 1 [aC r9,aC r2,aC WI,aC (aj%256),aC (aj / 256%256),aC (aj / 65536%256),aC (aj / 16777216%256)],av 0]) (E1++ [tT,tT,tT,tF,aw c8,aw Uz,aw UP,aO,.go 64,tT,tT,bH 1,tT,tT,bH 2,tT,tT,bH 3,tT,tT,bH 7,tF])).to (by clear E1;(try rw [oY d0 d1]);(subst_vars;(try simp only [aV] at*);(try simp only [cz] at h);(try simp only [bS,cI] at*);simp_all [wk,bf,cB,aD,bD,bl,bq,aW,bo,bP];done))
  rcases cf (bP false 0 ab false) with h15|h15
  ·have Ui:= @eG 0 ab n0 (by decide) d0 d1 false false h15
   generalize g18:cV false 0 ab=r17 at Ui
   have U6:= @lQ aj
   exact (kA (d:= .aL [.aY (.fresh 1) 1 [aC r17,aC (abz.u8.wrap (↑(aab (Z8 8 184|||Z8 8 (abz.u8.wrap (abz.i8.wrap (↑(aab (Z8 8 ab&&&Z8 8 7)):Int))))):Int)),aC (aj%256),aC (aj / 256%256),aC (aj / 65536%256),aC (aj / 16777216%256)],av 0]) (E1++ [tT,tT,tT,tC (nt (bc h7)),aw Ui,aw U6,aO,.go 64,tT,tT,bH 1,tT,tT,bH 2,tT,tT,bH 6,tF])).to (by clear E1;(try rw [oY d0 d1]);(subst_vars;(try simp only [aV] at*);(try simp only [cz] at h);(try simp only [bS,cI] at*);simp_all [wk,bf,cB,aD,bD,bl,bq,aW,bo];done))
  have XD:= @fL 0 ab n0 (by decide) d0 d1 false false h15
  have XO:= @lQ aj
  exact (kA (d:= .aL [.aY (.fresh 1) 1 [aC (abz.u8.wrap (↑(aab (Z8 8 184|||Z8 8 (abz.u8.wrap (abz.i8.wrap (↑(aab (Z8 8 ab&&&Z8 8 7)):Int))))):Int)),aC (aj%256),aC (aj / 256%256),aC (aj / 65536%256),aC (aj / 16777216%256)],av 0]) (E1++ [tT,tT,tT,tC (nt (bc h7)),aw XD,aw XO,aO,.go 64,tT,tT,bH 0,tT,tT,bH 1,tT,tT,bH 5,tF])).to (by clear E1;(try rw [oY d0 d1]);(subst_vars;(try simp only [aV] at*);(try simp only [cz] at h);(try simp only [bS,cI] at*);simp_all [wk,bf,cB,aD,bD,bl,bq,aW,bo];done))
 rcases cf (bP (w==64) 0 ab false) with h22|h22
 ·have Vb:= @eG 0 ab (by decide) (by decide) d0 d1 (w==64) false h22
  generalize g25:cV (w==64) 0 ab=r24 at Vb
  have Vv:= @jg r4 ab (by (simp only [cH] at*;omega)) (by (simp only [cH] at*;omega)) d0 d1
  generalize g28:bk r4 ab=r27 at Vv
  have YP:= @lQ aj
  exact (kA (d:= .aL [.aY (.fresh 1) 1 [aC r24,aC r2,aC r27,aC (aj%256),aC (aj / 256%256),aC (aj / 65536%256),aC (aj / 16777216%256)],av 0]) (E1++ [tC (eT (bc h6)),tC (eT (bc h6)),tC (bc h6),tF,aw Vb,aw Vv,aw YP,aO,.go 64,tT,tT,bH 1,tT,tT,bH 2,tT,tT,bH 3,tT,tT,bH 7,tF])).to (by clear E1;(try rw [oY d0 d1]);(subst_vars;(try simp only [aV] at*);(try simp only [cz] at h);(try simp only [bS,cI] at*);simp_all [wk,bf,cB,aD,bD,bl,bq,aW,bo];done))
 have VC:= @fL 0 ab (by decide) (by decide) d0 d1 (w==64) false h22
 have Vy:= @jg r4 ab (by (simp only [cH] at*;omega)) (by (simp only [cH] at*;omega)) d0 d1
 generalize g33:bk r4 ab=r32 at Vy
 have Y1:= @lQ aj
 exact (kA (d:= .aL [.aY (.fresh 1) 1 [aC r2,aC r32,aC (aj%256),aC (aj / 256%256),aC (aj / 65536%256),aC (aj / 16777216%256)],av 0]) (E1++ [tC (eT (bc h6)),tC (eT (bc h6)),tC (bc h6),tF,aw VC,aw Vy,aw Y1,aO,.go 64,tT,tT,bH 0,tT,tT,bH 1,tT,tT,bH 2,tT,tT,bH 6,tF])).to (by clear E1;(try rw [oY d0 d1]);(subst_vars;(try simp only [aV] at*);(try simp only [cz] at h);(try simp only [bS,cI] at*);simp_all [wk,bf,cB,aD,bD,bl,bq,aW,bo];done))
theorem yB (w ab ae aa af aj cc:Int) (d0:0≤ab) (d1:ab≤15) (s0:0≤ae) (s1:ae≤15) (b0:0≤aa) (b1:aa≤15) (p0: -2147483648≤af) (p1:af≤2147483647) (i0: -2147483648≤aj) (i1:aj≤2147483647) (c0:0≤cc) (c1:cc≤15) (hm:bC 25 w ab ae aa af aj cc=true):aP Z9 43 ([xD 25 w ab ae aa af aj cc]) (.aL [aZ 1 (bD (aD 25 w ab ae aa af aj cc)),av 0]):=by
 have c0:= @a9 25 w ab ae aa af aj cc (by decide)
 rw [hm] at c0
 have c1:= @da 25 (by decide)
 rcases cf (bP (w==64) ab ae false) with h2|h2
 ·have c3:= @eG ab ae d0 d1 s0 s1 (w==64) false h2
  generalize g5:cV (w==64) ab ae=r4 at c3
  have c6:= @jg ab ae d0 d1 s0 s1
  generalize g8:bk ab ae=r7 at c6
  exact (kA (d:= .aL [.aY (.fresh 1) 1 [aC r4,aC 15,aC (abz.u8.wrap (64+abz.u8.wrap cc)),aC r7],av 0]) [aw c0,tF,aw c1,tF,tF,tT,aw c3,aw c6,aO,.go 64,tT,tT,bH 1,tT,tT,bH 3,tT,tT,bH 4,tF]).to (by (try rw [oY d0 d1]);(subst_vars;(try simp only [aV] at*);(try simp only [cz] at h);(try simp only [bS,cI] at*);simp_all [wk,bf,cB,aD,bD,bl,bq,aW,bo,bP,ba,bI,aA];omega))
 have c9:= @fL ab ae d0 d1 s0 s1 (w==64) false h2
 have T7:= @jg ab ae d0 d1 s0 s1
 generalize g12:bk ab ae=Un at T7
 exact (kA (d:= .aL [.aY (.fresh 1) 1 [aC 15,aC (abz.u8.wrap (64+abz.u8.wrap cc)),aC Un],av 0]) [aw c0,tF,aw c1,tF,tF,tT,aw c9,aw T7,aO,.go 64,tT,tT,bH 0,tT,tT,bH 2,tT,tT,bH 3,tF]).to (by (try rw [oY d0 d1]);(subst_vars;(try simp only [aV] at*);(try simp only [cz] at h);(try simp only [bS,cI] at*);simp_all [wk,bf,cB,aD,bD,bl,bq,aW,bo,ba,bI,aA];omega))
theorem yA (w ab ae aa af aj cc:Int) (d0:0≤ab) (d1:ab≤15) (s0:0≤ae) (s1:ae≤15) (b0:0≤aa) (b1:aa≤15) (p0: -2147483648≤af) (p1:af≤2147483647) (i0: -2147483648≤aj) (i1:aj≤2147483647) (c0:0≤cc) (c1:cc≤15) (hm:bC 26 w ab ae aa af aj cc=true):aP Z9 43 ([xD 26 w ab ae aa af aj cc]) (.aL [aZ 1 (bD (aD 26 w ab ae aa af aj cc)),av 0]):=by
 have c0:= @a9 26 w ab ae aa af aj cc (by decide)
 rw [hm] at c0
 have c1:= @da 26 (by decide)
 let E1:EL:= [aw c0,tF,aw c1,tF,tF,tF,tF,tF,tF,tT]
 by_cases h2:w=8
 ·subst h2
  rcases cf (bP false ab aa false) with h3|h3
  ·have c4:= @eG ab aa d0 d1 b0 b1 false false h3
   generalize g6:cV false ab aa=r5 at c4
   rcases cf (decide (aa%8=4)) with h7|h7
   ·have c8:= @gq ab aa af d0 d1 b0 b1 p0 p1 h7
    exact (kA (d:= .aL [.aY (.fresh 1) 1 [aC r5,aC 15,aC 182,aC (128+8*(ab%8)+aa%8),aC 36,aC (af%256),aC (af / 256%256),aC (af / 65536%256),aC (af / 16777216%256)],av 0]) (E1++ [tT,aw c4,aO,aw c8,aO,.go 64,tT,tT,bH 1,tT,tT,bH 3,tT,tT,bH 9,tF])).to (by clear E1;subst_vars;(try simp only [aV] at*);(try simp only [cz] at h);(try simp only [bS,cI] at*);simp_all [wk,bf,cB,aD,show aA 26=7 from rfl,ba,bD,bl,bq,aW,bo])
   have c9:= @gp ab aa af d0 d1 b0 b1 p0 p1 h7
   exact (kA (d:= .aL [.aY (.fresh 1) 1 [aC r5,aC 15,aC 182,aC (128+8*(ab%8)+aa%8),aC (af%256),aC (af / 256%256),aC (af / 65536%256),aC (af / 16777216%256)],av 0]) (E1++ [tT,aw c4,aO,aw c9,aO,.go 64,tT,tT,bH 1,tT,tT,bH 3,tT,tT,bH 8,tF])).to (by clear E1;subst_vars;(try simp only [aV] at*);(try simp only [cz] at h);(try simp only [bS,cI] at*);simp_all [wk,bf,cB,aD,show aA 26=7 from rfl,ba,bD,bl,bq,aW,bo])
  have T7:= @fL ab aa d0 d1 b0 b1 false false h3
  rcases cf (decide (aa%8=4)) with Wm|Wm
  ·have Uc:= @gq ab aa af d0 d1 b0 b1 p0 p1 Wm
   exact (kA (d:= .aL [.aY (.fresh 1) 1 [aC 15,aC 182,aC (128+8*(ab%8)+aa%8),aC 36,aC (af%256),aC (af / 256%256),aC (af / 65536%256),aC (af / 16777216%256)],av 0]) (E1++ [tT,aw T7,aO,aw Uc,aO,.go 64,tT,tT,bH 0,tT,tT,bH 2,tT,tT,bH 8,tF])).to (by clear E1;subst_vars;(try simp only [aV] at*);(try simp only [cz] at h);(try simp only [bS,cI] at*);simp_all [wk,bf,cB,aD,show aA 26=7 from rfl,ba,bD,bl,bq,aW,bo])
  have Uh:= @gp ab aa af d0 d1 b0 b1 p0 p1 Wm
  exact (kA (d:= .aL [.aY (.fresh 1) 1 [aC 15,aC 182,aC (128+8*(ab%8)+aa%8),aC (af%256),aC (af / 256%256),aC (af / 65536%256),aC (af / 16777216%256)],av 0]) (E1++ [tT,aw T7,aO,aw Uh,aO,.go 64,tT,tT,bH 0,tT,tT,bH 2,tT,tT,bH 7,tF])).to (by clear E1;subst_vars;(try simp only [aV] at*);(try simp only [cz] at h);(try simp only [bS,cI] at*);simp_all [wk,bf,cB,aD,show aA 26=7 from rfl,ba,bD,bl,bq,aW,bo])
 let E2:EL:=E1++ [tC (bc h2)]
 by_cases h14:w=16
 ·subst h14
  rcases cf (bP false ab aa false) with h15|h15
  ·have Ui:= @eG ab aa d0 d1 b0 b1 false false h15
   generalize g18:cV false ab aa=r17 at Ui
   rcases cf (decide (aa%8=4)) with h19|h19
   ·have XD:= @gq ab aa af d0 d1 b0 b1 p0 p1 h19
    exact (kA (d:= .aL [.aY (.fresh 1) 1 [aC r17,aC 15,aC 183,aC (128+8*(ab%8)+aa%8),aC 36,aC (af%256),aC (af / 256%256),aC (af / 65536%256),aC (af / 16777216%256)],av 0]) (E2++ [tT,aw Ui,aO,aw XD,aO,.go 64,tT,tT,bH 1,tT,tT,bH 3,tT,tT,bH 9,tF])).to (by clear E1 E2;subst_vars;(try simp only [aV] at*);(try simp only [cz] at h);(try simp only [bS,cI] at*);simp_all [wk,bf,cB,aD,show aA 26=7 from rfl,ba,bD,bl,bq,aW,bo])
   have XO:= @gp ab aa af d0 d1 b0 b1 p0 p1 h19
   exact (kA (d:= .aL [.aY (.fresh 1) 1 [aC r17,aC 15,aC 183,aC (128+8*(ab%8)+aa%8),aC (af%256),aC (af / 256%256),aC (af / 65536%256),aC (af / 16777216%256)],av 0]) (E2++ [tT,aw Ui,aO,aw XO,aO,.go 64,tT,tT,bH 1,tT,tT,bH 3,tT,tT,bH 8,tF])).to (by clear E1 E2;subst_vars;(try simp only [aV] at*);(try simp only [cz] at h);(try simp only [bS,cI] at*);simp_all [wk,bf,cB,aD,show aA 26=7 from rfl,ba,bD,bl,bq,aW,bo])
  have XL:= @fL ab aa d0 d1 b0 b1 false false h15
  rcases cf (decide (aa%8=4)) with h23|h23
  ·have Vg:= @gq ab aa af d0 d1 b0 b1 p0 p1 h23
   exact (kA (d:= .aL [.aY (.fresh 1) 1 [aC 15,aC 183,aC (128+8*(ab%8)+aa%8),aC 36,aC (af%256),aC (af / 256%256),aC (af / 65536%256),aC (af / 16777216%256)],av 0]) (E2++ [tT,aw XL,aO,aw Vg,aO,.go 64,tT,tT,bH 0,tT,tT,bH 2,tT,tT,bH 8,tF])).to (by clear E1 E2;subst_vars;(try simp only [aV] at*);(try simp only [cz] at h);(try simp only [bS,cI] at*);simp_all [wk,bf,cB,aD,show aA 26=7 from rfl,ba,bD,bl,bq,aW,bo])
  have Xx:= @gp ab aa af d0 d1 b0 b1 p0 p1 h23
  exact (kA (d:= .aL [.aY (.fresh 1) 1 [aC 15,aC 183,aC (128+8*(ab%8)+aa%8),aC (af%256),aC (af / 256%256),aC (af / 65536%256),aC (af / 16777216%256)],av 0]) (E2++ [tT,aw XL,aO,aw Xx,aO,.go 64,tT,tT,bH 0,tT,tT,bH 2,tT,tT,bH 7,tF])).to (by clear E1 E2;subst_vars;(try simp only [aV] at*);(try simp only [cz] at h);(try simp only [bS,cI] at*);simp_all [wk,bf,cB,aD,show aA 26=7 from rfl,ba,bD,bl,bq,aW,bo])
 rcases cf (bP (w==64) ab aa false) with h26|h26
 ·have UR:= @eG ab aa d0 d1 b0 b1 (w==64) false h26
  generalize g29:cV (w==64) ab aa=r28 at UR
  rcases cf (decide (aa%8=4)) with h30|h30
  ·have Vy:= @gq ab aa af d0 d1 b0 b1 p0 p1 h30
   exact (kA (d:= .aL [.aY (.fresh 1) 1 [aC r28,aC 139,aC (128+8*(ab%8)+aa%8),aC 36,aC (af%256),aC (af / 256%256),aC (af / 65536%256),aC (af / 16777216%256)],av 0]) (E2++ [tC (bc h14),aw UR,aO,aw Vy,aO,.go 64,tT,tT,bH 1,tT,tT,bH 2,tT,tT,bH 8,tF])).to (by clear E1 E2;subst_vars;(try simp only [aV] at*);(try simp only [cz] at h);(try simp only [bS,cI] at*);simp_all [wk,bf,cB,aD,show aA 26=7 from rfl,ba,bD,bl,bq,aW,bo])
  have Y0:= @gp ab aa af d0 d1 b0 b1 p0 p1 h30
  exact (kA (d:= .aL [.aY (.fresh 1) 1 [aC r28,aC 139,aC (128+8*(ab%8)+aa%8),aC (af%256),aC (af / 256%256),aC (af / 65536%256),aC (af / 16777216%256)],av 0]) (E2++ [tC (bc h14),aw UR,aO,aw Y0,aO,.go 64,tT,tT,bH 1,tT,tT,bH 2,tT,tT,bH 7,tF])).to (by clear E1 E2;subst_vars;(try simp only [aV] at*);(try simp only [cz] at h);(try simp only [bS,cI] at*);simp_all [wk,bf,cB,aD,show aA 26=7 from rfl,ba,bD,bl,bq,aW,bo])
 have Yn:= @fL ab aa d0 d1 b0 b1 (w==64) false h26
 rcases cf (decide (aa%8=4)) with h34|h34
 ·have ZD:= @gq ab aa af d0 d1 b0 b1 p0 p1 h34
  exact (kA (d:= .aL [.aY (.fresh 1) 1 [aC 139,aC (128+8*(ab%8)+aa%8),aC 36,aC (af%256),aC (af / 256%256),aC (af / 65536%256),aC (af / 16777216%256)],av 0]) (E2++ [tC (bc h14),aw Yn,aO,aw ZD,aO,.go 64,tT,tT,bH 0,tT,tT,bH 1,tT,tT,bH 7,tF])).to (by clear E1 E2;subst_vars;(try simp only [aV] at*);(try simp only [cz] at h);(try simp only [bS,cI] at*);simp_all [wk,bf,cB,aD,show aA 26=7 from rfl,ba,bD,bl,bq,aW,bo])
 have c36:= @gp ab aa af d0 d1 b0 b1 p0 p1 h34
 exact (kA (d:= .aL [.aY (.fresh 1) 1 [aC 139,aC (128+8*(ab%8)+aa%8),aC (af%256),aC (af / 256%256),aC (af / 65536%256),aC (af / 16777216%256)],av 0]) (E2++ [tC (bc h14),aw Yn,aO,aw c36,aO,.go 64,tT,tT,bH 0,tT,tT,bH 1,tT,tT,bH 6,tF])).to (by clear E1 E2;subst_vars;(try simp only [aV] at*);(try simp only [cz] at h);(try simp only [bS,cI] at*);simp_all [wk,bf,cB,aD,show aA 26=7 from rfl,ba,bD,bl,bq,aW,bo])
theorem yz (w ab ae aa af aj cc:Int) (d0:0≤ab) (d1:ab≤15) (s0:0≤ae) (s1:ae≤15) (b0:0≤aa) (b1:aa≤15) (p0: -2147483648≤af) (p1:af≤2147483647) (i0: -2147483648≤aj) (i1:aj≤2147483647) (c0:0≤cc) (c1:cc≤15) (hm:bC 27 w ab ae aa af aj cc=true):aP Z9 43 ([xD 27 w ab ae aa af aj cc]) (.aL [aZ 1 (bD (aD 27 w ab ae aa af aj cc)),av 0]):=by
 have c0:= @a9 27 w ab ae aa af aj cc (by decide)
 rw [hm] at c0
 have c1:= @da 27 (by decide)
 let E1:EL:=([aw c0,tF,aw c1]++cr 8 128)
 by_cases h2:w=8
 ·subst h2
  have c3:= @eG ae aa s0 s1 b0 b1 false true (rfl:true=true)
  generalize g5:cV false ae aa=r4 at c3
  rcases cf (decide (aa%8=4)) with h6|h6
  ·have c7:= @gq ae aa af s0 s1 b0 b1 p0 p1 h6
   exact (kA (d:= .aL [.aY (.fresh 1) 1 [aC r4,aC 136,aC (128+8*(ae%8)+aa%8),aC 36,aC (af%256),aC (af / 256%256),aC (af / 65536%256),aC (af / 16777216%256)],av 0]) (E1++ [tT,aw c3,aO,aw c7,aO,.go 64,tT,tT,bH 0,tT,tT,bH 1,tT,tT,bH 2,tT,tT,bH 8,tF])).to (by clear E1;(subst_vars;(try simp only [aV] at*);(try simp only [cz] at h);(try simp only [bS,cI] at*);simp_all [wk,bf,cB,aD,bD,bl,bq,aW,bo,bP,ba,bI,aA];done))
  have c8:= @gp ae aa af s0 s1 b0 b1 p0 p1 h6
  exact (kA (d:= .aL [.aY (.fresh 1) 1 [aC r4,aC 136,aC (128+8*(ae%8)+aa%8),aC (af%256),aC (af / 256%256),aC (af / 65536%256),aC (af / 16777216%256)],av 0]) (E1++ [tT,aw c3,aO,aw c8,aO,.go 64,tT,tT,bH 0,tT,tT,bH 1,tT,tT,bH 2,tT,tT,bH 7,tF])).to (by clear E1;(subst_vars;(try simp only [aV] at*);(try simp only [cz] at h);(try simp only [bS,cI] at*);simp_all [wk,bf,cB,aD,bD,bl,bq,aW,bo,bP,ba,bI,aA];done))
 let E2:EL:=E1++ [tC (bc h2)]
 by_cases h9:w=16
 ·subst h9
  rcases cf (bP false ae aa false) with Vo|Vo
  ·have Uz:= @eG ae aa s0 s1 b0 b1 false false Vo
   generalize g13:cV false ae aa=WI at Uz
   rcases cf (decide (aa%8=4)) with h14|h14
   ·have U5:= @gq ae aa af s0 s1 b0 b1 p0 p1 h14
    exact (kA (d:= .aL [.aY (.fresh 1) 1 [aC 102,aC WI,aC 137,aC (128+8*(ae%8)+aa%8),aC 36,aC (af%256),aC (af / 256%256),aC (af / 65536%256),aC (af / 16777216%256)],av 0]) (E2++ [tT,aw Uz,aO,aw U5,aO,.go 64,tT,tT,bH 1,tT,tT,bH 2,tT,tT,bH 3,tT,tT,bH 9,tF])).to (by clear E1 E2;(subst_vars;(try simp only [aV] at*);(try simp only [cz] at h);(try simp only [bS,cI] at*);simp_all [wk,bf,cB,aD,bD,bl,bq,aW,bo,bP,ba,bI,aA];done))
   have Ui:= @gp ae aa af s0 s1 b0 b1 p0 p1 h14
   exact (kA (d:= .aL [.aY (.fresh 1) 1 [aC 102,aC WI,aC 137,aC (128+8*(ae%8)+aa%8),aC (af%256),aC (af / 256%256),aC (af / 65536%256),aC (af / 16777216%256)],av 0]) (E2++ [tT,aw Uz,aO,aw Ui,aO,.go 64,tT,tT,bH 1,tT,tT,bH 2,tT,tT,bH 3,tT,tT,bH 8,tF])).to (by clear E1 E2;(subst_vars;(try simp only [aV] at*);(try simp only [cz] at h);(try simp only [bS,cI] at*);simp_all [wk,bf,cB,aD,bD,bl,bq,aW,bo,bP,ba,bI,aA];done))
  have XF:= @fL ae aa s0 s1 b0 b1 false false Vo
  rcases cf (decide (aa%8=4)) with h18|h18
  ·have U6:= @gq ae aa af s0 s1 b0 b1 p0 p1 h18
   exact (kA (d:= .aL [.aY (.fresh 1) 1 [aC 102,aC 137,aC (128+8*(ae%8)+aa%8),aC 36,aC (af%256),aC (af / 256%256),aC (af / 65536%256),aC (af / 16777216%256)],av 0]) (E2++ [tT,aw XF,aO,aw U6,aO,.go 64,tT,tT,bH 1,tT,tT,bH 1,tT,tT,bH 2,tT,tT,bH 8,tF])).to (by clear E1 E2;(subst_vars;(try simp only [aV] at*);(try simp only [cz] at h);(try simp only [bS,cI] at*);simp_all [wk,bf,cB,aD,bD,bl,bq,aW,bo,bP,ba,bI,aA];done))
  have XD:= @gp ae aa af s0 s1 b0 b1 p0 p1 h18
  exact (kA (d:= .aL [.aY (.fresh 1) 1 [aC 102,aC 137,aC (128+8*(ae%8)+aa%8),aC (af%256),aC (af / 256%256),aC (af / 65536%256),aC (af / 16777216%256)],av 0]) (E2++ [tT,aw XF,aO,aw XD,aO,.go 64,tT,tT,bH 1,tT,tT,bH 1,tT,tT,bH 2,tT,tT,bH 7,tF])).to (by clear E1 E2;(subst_vars;(try simp only [aV] at*);(try simp only [cz] at h);(try simp only [bS,cI] at*);simp_all [wk,bf,cB,aD,bD,bl,bq,aW,bo,bP,ba,bI,aA];done))
 rcases cf (bP (w==64) ae aa (w==8)) with h21|h21
 ·have XL:= @eG ae aa s0 s1 b0 b1 (w==64) (w==8) h21
  generalize g24:cV (w==64) ae aa=r23 at XL
  rcases cf (decide (aa%8=4)) with h25|h25
  ·have Vv:= @gq ae aa af s0 s1 b0 b1 p0 p1 h25
   exact (kA (d:= .aL [.aY (.fresh 1) 1 [aC r23,aC 137,aC (128+8*(ae%8)+aa%8),aC 36,aC (af%256),aC (af / 256%256),aC (af / 65536%256),aC (af / 16777216%256)],av 0]) (E2++ [tC (bc h9),aw XL,aO,aw Vv,aO,.go 64,tT,tT,bH 0,tT,tT,bH 1,tT,tT,bH 2,tT,tT,bH 8,tF])).to (by clear E1 E2;(subst_vars;(try simp only [aV] at*);(try simp only [cz] at h);(try simp only [bS,cI] at*);simp_all [wk,bf,cB,aD,bD,bl,bq,aW,bo,bP,ba,bI,aA];done))
  have UR:= @gp ae aa af s0 s1 b0 b1 p0 p1 h25
  exact (kA (d:= .aL [.aY (.fresh 1) 1 [aC r23,aC 137,aC (128+8*(ae%8)+aa%8),aC (af%256),aC (af / 256%256),aC (af / 65536%256),aC (af / 16777216%256)],av 0]) (E2++ [tC (bc h9),aw XL,aO,aw UR,aO,.go 64,tT,tT,bH 0,tT,tT,bH 1,tT,tT,bH 2,tT,tT,bH 7,tF])).to (by clear E1 E2;(subst_vars;(try simp only [aV] at*);(try simp only [cz] at h);(try simp only [bS,cI] at*);simp_all [wk,bf,cB,aD,bD,bl,bq,aW,bo,bP,ba,bI,aA];done))
 have XX:= @fL ae aa s0 s1 b0 b1 (w==64) (w==8) h21
 rcases cf (decide (aa%8=4)) with h29|h29
 ·have VC:= @gq ae aa af s0 s1 b0 b1 p0 p1 h29
  exact (kA (d:= .aL [.aY (.fresh 1) 1 [aC 137,aC (128+8*(ae%8)+aa%8),aC 36,aC (af%256),aC (af / 256%256),aC (af / 65536%256),aC (af / 16777216%256)],av 0]) (E2++ [tC (bc h9),aw XX,aO,aw VC,aO,.go 64,tT,tT,bH 0,tT,tT,bH 0,tT,tT,bH 1,tT,tT,bH 7,tF])).to (by clear E1 E2;(subst_vars;(try simp only [aV] at*);(try simp only [cz] at h);(try simp only [bS,cI] at*);simp_all [wk,bf,cB,aD,bD,bl,bq,aW,bo,bP,ba,bI,aA];done))
 have Vy:= @gp ae aa af s0 s1 b0 b1 p0 p1 h29
 exact (kA (d:= .aL [.aY (.fresh 1) 1 [aC 137,aC (128+8*(ae%8)+aa%8),aC (af%256),aC (af / 256%256),aC (af / 65536%256),aC (af / 16777216%256)],av 0]) (E2++ [tC (bc h9),aw XX,aO,aw Vy,aO,.go 64,tT,tT,bH 0,tT,tT,bH 0,tT,tT,bH 1,tT,tT,bH 6,tF])).to (by clear E1 E2;(subst_vars;(try simp only [aV] at*);(try simp only [cz] at h);(try simp only [bS,cI] at*);simp_all [wk,bf,cB,aD,bD,bl,bq,aW,bo,bP,ba,bI,aA];done))
def rI (Ua:Int):Prop:= ∀(w ab ae aa af aj cc:Int) (d0:0≤ab) (d1:ab≤15) (s0:0≤ae) (s1:ae≤15) (b0:0≤aa) (b1:aa≤15) (p0: -2147483648≤af) (p1:af≤2147483647) (i0: -2147483648≤aj) (i1:aj≤2147483647) (c0:0≤cc) (c1:cc≤15) (hm:bC Ua w ab ae aa af aj cc=true),aP Z9 43 ([xD Ua w ab ae aa af aj cc]) (.aL [aZ 1 (bD (aD Ua w ab ae aa af aj cc)),av 0])
theorem yy:rI 28:=by
 intro w ab ae aa af aj cc d0 d1 s0 s1 b0 b1 p0 p1 i0 i1 c0 c1 hm
 have c0:= @a9 28 w ab ae aa af aj cc (by decide)
 rw [show (bC 28 w ab ae aa af aj cc)=true from hm] at c0
 have c1:= @da 28 (by decide)
 by_cases h2:w=8
 ·subst h2
  exact (kA (d:= .aL [.aY .tight 1 [aC 235,aC (abz.wrap abz.u8 aj)],av 0]) ([aw c0,tF,aw c1]++Z7 8 tF++ [tT,tT])).to (by (subst_vars;(try simp only [aV] at*);(try simp only [cz] at h);(try simp only [bS,cI] at*);simp_all [wk,bf,cB,aD,show aA 28=9 from rfl,bD,bl,bq,aW,bo];done))
 have c3:= @lQ aj
 exact (kA (d:= .aL [.aY (.fresh 1) 1 [aC 233,aC (aj%256),aC (aj / 256%256),aC (aj / 65536%256),aC (aj / 16777216%256)],av 0]) ([aw c0,tF,aw c1]++Z7 8 tF++ [tT,tC (bc h2),aw c3,aO,.go 64,tT,tT,bH 1,tT,tT,bH 5,tF])).to (by (subst_vars;(try simp only [aV] at*);(try simp only [cz] at h);(try simp only [bS,cI] at*);simp_all [wk,bf,cB,aD,show aA 28=9 from rfl,bD,bl,bq,aW,bo];done))
theorem yx:rI 29:=by
 intro w ab ae aa af aj cc d0 d1 s0 s1 b0 b1 p0 p1 i0 i1 c0 c1 hm
 have c0:= @a9 29 w ab ae aa af aj cc (by decide)
 rw [show (bC 29 w ab ae aa af aj cc)=true from hm] at c0
 have c1:= @da 29 (by decide)
 by_cases h2:w=8
 ·subst h2
  exact (kA (d:= .aL [.aY .tight 1 [aC (abz.wrap abz.u8 (112+abz.wrap abz.u8 cc)),aC (abz.wrap abz.u8 aj)],av 0]) ([aw c0,tF,aw c1]++Z7 9 tF++ [tT,tT])).to (by (subst_vars;(try simp only [aV] at*);(try simp only [cz] at h);(try simp only [bS,cI] at*);simp_all [wk,bf,cB,aD,show aA 29=10 from rfl,bD,bl,bq,aW,bo];omega))
 have c3:= @lQ aj
 exact (kA (d:= .aL [.aY (.fresh 1) 1 [aC 15,aC (abz.wrap abz.u8 (128+abz.wrap abz.u8 cc)),aC (aj%256),aC (aj / 256%256),aC (aj / 65536%256),aC (aj / 16777216%256)],av 0]) ([aw c0,tF,aw c1]++Z7 9 tF++ [tT,tC (bc h2),aw c3,aO,.go 64,tT,tT,bH 2,tT,tT,bH 6,tF])).to (by (subst_vars;(try simp only [aV] at*);(try simp only [cz] at h);(try simp only [bS,cI] at*);simp_all [wk,bf,cB,aD,show aA 29=10 from rfl,bD,bl,bq,aW,bo];omega))
theorem yw:rI 30:=by
 intro w ab ae aa af aj cc d0 d1 s0 s1 b0 b1 p0 p1 i0 i1 c0 c1 hm
 have c0:= @a9 30 w ab ae aa af aj cc (by decide)
 rw [show (bC 30 w ab ae aa af aj cc)=true from hm] at c0
 have c1:= @da 30 (by decide)
 exact (kA (d:= .aL [.aY .tight 1 [aC 195],av 0]) ([aw c0,tF,aw c1]++Z7 11 tF)).to (by (subst_vars;(try simp only [aV] at*);(try simp only [cz] at h);(try simp only [bS,cI] at*);simp_all [wk,bf,cB,aD,show aA 30=11 from rfl,bD,bl,bq,aW,bo];done))
theorem yv:rI 31:=by
 intro w ab ae aa af aj cc d0 d1 s0 s1 b0 b1 p0 p1 i0 i1 c0 c1 hm
 have c0:= @a9 31 w ab ae aa af aj cc (by decide)
 rw [show (bC 31 w ab ae aa af aj cc)=true from hm] at c0
 have c1:= @da 31 (by decide)
 exact (kA (d:= .aL [.aY .tight 1 [aC 15,aC 5],av 0]) ([aw c0,tF,aw c1]++Z7 10 tF++ [tT])).to (by (subst_vars;(try simp only [aV] at*);(try simp only [cz] at h);(try simp only [bS,cI] at*);simp_all [wk,bf,cB,aD,show aA 31=11 from rfl,bD,bl,bq,aW,bo];done))
theorem G3 (op:Int):0≤bI op∧bI op≤7:=by
 unfold bI
 repeat' split
 all_goals omega
theorem MN {op w ab ae aa af aj cc:Int} (h:bC op w ab ae aa af aj cc=true):0≤cc∧cc≤15:=by
 have hs:=(dw h).2
 unfold iy at hs
 repeat' split at hs
 all_goals first|(cases hs;done)|(simp only [kO,Bool.and_eq_true,bS] at hs;omega)
theorem yu (op w ab ae aa af aj cc:Int) (ho:op≤127) (hm:bC op w ab ae aa af aj cc=true):
  aP Z9 43 [xD op w ab ae aa af aj cc] (.aL [aZ 1 (bD (aD op w ab ae aa af aj cc)),av 0]):=by
 obtain ⟨⟨d0,d1,s0,s1,b0,b1,p0,p1,i0,i1⟩,hs⟩:=dw hm
 obtain ⟨c0,c1⟩:=MN hm
 obtain ⟨n0,n1⟩:=G3 op
 have VO:aA op≠0:=by
  intro e
  rw [e] at hs
  simp [iy] at hs
 obtain ⟨k,e⟩:=sH VO
 have Ue:decide (0≤op∧op≤31)=true:=by rw [e];simp;omega
 have hr:=kr k
 rw [← e] at hr
 rcases hr with h|h|h|h|h|h|h|h|h|h|h
 ·exact Ed _ _ _ _ _ _ _ _ ho d0 d1 s0 s1 b0 b1 p0 p1 i0 i1 c0 c1 n0 n1 (by rw [h];rfl) Ue hm
 ·have e2:op=16:=by
   rw [e] at h ⊢
   revert h
   exact (by decide+kernel:∀n:Fin 32,aA (n.val:Int)=2→(n.val:Int)=16) k
  subst e2
  exact yC _ _ _ _ _ _ _ d0 d1 s0 s1 b0 b1 p0 p1 i0 i1 c0 c1 hm
 ·exact Ec _ _ _ _ _ _ _ _ ho d0 d1 s0 s1 b0 b1 p0 p1 i0 i1 c0 c1 n0 n1 (by rw [h];rfl) Ue (dW (by rw [h] at hs;simp [iy] at hs;exact hs.1)) hm
 ·exact Eb _ _ _ _ _ _ _ _ ho d0 d1 s0 s1 b0 b1 p0 p1 i0 i1 c0 c1 n0 n1 (by rw [h];rfl) Ue hm
 ·exact Ea _ _ _ _ _ _ _ _ ho d0 d1 s0 s1 b0 b1 p0 p1 i0 i1 c0 c1 n0 n1 (by rw [h];rfl) Ue hm
 ·have e2:op=25:=by rw [e] at h ⊢;exact qU k h
  subst e2
  exact yB _ _ _ _ _ _ _ d0 d1 s0 s1 b0 b1 p0 p1 i0 i1 c0 c1 hm
 ·have e2:op=26:=by rw [e] at h ⊢;exact qT k h
  subst e2
  exact yA _ _ _ _ _ _ _ d0 d1 s0 s1 b0 b1 p0 p1 i0 i1 c0 c1 hm
 ·have e2:op=27:=by rw [e] at h ⊢;exact qS k h
  subst e2
  exact yz _ _ _ _ _ _ _ d0 d1 s0 s1 b0 b1 p0 p1 i0 i1 c0 c1 hm
 ·have e2:op=28:=by rw [e] at h ⊢;exact qR k h
  subst e2
  exact yy _ _ _ _ _ _ _ d0 d1 s0 s1 b0 b1 p0 p1 i0 i1 c0 c1 hm
 ·have e2:op=29:=by rw [e] at h ⊢;exact oC k h
  subst e2
  exact yx _ _ _ _ _ _ _ d0 d1 s0 s1 b0 b1 p0 p1 i0 i1 c0 c1 hm
 ·rcases oB k (by rw [e] at h;exact h) with e2|e2
  ·rw [← e] at e2;subst e2
   exact yw _ _ _ _ _ _ _ d0 d1 s0 s1 b0 b1 p0 p1 i0 i1 c0 c1 hm
  ·rw [← e] at e2;subst e2
   exact yv _ _ _ _ _ _ _ d0 d1 s0 s1 b0 b1 p0 p1 i0 i1 c0 c1 hm
theorem Bq (op w ab ae aa af aj cc:Int) (ho:op≤127) (hm:bC op w ab ae aa af aj cc=false):aP Z9 43 ([xD op w ab ae aa af aj cc]) (.aL [aZ 1 [],av 2]):=by
 have c0:= @a9 op w ab ae aa af aj cc ho
 rw [show (bC op w ab ae aa af aj cc)=false from hm] at c0
 exact (kA (d:= .aL [.aY .tight 0 [],av 2]) [aw c0,tT]).to (by simp [wk,bf,cB])
theorem jP (op w ab ae aa af aj cc:Int) (ho:op≤127):aP Z9 43 [xD op w ab ae aa af aj cc] (.aL [aZ 1 (lU op w ab ae aa af aj cc),av (qm op w ab ae aa af aj cc)]):=by
 unfold lU qm
 cases h:bC op w ab ae aa af aj cc
 ·exact Bq op w ab ae aa af aj cc ho h
 ·exact yu op w ab ae aa af aj cc ho h
theorem cP (op w ab ae aa af aj cc:Int) (ho:op≤127):aP Z9 116 ([xD op w ab ae aa af aj cc]) (av (ck op w ab ae aa af aj cc)):=by
 have c0:= @jP op w ab ae aa af aj cc ho
 exact (R5 (d:= .int .i64 (↑(aaa (lU op w ab ae aa af aj cc)):Int)) [aw c0]).to (by simp [wk,ck])
theorem OA (b:List Int) (s:aJ):aB Z9 (cq Tryz.f141 0) ⟨[],[1,2,3,5],[]⟩ 9 ([D.jx 5,.ptr false 4 0,uu,.ptr false 7 0]++eA 11++ [.agg jA,av 32]++eA 16) [ay [aZ 1 (bD b)],ay [ao 0,ao 0,ao 0,ao 0,ao 0,av 0,av 0,ao 0],ay [av 0],ay [av 0],ay [aZ 1 (bD b)],
 Ob.lp Lk.ready
  (let y:=
   let y:=
    let y:=(eA 5);
    uu::uu::uu::uu::uu::y;
   let y:=uu::uu::uu::uu::uu::y;
   uu::uu::uu::uu::uu::y;
  let y:=
   let y:=uu::uu::uu::uu::uu::y;
   uu::uu::uu::uu::uu::y;
  let y:= .ptr false 3 0::uu::uu::uu::uu::y;
  uu:: .ptr false 0 0:: .ptr false 1 0:: .ptr false 2 0::y)
  #[10] (dv aaS 0) (du aaS 0),
 .dead,ay [ao (aJ.w s),ax (aJ.eO s),aC (aJ.code s),ao (aJ.r s),ao (aJ.m s),av (aJ.af s),av (aJ.aj s),av (aJ.small s),av (aJ.gk s),av (aJ.gY s),ao (aJ.high s)],aF] (Ex.exit 0) (eA 33) ([aF,ay [ao 0,ao 0,ao 0,ao 0,ao 0,av 0,av 0,ao 0],ay [av 0],ay [av 0],aF,Ob.lp Lk.ready ([uu,.ptr false 0 0,.ptr false 1 0,.ptr false 2 0,.ptr false 3 0]++eA 34) #[10] (dv aaS 0) (du aaS 0),aF,aF,aF]):=aB.ai mixed [tF] (by kernel_rfl)
theorem Oy (b own:List Int) (s:aJ) (k:Int) (k0:0≤k) (k1:k≤31) (v0:0≤s.code) (v1:s.code≤255) (hh:s.high=0∨s.high=8) (hy:aP Z9 72 [me (fK s k)] (ax false)):aB Z9 (cq Tryz.f141 0) ⟨[0,1,3,15,16],[0,1,2,3,4,5,7],[]⟩ 9 ([D.jx 5,.ptr false 4 0,uu,.ptr false 7 0]++eA 11++ [.agg jA,av k]++eA 16) [ay [aZ 1 (bD b)],ay [ao 0,ao 0,ao 0,ao 0,ao 0,av 0,av 0,ao 0],ay [av 0],ay [av 0],ay [aZ 1 (bD b)],
 Ob.lp Lk.ready
  (let y:=
   let y:=
    let y:=(eA 5);
    uu::uu::uu::uu::uu::y;
   let y:=uu::uu::uu::uu::uu::y;
   uu::uu::uu::uu::uu::y;
  let y:=
   let y:=uu::uu::uu::uu::uu::y;
   uu::uu::uu::uu::uu::y;
  let y:= .ptr false 3 0::uu::uu::uu::uu::y;
  uu:: .ptr false 0 0:: .ptr false 1 0:: .ptr false 2 0::y)
  #[10] (dv aaS 0) (du aaS 0),
 .dead,ay [ao (aJ.w s),ax (aJ.eO s),aC (aJ.code s),ao (aJ.r s),ao (aJ.m s),av (aJ.af s),av (aJ.aj s),av (aJ.small s),av (aJ.gk s),av (aJ.gY s),ao (aJ.high s)],aF] .norm ([D.jx 5,.ptr false 4 0,uu,.ptr false 7 0]++eA 11++ [.agg jA,av (abz.i64.wrap (k+1))]++eA 16) ([ay [aZ 1 (bD b)],ay [ao 0,ao 0,ao 0,ao 0,ao 0,av 0,av 0,ao 0],ay [av 0],ay [av 0],ay [aZ 1 (bD b)],.lp .ready ([uu,.ptr false 0 0,.ptr false 1 0,.ptr false 2 0,.ptr false 3 0]++eA 34) #[10] (dv aaS 0) (du aaS 0),aF,ay [ao (aJ.w s),.bool (aJ.eO s),aC (aJ.code s),ao (aJ.r s),ao (aJ.m s),av (aJ.af s),av (aJ.aj s),av (aJ.small s),av (aJ.gk s),av (aJ.gY s),ao (aJ.high s)],aF]):=aB.ai mixed [tC (b8 (aac k1)),.cX (decide (0≤k∧k<(↑(32:Nat):Int))) true (by (simp only [cH] at*;omega)),.po _ _ _ _ (@pn k k0 k1),.aH _ _ _ _ _ (@FU s k k0 k1 v0 v1 hh (ay [aZ 1 (bD b)]) (ay [ao 0,ao 0,ao 0,ao 0,ao 0,av 0,av 0,ao 0]) (ay [av 0]) (ay [av 0]) (ay [aZ 1 (bD b)]) (Ob.lp Lk.ready ([uu,.ptr false 0 0,.ptr false 1 0,.ptr false 2 0,.ptr false 3 0]++eA 34) #[10] (dv aaS 0) (du aaS 0)) (aF) (aF) (ay [ao (aA k),aC (ba k),ao (bI k)])),aw hy,tF,tF,tF,tF,tF,tF] (by kernel_rfl)
theorem Mr (b own:List Int) (s:aJ) (k:Int) (k0:0≤k) (k1:k≤31) (v0:0≤s.code) (v1:s.code≤255) (hh:s.high=0∨s.high=8) (hy:aP Z9 72 [me (fK s k)] (ax true)) (hb:aP Z9 43 [me (fK s k)] (.aL [aZ 1 (bD own),av 0])) (hl:((bD b).length:Int)<((bD own).length:Int)):aB Z9 (cq Tryz.f141 0) ⟨[0,1,3,15,16],[0,1,2,3,4,5,7],[]⟩ 9 ([D.jx 5,.ptr false 4 0,uu,.ptr false 7 0]++eA 11++ [.agg jA,av k]++eA 16) [ay [aZ 1 (bD b)],ay [ao 0,ao 0,ao 0,ao 0,ao 0,av 0,av 0,ao 0],ay [av 0],ay [av 0],ay [aZ 1 (bD b)],
 Ob.lp Lk.ready
  (let y:=
   let y:=
    let y:=(eA 5);
    uu::uu::uu::uu::uu::y;
   let y:=uu::uu::uu::uu::uu::y;
   uu::uu::uu::uu::uu::y;
  let y:=
   let y:=uu::uu::uu::uu::uu::y;
   uu::uu::uu::uu::uu::y;
  let y:= .ptr false 3 0::uu::uu::uu::uu::y;
  uu:: .ptr false 0 0:: .ptr false 1 0:: .ptr false 2 0::y)
  #[10] (dv aaS 0) (du aaS 0),
 .dead,ay [ao (aJ.w s),ax (aJ.eO s),aC (aJ.code s),ao (aJ.r s),ao (aJ.m s),av (aJ.af s),av (aJ.aj s),av (aJ.small s),av (aJ.gk s),av (aJ.gY s),ao (aJ.high s)],aF] .norm ([D.jx 5,.ptr false 4 0,uu,.ptr false 7 0]++eA 11++ [.agg jA,av (abz.i64.wrap (k+1))]++eA 16) ([ay [aZ 1 (bD b)],ay [ao 0,ao 0,ao 0,ao 0,ao 0,av 0,av 0,ao 0],ay [av 0],ay [av 0],ay [aZ 1 (bD b)],.lp .ready ([uu,.ptr false 0 0,.ptr false 1 0,.ptr false 2 0,.ptr false 3 0]++eA 34) #[10] (dv aaS 0) (du aaS 0),aF,ay [ao (aJ.w s),.bool (aJ.eO s),aC (aJ.code s),ao (aJ.r s),ao (aJ.m s),av (aJ.af s),av (aJ.aj s),av (aJ.small s),av (aJ.gk s),av (aJ.gY s),ao (aJ.high s)],aF]):=aB.ai mixed ([tC (b8 (aac k1)),.cX (decide (0≤k∧k<(↑(32:Nat):Int))) true (by (simp only [cH] at*;omega)),.po _ _ _ _ (@pn k k0 k1),.aH _ _ _ _ _ (@FU s k k0 k1 v0 v1 hh (ay [aZ 1 (bD b)]) (ay [ao 0,ao 0,ao 0,ao 0,ao 0,av 0,av 0,ao 0]) (ay [av 0]) (ay [av 0]) (ay [aZ 1 (bD b)]) (Ob.lp Lk.ready ([uu,.ptr false 0 0,.ptr false 1 0,.ptr false 2 0,.ptr false 3 0]++eA 34) #[10] (dv aaS 0) (du aaS 0)) (aF) (aF) (ay [ao (aA k),aC (ba k),ao (bI k)])),aw hy,tT,tT,tT,aO,aw hb,tT,tT,tT,tT,tT,tT]++ [tC (eT (by (simp only [cH] at*;omega):(decide ((↑(aaa (bD own)):Int)≤(↑(aaa (bD b)):Int)))=false)),tC (eT (by (simp only [cH] at*;omega):(decide ((↑(aaa (bD own)):Int)≤(↑(aaa (bD b)):Int)))=false)),tC (eT (by (simp only [cH] at*;omega):(decide ((↑(aaa (bD own)):Int)≤(↑(aaa (bD b)):Int)))=false)),tC (eT (by (simp only [cH] at*;omega):(decide ((↑(aaa (bD own)):Int)≤(↑(aaa (bD b)):Int)))=false)),tC (eT (by (simp only [cH] at*;omega):(decide ((↑(aaa (bD own)):Int)≤(↑(aaa (bD b)):Int)))=false)),tC (eT (by (simp only [cH] at*;omega):(decide ((↑(aaa (bD own)):Int)≤(↑(aaa (bD b)):Int)))=false)),tC (eT (by (simp only [cH] at*;omega):(decide ((↑(aaa (bD own)):Int)≤(↑(aaa (bD b)):Int)))=false)),tC (eT (by (simp only [cH] at*;omega):(decide ((↑(aaa (bD own)):Int)≤(↑(aaa (bD b)):Int)))=false)),tC (by (simp only [cH] at*;omega):(decide ((↑(aaa (bD own)):Int)≤(↑(aaa (bD b)):Int)))=false),tF,tT,tT,tF]) (by kernel_rfl)
theorem Ox (b own:List Int) (s:aJ) (k:Int) (k0:0≤k) (k1:k≤31) (v0:0≤s.code) (v1:s.code≤255) (hh:s.high=0∨s.high=8) (hy:aP Z9 72 [me (fK s k)] (ax true)) (hb:aP Z9 43 [me (fK s k)] (.aL [aZ 1 (bD own),av 0])) (hl:((bD own).length:Int)≤((bD b).length:Int)) (hs:((gC (bD own)).toList==(gC (List.take (aal ((aaa (bD own):Nat):Int)) (bD b))).toList)=false):aB Z9 (cq Tryz.f141 0) ⟨[0,1,3,15,16],[0,1,2,3,4,5,7],[]⟩ 9 ([D.jx 5,.ptr false 4 0,uu,.ptr false 7 0]++eA 11++ [.agg jA,av k]++eA 16) [ay [aZ 1 (bD b)],ay [ao 0,ao 0,ao 0,ao 0,ao 0,av 0,av 0,ao 0],ay [av 0],ay [av 0],ay [aZ 1 (bD b)],
 Ob.lp Lk.ready
  (let y:=
   let y:=
    let y:=(eA 5);
    uu::uu::uu::uu::uu::y;
   let y:=uu::uu::uu::uu::uu::y;
   uu::uu::uu::uu::uu::y;
  let y:=
   let y:=uu::uu::uu::uu::uu::y;
   uu::uu::uu::uu::uu::y;
  let y:= .ptr false 3 0::uu::uu::uu::uu::y;
  uu:: .ptr false 0 0:: .ptr false 1 0:: .ptr false 2 0::y)
  #[10] (dv aaS 0) (du aaS 0),
 .dead,ay [ao (aJ.w s),ax (aJ.eO s),aC (aJ.code s),ao (aJ.r s),ao (aJ.m s),av (aJ.af s),av (aJ.aj s),av (aJ.small s),av (aJ.gk s),av (aJ.gY s),ao (aJ.high s)],aF] .norm ([D.jx 5,.ptr false 4 0,uu,.ptr false 7 0]++eA 11++ [.agg jA,av (abz.i64.wrap (k+1))]++eA 16) ([ay [aZ 1 (bD b)],ay [ao 0,ao 0,ao 0,ao 0,ao 0,av 0,av 0,ao 0],ay [av 0],ay [av 0],ay [aZ 1 (bD b)],.lp .ready ([uu,.ptr false 0 0,.ptr false 1 0,.ptr false 2 0,.ptr false 3 0]++eA 34) #[10] (dv aaS 0) (du aaS 0),aF,ay [ao (aJ.w s),.bool (aJ.eO s),aC (aJ.code s),ao (aJ.r s),ao (aJ.m s),av (aJ.af s),av (aJ.aj s),av (aJ.small s),av (aJ.gk s),av (aJ.gY s),ao (aJ.high s)],aF]):=aB.ai mixed ([tC (b8 (aac k1)),.cX (decide (0≤k∧k<(↑(32:Nat):Int))) true (by (simp only [cH] at*;omega)),.po _ _ _ _ (@pn k k0 k1),.aH _ _ _ _ _ (@FU s k k0 k1 v0 v1 hh (ay [aZ 1 (bD b)]) (ay [ao 0,ao 0,ao 0,ao 0,ao 0,av 0,av 0,ao 0]) (ay [av 0]) (ay [av 0]) (ay [aZ 1 (bD b)]) (Ob.lp Lk.ready ([uu,.ptr false 0 0,.ptr false 1 0,.ptr false 2 0,.ptr false 3 0]++eA 34) #[10] (dv aaS 0) (du aaS 0)) (aF) (aF) (ay [ao (aA k),aC (ba k),ao (bI k)])),aw hy,tT,tT,tT,aO,aw hb,tT,tT,tT,tT,tT,tT]++ [tC (eT (by (simp only [cH] at*;omega):(decide ((↑(aaa (bD own)):Int)≤(↑(aaa (bD b)):Int)))=true)),tC (eT (by (simp only [cH] at*;omega):(decide ((↑(aaa (bD own)):Int)≤(↑(aaa (bD b)):Int)))=true)),tC (v:=true) (@Em own),tC (eT (by (simp only [cH] at*;omega):(decide ((↑(aaa (bD own)):Int)≤(↑(aaa (bD b)):Int)))=true)),tC (eT (by (simp only [cH] at*;omega):(decide ((↑(aaa (bD own)):Int)≤(↑(aaa (bD b)):Int)))=true)),tC (eT (by (simp only [cH] at*;omega):(decide ((↑(aaa (bD own)):Int)≤(↑(aaa (bD b)):Int)))=true)),tC (eT (by (simp only [cH] at*;omega):(decide ((↑(aaa (bD own)):Int)≤(↑(aaa (bD b)):Int)))=true)),.cX (decide (0≤(↑(aaa (bD own)):Int)∧(↑(aaa (bD own)):Int)≤(↑(aaa (bD b)):Int))) true (by (simp only [cH] at*;omega)),tC (eT (by (simp only [cH] at*;omega):(decide ((↑(aaa (bD own)):Int)≤(↑(aaa (bD b)):Int)))=true)),tC (v:=true) (@jU b (aal (↑(aaa (bD own)):Int))),tC (eT (by (simp only [cH] at*;omega):(decide ((↑(aaa (bD own)):Int)≤(↑(aaa (bD b)):Int)))=true)),tC (by (simp only [cH] at*;omega):(decide ((↑(aaa (bD own)):Int)≤(↑(aaa (bD b)):Int)))=true),tC hs,tT,tT,tF]) (by kernel_rfl)
theorem Oz (b own:List Int) (s:aJ) (k:Int) (k0:0≤k) (k1:k≤31) (v0:0≤s.code) (v1:s.code≤255) (hh:s.high=0∨s.high=8) (hy:aP Z9 72 [me (fK s k)] (ax true)) (hb:aP Z9 43 [me (fK s k)] (.aL [aZ 1 (bD own),av 0])) (hl:((bD own).length:Int)≤((bD b).length:Int)) (hs:((gC (bD own)).toList==(gC (List.take (aal ((aaa (bD own):Nat):Int)) (bD b))).toList)=true):aB Z9 (cq Tryz.f141 0) ⟨[],[1,2,3,5],[]⟩ 9 ([D.jx 5,.ptr false 4 0,uu,.ptr false 7 0]++eA 11++ [.agg jA,av k]++eA 16) [ay [aZ 1 (bD b)],ay [ao 0,ao 0,ao 0,ao 0,ao 0,av 0,av 0,ao 0],ay [av 0],ay [av 0],ay [aZ 1 (bD b)],
 Ob.lp Lk.ready
  (let y:=
   let y:=
    let y:=(eA 5);
    uu::uu::uu::uu::uu::y;
   let y:=uu::uu::uu::uu::uu::y;
   uu::uu::uu::uu::uu::y;
  let y:=
   let y:=uu::uu::uu::uu::uu::y;
   uu::uu::uu::uu::uu::y;
  let y:= .ptr false 3 0::uu::uu::uu::uu::y;
  uu:: .ptr false 0 0:: .ptr false 1 0:: .ptr false 2 0::y)
  #[10] (dv aaS 0) (du aaS 0),
 .dead,ay [ao (aJ.w s),ax (aJ.eO s),aC (aJ.code s),ao (aJ.r s),ao (aJ.m s),av (aJ.af s),av (aJ.aj s),av (aJ.small s),av (aJ.gk s),av (aJ.gY s),ao (aJ.high s)],aF] (Ex.ret) (eA 33) ([aF,ay [ao (XS.op (fK s k)),ao (XS.w (fK s k)),ao (XS.ab (fK s k)),ao (XS.ae (fK s k)),ao (XS.aa (fK s k)),av (XS.af (fK s k)),av (XS.aj (fK s k)),ao (XS.cc (fK s k))],ay [av (↑(aaa (bD own)):Int)],ay [av 0],aF,Ob.lp Lk.ret ([uu,.ptr false 0 0,.ptr false 1 0,.ptr false 2 0,.ptr false 3 0]++eA 34) #[10] (dv aaS 0) (du aaS 0),aF,aF,aF]):=aB.ai mixed ([tC (b8 (aac k1)),.cX (decide (0≤k∧k<(↑(32:Nat):Int))) true (by (simp only [cH] at*;omega)),.po _ _ _ _ (@pn k k0 k1),.aH _ _ _ _ _ (@FU s k k0 k1 v0 v1 hh (ay [aZ 1 (bD b)]) (ay [ao 0,ao 0,ao 0,ao 0,ao 0,av 0,av 0,ao 0]) (ay [av 0]) (ay [av 0]) (ay [aZ 1 (bD b)]) (Ob.lp Lk.ready ([uu,.ptr false 0 0,.ptr false 1 0,.ptr false 2 0,.ptr false 3 0]++eA 34) #[10] (dv aaS 0) (du aaS 0)) (aF) (aF) (ay [ao (aA k),aC (ba k),ao (bI k)])),aw hy,tT,tT,tT,aO,aw hb,tT,tT,tT,tT,tT,tT]++ [tC (eT (by (simp only [cH] at*;omega):(decide ((↑(aaa (bD own)):Int)≤(↑(aaa (bD b)):Int)))=true)),tC (eT (by (simp only [cH] at*;omega):(decide ((↑(aaa (bD own)):Int)≤(↑(aaa (bD b)):Int)))=true)),tC (v:=true) (@Em own),tC (eT (by (simp only [cH] at*;omega):(decide ((↑(aaa (bD own)):Int)≤(↑(aaa (bD b)):Int)))=true)),tC (eT (by (simp only [cH] at*;omega):(decide ((↑(aaa (bD own)):Int)≤(↑(aaa (bD b)):Int)))=true)),tC (eT (by (simp only [cH] at*;omega):(decide ((↑(aaa (bD own)):Int)≤(↑(aaa (bD b)):Int)))=true)),tC (eT (by (simp only [cH] at*;omega):(decide ((↑(aaa (bD own)):Int)≤(↑(aaa (bD b)):Int)))=true)),.cX (decide (0≤(↑(aaa (bD own)):Int)∧(↑(aaa (bD own)):Int)≤(↑(aaa (bD b)):Int))) true (by (simp only [cH] at*;omega)),tC (eT (by (simp only [cH] at*;omega):(decide ((↑(aaa (bD own)):Int)≤(↑(aaa (bD b)):Int)))=true)),tC (v:=true) (@jU b (aal (↑(aaa (bD own)):Int))),tC (eT (by (simp only [cH] at*;omega):(decide ((↑(aaa (bD own)):Int)≤(↑(aaa (bD b)):Int)))=true)),tC (by (simp only [cH] at*;omega):(decide ((↑(aaa (bD own)):Int)≤(↑(aaa (bD b)):Int)))=true),tC hs,tT,tT,tT]) (by kernel_rfl)
abbrev gT (n:Int):List D:=([.jx 5,.ptr false 4 0,cF,.ptr false 7 0]++eA 11++ [.agg jA,av n]++eA 16)
abbrev gU:List D:=(eA 33)
abbrev Sj (ag bd:Code) (k:Lk):Ob:= .lp k ([cF,.ptr false 0 0,.ptr false 1 0,.ptr false 2 0,.ptr false 3 0]++eA 34) #[10] ag bd
abbrev SO:Ob:= .box [ao 0,ao 0,ao 0,ao 0,ao 0,av 0,av 0,ao 0]
abbrev gS (ag bd:Code) (b:List Int) (s:aJ):List Ob:= [ay [aZ 1 (bD b)],SO,ay [av 0],ay [av 0],ay [aZ 1 (bD b)],Sj ag bd .ready,aF,
  .box [ao s.w,ax s.eO,aC s.code,ao s.r,ao s.m,av s.af,av s.aj,av s.small,av s.gk,av s.gY,ao s.high],aF]
abbrev SP:Option XS→Ex
  |none=> .exit 0
  |some _=> .ret
abbrev Nb (ag bd:Code):Option XS→List Ob
  |none=> [aF,SO,ay [.int .i64 0],ay [.int .i64 0],aF,Sj ag bd .ready,aF,aF,aF]
  |some x=> [aF,ay [.int .i8 x.op,.int .i8 x.w,.int .i8 x.ab,.int .i8 x.ae,.int .i8 x.aa,.int .i64 x.af,.int .i64 x.aj,.int .i8 x.cc],ay [.int .i64 (cR x).length],ay [.int .i64 0],aF,Sj ag bd .ret,aF,aF,aF]
theorem lO (b:List Int) (hb:dr b) (s:aJ) (v0:0≤s.code) (v1:s.code≤255) (hh:s.high=0∨s.high=8):∀(m n:Nat),n+m=32→
  bL Z9 (cq Tryz.f141 0) 9 (gT n) (gS (dv aaS 0) (du aaS 0) b s) (SP (gd b s (hQ.drop n))) gU (Nb (dv aaS 0) (du aaS 0) (gd b s (hQ.drop n)))
 |0,n,hn=>by
  obtain rfl:n=32:=by omega
  exact bL.last (OA b s) (fun h=>by cases h)
 |m+1,n,hn=>by
  have T1:n<32:=by omega
  rw [AH T1]
  have Va:=PM s (n:Int)
  have hle:(fK s (n:Int)).op≤127:=by rw [Va];omega
  have hw:abz.i64.wrap ((n:Int)+1)=((n+1:Nat):Int):=by rw [aN];omega
  have ih:=lO b hb s v0 v1 hh m (n+1) (by omega)
  have hy:aP Z9 72 [me (fK s (n:Int))] (ax (nK (fK s (n:Int)))):=a9 _ _ _ _ _ _ _ _ hle
  have go:∀ {t2:List D} {s2:List Ob},aB Z9 (cq Tryz.f141 0) ⟨[0,1,3,15,16],[0,1,2,3,4,5,7],[]⟩ 9 (gT n) (gS (dv aaS 0) (du aaS 0) b s) .norm (gT (abz.i64.wrap ((n:Int)+1))) (gS (dv aaS 0) (du aaS 0) b s)→iZ b (fK s (n:Int))=false→
    bL Z9 (cq Tryz.f141 0) 9 (gT n) (gS (dv aaS 0) (du aaS 0) b s) (SP (gd b s ((n:Int)::hQ.drop (n+1)))) gU (Nb (dv aaS 0) (du aaS 0) (gd b s ((n:Int)::hQ.drop (n+1)))):=by
   intro _ _ h hf
   have e:gd b s ((n:Int)::hQ.drop (n+1))=gd b s (hQ.drop (n+1)):=by simp only [gd,hf,Bool.false_eq_true,if_false]
   rw [e]
   rw [hw] at h
   exact bL.iw h ih
  cases hm:nK (fK s (n:Int)) with
  |false=>
   rw [hm] at hy
   exact go (t2:= []) (s2:= []) (Oy b [] s n (by omega) (by omega) v0 v1 hh hy) (by simp [iZ,hm])
  |true=>
   rw [hm] at hy
   have ho:=qI hm
   have Ya:aP Z9 43 [me (fK s (n:Int))] (.aL [aZ 1 (bD (cR (fK s (n:Int)))),av 0]):=by
    have:=jP (fK s (n:Int)).op (fK s (n:Int)).w (fK s (n:Int)).ab (fK s (n:Int)).ae (fK s (n:Int)).aa (fK s (n:Int)).af (fK s (n:Int)).aj (fK s (n:Int)).cc hle
    have Vm:bC (fK s (n:Int)).op (fK s (n:Int)).w (fK s (n:Int)).ab (fK s (n:Int)).ae (fK s (n:Int)).aa (fK s (n:Int)).af (fK s (n:Int)).aj (fK s (n:Int)).cc=true:=hm
    simp only [lU,qm,Vm,if_true] at this
    exact this
   have VD:=Nc ho hb
   by_cases hp:(cR (fK s (n:Int))).isPrefixOf b=true
   ·obtain ⟨h1,h2⟩:=VD.1 hp
    have e:gd b s ((n:Int)::hQ.drop (n+1))=some (fK s (n:Int)):=by simp only [gd,iZ,hm,hp,Bool.and_self,if_true]
    rw [e]
    have:=Oz b (cR (fK s (n:Int))) s n (by omega) (by omega) v0 v1 hh hy Ya h1 h2
    rw [aQ] at this
    exact bL.last this (fun h=>by cases h)
   ·have hf:iZ b (fK s (n:Int))=false:=by simp [iZ,hm,hp]
    by_cases hl:((bD (cR (fK s (n:Int)))).length:Int)≤((bD b).length:Int)
    ·have hs:((gC (bD (cR (fK s (n:Int))))).toList==(gC (List.take (aal ((aaa (bD (cR (fK s (n:Int)))):Nat):Int)) (bD b))).toList)=false:=by
      cases e:((gC (bD (cR (fK s (n:Int))))).toList==(gC (List.take (aal ((aaa (bD (cR (fK s (n:Int)))):Nat):Int)) (bD b))).toList) with
      |false=>rfl
      |true=>exact absurd (VD.2 ⟨hl,e⟩) hp
     exact go (t2:= []) (s2:= []) (Ox b _ s n (by omega) (by omega) v0 v1 hh hy Ya hl hs) hf
    ·exact go (t2:= []) (s2:= []) (Mr b _ s n (by omega) (by omega) v0 v1 hh hy Ya (by omega)) hf
theorem Dc (b:List Int) (hb:dr b) (s:aJ) (v0:0≤s.code) (v1:s.code≤255) (hh:s.high=0∨s.high=8) (hf:gd b s hQ=none):
  b5 Z9 9 (.loop (cq Tryz.f141 0)) (gT 0) (gS (dv aaS 0) (du aaS 0) b s) (.exit 0) gU (Nb (dv aaS 0) (du aaS 0) none):=by
 have h:=lO b hb s v0 v1 hh 32 0 rfl
 rw [aa0,hf] at h
 exact b5.eK (Nat.le_refl _) h
theorem Db (b:List Int) (hb:dr b) (s:aJ) (v0:0≤s.code) (v1:s.code≤255) (hh:s.high=0∨s.high=8) (x:XS) (hf:gd b s hQ=some x):
  b5 Z9 9 (.loop (cq Tryz.f141 0)) (gT 0) (gS (dv aaS 0) (du aaS 0) b s) .ret gU (Nb (dv aaS 0) (du aaS 0) (some x)):=by
 have h:=lO b hb s v0 v1 hh 32 0 rfl
 rw [aa0,hf] at h
 exact b5.eK (Nat.le_refl _) h
theorem J0 (b:List Int) (s:aJ) (hp:aP Z9 142 [aZ 1 (bD b)] (.aL [nP s,ax false])):aP Z9 81 ([aZ 1 (bD b)]) (.aL [xD 0 0 0 0 0 0 0 0,av 0,av 30]):=(aP.ai (d:= .aL [(xD 0 0 0 0 0 0 0 0),av 0,av 30]) mixed Tryz.func81 (by kernel_rfl) [aO,.NR [1,2,3,4],aw hp,tT]).to (by simp [wk,bf,me])
theorem JZ (b:List Int) (hb:dr b) (s:aJ) (v0:0≤s.code) (v1:s.code≤255) (hh:s.high=0∨s.high=8) (hp:aP Z9 142 [aZ 1 (bD b)] (.aL [nP s,ax true])) (hf:gd b s hQ=none):aP Z9 81 ([aZ 1 (bD b)]) (.aL [xD 0 0 0 0 0 0 0 0,av 0,av 30]):=by
 have c0:= @Dc (b) hb (s) v0 v1 hh hf
 exact (aP.ai (d:= .aL [(xD 0 0 0 0 0 0 0 0),av 0,av 30]) mixed Tryz.func81 (by kernel_rfl) [aO,.NR [1,2,3,4],aw hp,tF,aO,.head ⟨[0,1,3,15,16],[0,1,2,3,4,5,7],[]⟩ _ _ _ _ _ _ _ c0]).to (by simp [wk,bf,me])
theorem JY (b:List Int) (hb:dr b) (s:aJ) (v0:0≤s.code) (v1:s.code≤255) (hh:s.high=0∨s.high=8) (hp:aP Z9 142 [aZ 1 (bD b)] (.aL [nP s,ax true])) (x:XS) (hf:gd b s hQ=some x):aP Z9 81 ([aZ 1 (bD b)]) (.aL [me x,av (cR x).length,av 0]):=by
 have c0:= @Db (b) hb (s) v0 v1 hh _ hf
 exact (aP.ai (d:= .aL [(xD (XS.op x) (XS.w x) (XS.ab x) (XS.ae x) (XS.aa x) (XS.af x) (XS.aj x) (XS.cc x)),av (↑(aaa (cR x)):Int),av 0]) mixed Tryz.func81 (by kernel_rfl) [aO,.NR [1,2,3,4],aw hp,tF,aO,.head ⟨[0,1,3,15,16],[0,1,2,3,4,5,7],[]⟩ _ _ _ _ _ _ _ c0]).to (by simp [wk,bf,me])
theorem JX (b:List Int) (hb:dr b):aP Z9 81 [aZ 1 (bD b)] (ES (im b)):=by
 obtain ⟨s,hp,hs⟩:=Kj b hb
 cases e:mh b with
 |none=>
  rw [e] at hp
  rw [GH e]
  obtain ⟨x,hx⟩:∃x:aJ,x=⟨s.w,s.eO,0,s.r,s.m,s.af,s.aj,s.small,s.gk,s.gY,s.high⟩:=⟨_,rfl⟩
  exact J0 b s hp
 |some s'=>
  obtain rfl:=hs s' e
  rw [e] at hp
  obtain ⟨v0,v1,hh⟩:=GS hb e
  rw [← Dg e]
  cases hf:gd b s hQ with
  |none=>exact JZ b hb s v0 v1 hh hp hf
  |some x=>exact JY b hb s v0 v1 hh hp x hf
theorem cC (v w:Int):aP Z9 147 ([au v,ao w]) (au (aI v w)):=by
 by_cases h0:w=8
 ·subst h0
  exact (aP.ai (d:= .int .u64 (abz.wrap abz.u64 (abz.wrap abz.u8 v))) mixed Tryz.func147 (by kernel_rfl) [tT]).to (by simp [wk,aI,bo,Ez,Ey,bN,];try omega)
 ·by_cases h1:w=16
  ·subst h1
   exact (aP.ai (d:= .int .u64 (abz.wrap abz.u64 (abz.wrap abz.u16 v))) mixed Tryz.func147 (by kernel_rfl) [tC (bc h0),tT]).to (by simp [wk,aI,bo,Ez,Ey,bN,h0];try omega)
  ·by_cases h2:w=32
   ·subst h2
    exact (aP.ai (d:= .int .u64 (abz.wrap abz.u64 (abz.wrap abz.u32 v))) mixed Tryz.func147 (by kernel_rfl) [tC (bc h0),tC (bc h1),tT]).to (by simp [wk,aI,bo,Ez,Ey,bN,h0,h1];try omega)
   ·exact (aP.ai (d:= .int .u64 v) mixed Tryz.func147 (by kernel_rfl) [tC (bc h0),tC (bc h1),tC (bc h2)]).to (by simp [wk,aI,bo,Ez,Ey,bN,h0,h1,h2];try omega)
theorem EG (v w:Int):aP Z9 186 ([au v,ao w]) (au (eV v w)):=by
 by_cases h0:w=8
 ·subst h0
  exact (aP.ai (d:= .int .u64 (abz.wrap abz.u64 (abz.i64.wrap (abz.wrap abz.i8 v)))) mixed Tryz.func186 (by kernel_rfl) [tT]).to (by simp [wk,eV,u64,wq,wo,wm,])
 ·by_cases h1:w=16
  ·subst h1
   exact (aP.ai (d:= .int .u64 (abz.wrap abz.u64 (abz.i64.wrap (abz.wrap abz.i16 v)))) mixed Tryz.func186 (by kernel_rfl) [tC (bc h0),tT]).to (by simp [wk,eV,u64,wq,wo,wm,h0])
  ·by_cases h2:w=32
   ·subst h2
    exact (aP.ai (d:= .int .u64 (abz.wrap abz.u64 (abz.i64.wrap (abz.wrap abz.i32 v)))) mixed Tryz.func186 (by kernel_rfl) [tC (bc h0),tC (bc h1),tT]).to (by simp [wk,eV,u64,wq,wo,wm,h0,h1])
   ·exact (aP.ai (d:= .int .u64 v) mixed Tryz.func186 (by kernel_rfl) [tC (bc h0),tC (bc h1),tC (bc h2)]).to (by simp [wk,eV,u64,wq,wo,wm,h0,h1,h2])
theorem iG (w:Int):aP Z9 164 ([ao w]) (ax (bG w)):=by
 by_cases h0:w=32
 ·subst h0
  exact (aP.ai (d:= .bool true) mixed Tryz.func164 (by kernel_rfl) [tF,tF,tT]).to (by simp only [wk,D.bool.injEq,bG];first|rfl|(rw [Bool.eq_iff_iff];simp [];try omega))
 ·exact (aP.ai (d:= .bool (w==(64:Int))) mixed Tryz.func164 (by kernel_rfl) [tC (eF (bc h0)),tC (eF (bc h0)),tC (bc h0)]).to (by simp only [wk,D.bool.injEq,bG];first|rfl|(rw [Bool.eq_iff_iff];simp [h0];try omega))
def nL (Ua:Int):Prop:= ∀(w a b:Int) (hw:bG w=true),aP Z9 153 ([ao Ua,ao w,au a,au b]) (.aL [au (ft Ua w a b),av 0])
theorem Bz:nL 0:=by
  intro w a b hw
  have c0:= @iG (w)
  rw [show (bG w)=true from hw] at c0
  have c1:= @cC (a) (w)
  have c2:= @cC (b) (w)
  have c3:= @cC (abz.wrap abz.u64 (aI a w+aI b w)) (w)
  exact (aP.ai (d:= .aL [au (aI (abz.wrap abz.u64 (aI a w+aI b w)) w),av 0]) mixed Tryz.func153 (by kernel_rfl) [tT,tT,tF,tT,tT,aw c0,tT,tF,tF,aw c1,aw c2,aO,tT,aO,aw c3]).to (by first|((simp only [wk,bf,ey];repeat' (first|rfl|exact aaz|apply aaj));done)|(simp [wk,bf,ft,tX,];done)|(simp [wk,bf,ft,tX,u64, *];done))
theorem pC:nL 1:=by
 intro w a b hw
 have c0:= @iG (w)
 rw [show (bG w)=true from hw] at c0
 have c1:= @cC (a) (w)
 have c2:= @cC (b) (w)
 have c3:= @cC (abz.wrap abz.u64 (aI a w - aI b w)) (w)
 exact (aP.ai (d:= .aL [au (aI (abz.wrap abz.u64 (aI a w - aI b w)) w),av 0]) mixed Tryz.func153 (by kernel_rfl) [tT,tT,tF,tT,tT,aw c0,tT,tF,tF,aw c1,aw c2,aO,tT,aO,aw c3]).to (by first|((simp only [wk,bf,ey];repeat' (first|rfl|exact aaz|apply aaj));done)|(simp [wk,bf,ft,tX,];done)|(simp [wk,bf,ft,tX,u64, *];done))
theorem LJ:nL 2:=by
 intro w a b hw
 have c0:= @iG (w)
 rw [show (bG w)=true from hw] at c0
 have c1:= @cC (a) (w)
 have c2:= @cC (b) (w)
 have c3:= @cC (abz.wrap abz.u64 (aI a w*aI b w)) (w)
 exact (aP.ai (d:= .aL [au (aI (abz.wrap abz.u64 (aI a w*aI b w)) w),av 0]) mixed Tryz.func153 (by kernel_rfl) [tT,tT,tF,tT,tT,aw c0,tT,tF,tF,aw c1,aw c2,aO,tT,aO,aw c3]).to (by first|((simp only [wk,bf,ey];repeat' (first|rfl|exact aaz|apply aaj));done)|(simp [wk,bf,ft,tX,];done)|(simp [wk,bf,ft,tX,u64, *];done))
theorem Bx:nL 4:=by
 intro w a b hw
 have c0:= @iG (w)
 rw [show (bG w)=true from hw] at c0
 have c1:= @cC (a) (w)
 have c2:= @cC (b) (w)
 have c3:= @cC (abz.wrap abz.u64 (↑(aab (Z8 (64:Nat) (aI a w)|||Z8 (64:Nat) (aI b w))):Int)) (w)
 exact (aP.ai (d:= .aL [au (aI (abz.wrap abz.u64 (↑(aab (Z8 (64:Nat) (aI a w)|||Z8 (64:Nat) (aI b w))):Int)) w),av 0]) mixed Tryz.func153 (by kernel_rfl) [tT,tT,tF,tT,tT,aw c0,tT,tF,tF,aw c1,aw c2,aO,tT,aO,aw c3]).to (by first|((simp only [wk,bf,ey];repeat' (first|rfl|exact aaz|apply aaj));done)|(simp [wk,bf,ft,tX,];done)|(simp [wk,bf,ft,tX,u64, *];done))
theorem pB:nL 5:=by
 intro w a b hw
 have c0:= @iG (w)
 rw [show (bG w)=true from hw] at c0
 have c1:= @cC (a) (w)
 have c2:= @cC (b) (w)
 have c3:= @cC (abz.wrap abz.u64 (↑(aab (Z8 (64:Nat) (aI a w)&&&Z8 (64:Nat) (aI b w))):Int)) (w)
 exact (aP.ai (d:= .aL [au (aI (abz.wrap abz.u64 (↑(aab (Z8 (64:Nat) (aI a w)&&&Z8 (64:Nat) (aI b w))):Int)) w),av 0]) mixed Tryz.func153 (by kernel_rfl) [tT,tT,tF,tT,tT,aw c0,tT,tF,tF,aw c1,aw c2,aO,tT,aO,aw c3]).to (by first|((simp only [wk,bf,ey];repeat' (first|rfl|exact aaz|apply aaj));done)|(simp [wk,bf,ft,tX,];done)|(simp [wk,bf,ft,tX,u64, *];done))
theorem Bw:nL 6:=by
 intro w a b hw
 have c0:= @iG (w)
 rw [show (bG w)=true from hw] at c0
 have c1:= @cC (a) (w)
 have c2:= @cC (b) (w)
 have c3:= @cC (abz.wrap abz.u64 (aI a w*(2:Int)^min (aal (abz.wrap abz.u64 (↑(aab (Z8 (64:Nat) (aI b w)&&&Z8 (64:Nat) (abz.wrap abz.u64 (abz.wrap abz.i8 (w - (1:Int)))))):Int))) (64:Nat))) (w)
 exact (aP.ai (d:= .aL [au (aI (abz.wrap abz.u64 (aI a w*(2:Int)^min (aal (abz.wrap abz.u64 (↑(aab (Z8 (64:Nat) (aI b w)&&&Z8 (64:Nat) (abz.wrap abz.u64 (abz.wrap abz.i8 (w - (1:Int)))))):Int))) (64:Nat))) w),av 0]) mixed Tryz.func153 (by kernel_rfl) ([tT,tT,tF,tT,tT,aw c0,tT,tF,tF,aw c1,aw c2,aO,tT,aO,tT]++ [aw c3])).to (by first|((simp only [wk,bf,ey];repeat' (first|rfl|exact aaz|apply aaj));done)|(simp [wk,bf,ft,tX,];done)|(simp [wk,bf,ft,tX,u64, *];done))
theorem Bv:nL 7:=by
 intro w a b hw
 have c0:= @iG (w)
 rw [show (bG w)=true from hw] at c0
 have c1:= @cC (a) (w)
 have c2:= @cC (b) (w)
 have c3:= @cC (aaQ (aI a w) ((2:Int)^min (aal (abz.wrap abz.u64 (↑(aab (Z8 (64:Nat) (aI b w)&&&Z8 (64:Nat) (abz.wrap abz.u64 (abz.wrap abz.i8 (w - (1:Int)))))):Int))) (64:Nat))) (w)
 exact (aP.ai (d:= .aL [au (aI (aaQ (aI a w) ((2:Int)^min (aal (abz.wrap abz.u64 (↑(aab (Z8 (64:Nat) (aI b w)&&&Z8 (64:Nat) (abz.wrap abz.u64 (abz.wrap abz.i8 (w - (1:Int)))))):Int))) (64:Nat))) w),av 0]) mixed Tryz.func153 (by kernel_rfl) ([tT,tT,tF,tT,tT,aw c0,tT,tF,tF,aw c1,aw c2,aO,tT,aO,tT]++ [aw c3])).to (by first|((simp only [wk,bf,ey];repeat' (first|rfl|exact aaz|apply aaj));done)|(simp [wk,bf,ft,tX,];done)|(simp [wk,bf,ft,tX,u64, *];done))
theorem LI:nL 8:=by
 intro w a b hw
 have c0:= @iG (w)
 rw [show (bG w)=true from hw] at c0
 have c1:= @cC (a) (w)
 have c2:= @cC (b) (w)
 have c3:= @cC (abz.wrap abz.u64 ((0:Int) - aI a w)) (w)
 exact (aP.ai (d:= .aL [au (aI (abz.wrap abz.u64 ((0:Int) - aI a w)) w),av 0]) mixed Tryz.func153 (by kernel_rfl) [tT,tT,tF,tT,tT,aw c0,tT,tF,tF,aw c1,aw c2,aO,tT,aO,aw c3]).to (by first|((simp only [wk,bf,ey];repeat' (first|rfl|exact aaz|apply aaj));done)|(simp [wk,bf,ft,tX,];done)|(simp [wk,bf,ft,tX,u64, *];done))
theorem vH:nL 10:=by
 intro w a b hw
 have c0:= @iG (w)
 rw [show (bG w)=true from hw] at c0
 have c1:= @cC (a) (w)
 have c2:= @cC (b) (w)
 have c3:= @cC (abz.wrap abz.u64 (↑(aab (Z8 (64:Nat) (aI a w)^^^Z8 (64:Nat) (aI b w))):Int)) (w)
 exact (aP.ai (d:= .aL [au (aI (abz.wrap abz.u64 (↑(aab (Z8 (64:Nat) (aI a w)^^^Z8 (64:Nat) (aI b w))):Int)) w),av 0]) mixed Tryz.func153 (by kernel_rfl) [tT,tT,tF,tT,tT,aw c0,tT,tF,tF,aw c1,aw c2,aO,tT,aO,aw c3]).to (by first|((simp only [wk,bf,ey];repeat' (first|rfl|exact aaz|apply aaj));done)|(simp [wk,bf,ft,tX,];done)|(simp [wk,bf,ft,tX,u64, *];done))
theorem vG:nL 12:=by
 intro w a b hw
 have c0:= @iG (w)
 rw [show (bG w)=true from hw] at c0
 have c1:= @cC (a) (w)
 have c2:= @cC (b) (w)
 have c3:= @EG (aI a w) (w)
 have c4:= @cC (abz.wrap abz.u64 (aaQ (abz.i64.wrap (eV (aI a w) w)) ((2:Int)^min (aal (abz.wrap abz.u64 (↑(aab (Z8 (64:Nat) (aI b w)&&&Z8 (64:Nat) (abz.wrap abz.u64 (abz.wrap abz.i8 (w - (1:Int)))))):Int))) (64:Nat)))) (w)
 exact (aP.ai (d:= .aL [au (aI (abz.wrap abz.u64 (aaQ (abz.i64.wrap (eV (aI a w) w)) ((2:Int)^min (aal (abz.wrap abz.u64 (↑(aab (Z8 (64:Nat) (aI b w)&&&Z8 (64:Nat) (abz.wrap abz.u64 (abz.wrap abz.i8 (w - (1:Int)))))):Int))) (64:Nat)))) w),av 0]) mixed Tryz.func153 (by kernel_rfl) ([tT,tT,tF,tT,tT,aw c0,tT,tF,tF,aw c1,aw c2,aO,tT,aO,aw c3]++ [tT,aw c4])).to (by first|((simp only [wk,bf,ey];repeat' (first|rfl|exact aaz|apply aaj));done)|(simp [wk,bf,ft,tX,];done)|(simp [wk,bf,ft,tX,u64, *];done))
theorem eI:aP Z9 149 ([]) (fD false false false false false):=(aP.ai (d:= .agg [ax false,ax false,ax false,ax false,ax false]) mixed Tryz.func149 (by kernel_rfl) []).to (by first|((simp only [wk,bf,ey];repeat' (first|rfl|exact aaz|apply aaj));done)|(simp [wk,bf,];done))
theorem nr (v w:Int):aP Z9 166 ([au v,ao w]) (ax (fG v w)):=by
 have c0:= @EG (v) (w)
 exact (aP.ai (d:= .bool (decide (abz.i64.wrap (eV v w)<(0:Int)))) mixed Tryz.func166 (by kernel_rfl) [aw c0]).to (by first|((simp only [wk,bf,ey];repeat' (first|rfl|exact aaz|apply aaj));done)|(simp [wk,bf,];done))
theorem kK (w v:Int) (hw:bG w=true):aP Z9 156 ([ao w,au v]) (.aL [fD true false (aI v w==0) (fG v w) false,av 0]):=by
 by_cases h0:w=32
 ·subst h0
  have c1:= @cC (v) ((32:Int))
  have c2:= @nr (v) ((32:Int))
  exact (aP.ai (d:= .aL [.agg [ax true,ax false,ax (aI v (32:Int)==(0:Int)),ax (fG v (32:Int)),ax false],av 0]) mixed Tryz.func156 (by kernel_rfl) [tF,tF,tF,tF,aw c1,aw c2]).to (by first|((simp only [wk,bf,ey];repeat' (first|rfl|exact aaz|apply aaj));done)|(exfalso;simp [bG] at*;done)|(exfalso;simp [bG] at*;omega))
 ·by_cases h3:w=64
  ·subst h3
   have c4:= @cC (v) ((64:Int))
   have c5:= @nr (v) ((64:Int))
   exact (aP.ai (d:= .aL [.agg [ax true,ax false,ax (aI v (64:Int)==(0:Int)),ax (fG v (64:Int)),ax false],av 0]) mixed Tryz.func156 (by kernel_rfl) [tC (eT (nt (bc h0))),tC (eT (nt (bc h0))),tC (nt (bc h0)),tF,aw c4,aw c5]).to (by first|((simp only [wk,bf,ey];repeat' (first|rfl|exact aaz|apply aaj));done)|(exfalso;simp [bG] at*;done)|(exfalso;simp [bG] at*;omega))
  ·exact (aP.ai (d:= .aL [.agg [ax false,ax false,ax false,ax false,ax false],av 2]) mixed Tryz.func156 (by kernel_rfl) [tC (eT (nt (bc h0))),tC (eT (nt (bc h0))),tC (nt (bc h0)),tC (nt (bc h3))]).to (by first|((simp only [wk,bf,ey];repeat' (first|rfl|exact aaz|apply aaj));done)|(exfalso;simp [bG] at*;done)|(exfalso;simp [bG] at*;omega))
theorem FH (w a b:Int) (hw:bG w=true):aP Z9 154 ([ao w,au a,au b]) (.aL [fD true (yL w a b) (aI (u64 (a+b)) w==0) (fG (u64 (a+b)) w) (yK w a b),av 0]):=by
 have c0:= @kK (w) (abz.wrap abz.u64 (a+b)) hw
 have c1:= @cC (abz.wrap abz.u64 (a+b)) (w)
 have c2:= @cC (a) (w)
 have c3:= @nr (abz.wrap abz.u64 (↑(aab (Z8 (64:Nat) (abz.wrap abz.u64 (↑(aab (Z8 (64:Nat) a^^^Z8 (64:Nat) (abz.wrap abz.u64 (a+b)))):Int))&&&Z8 (64:Nat) (abz.wrap abz.u64 (↑(aab (Z8 (64:Nat) b^^^Z8 (64:Nat) (abz.wrap abz.u64 (a+b)))):Int)))):Int)) (w)
 exact (aP.ai (d:= .aL [.agg [ax true,ax (decide (aI (abz.wrap abz.u64 (a+b)) w<aI a w)),ax (aI (abz.wrap abz.u64 (a+b)) w==(0:Int)),ax (fG (abz.wrap abz.u64 (a+b)) w),ax (fG (abz.wrap abz.u64 (↑(aab (Z8 (64:Nat) (abz.wrap abz.u64 (↑(aab (Z8 (64:Nat) a^^^Z8 (64:Nat) (abz.wrap abz.u64 (a+b)))):Int))&&&Z8 (64:Nat) (abz.wrap abz.u64 (↑(aab (Z8 (64:Nat) b^^^Z8 (64:Nat) (abz.wrap abz.u64 (a+b)))):Int)))):Int)) w)],av 0]) mixed Tryz.func154 (by kernel_rfl) [aw c0,tF,aw c1,aw c2,aw c3]).to (by first|((simp only [wk,bf,ey];repeat' (first|rfl|exact aaz|apply aaj));done)|(simp [wk,bf,];done))
theorem pq (w a b:Int) (hw:bG w=true):aP Z9 155 ([ao w,au a,au b]) (.aL [fD true (rY w a b) (aI (u64 (a - b)) w==0) (fG (u64 (a - b)) w) (rX w a b),av 0]):=by
 have c0:= @kK (w) (abz.wrap abz.u64 (a - b)) hw
 have c1:= @cC (a) (w)
 have c2:= @cC (b) (w)
 have c3:= @nr (abz.wrap abz.u64 (↑(aab (Z8 (64:Nat) (abz.wrap abz.u64 (↑(aab (Z8 (64:Nat) a^^^Z8 (64:Nat) b)):Int))&&&Z8 (64:Nat) (abz.wrap abz.u64 (↑(aab (Z8 (64:Nat) a^^^Z8 (64:Nat) (abz.wrap abz.u64 (a - b)))):Int)))):Int)) (w)
 exact (aP.ai (d:= .aL [.agg [ax true,ax (decide (aI a w<aI b w)),ax (aI (abz.wrap abz.u64 (a - b)) w==(0:Int)),ax (fG (abz.wrap abz.u64 (a - b)) w),ax (fG (abz.wrap abz.u64 (↑(aab (Z8 (64:Nat) (abz.wrap abz.u64 (↑(aab (Z8 (64:Nat) a^^^Z8 (64:Nat) b)):Int))&&&Z8 (64:Nat) (abz.wrap abz.u64 (↑(aab (Z8 (64:Nat) a^^^Z8 (64:Nat) (abz.wrap abz.u64 (a - b)))):Int)))):Int)) w)],av 0]) mixed Tryz.func155 (by kernel_rfl) [aw c0,tF,aw c1,aw c2,aw c3]).to (by first|((simp only [wk,bf,ey];repeat' (first|rfl|exact aaz|apply aaj));done)|(simp [wk,bf,];done))
theorem eD (a:Int) (a0:0≤a) (a1:a≤15):aP Z9 167 ([.aY .tight 1 [ao a]]) (av (lB a)):=(QA (d:=D.int abz.i64 (abz.i64.wrap (↑(aab (Z8 (64:Nat) 0|||Z8 (64:Nat) (abz.i64.wrap (1*2^min (aal a) (64:Nat))))):Int))) [.go 64,tT,tT,tC (v:=true) (bQ 0 (bF (aah.2 a0))),tF]).to (by simp only [wk,D.int.injEq,fm];obtain ⟨n_a,rfl⟩:=iC a0 a1;clear a0 a1;revert n_a;decide+kernel)
theorem Mm (a:Int) (a0:0≤a) (a1:a≤15) (b:Int) (b0:0≤b) (b1:b≤15):aP Z9 167 ([.aY .tight 1 [ao a,ao b]]) (av (GW (lB a) (lB b))):=(QA (d:=D.int abz.i64 (abz.i64.wrap (↑(aab (Z8 (64:Nat) (abz.i64.wrap (↑(aab (Z8 (64:Nat) 0|||Z8 (64:Nat) (abz.i64.wrap (1*2^min (aal a) (64:Nat))))):Int))|||Z8 (64:Nat) (abz.i64.wrap (1*2^min (aal b) (64:Nat))))):Int))) [.go 64,tT,tT,tC (v:=true) (bQ 0 (bF (aah.2 a0))),tT,tT,tC (v:=true) (bQ 0 (bF (aah.2 b0))),tF]).to (by simp only [wk,D.int.injEq,fm];obtain ⟨n_a,rfl⟩:=iC a0 a1;obtain ⟨n_b,rfl⟩:=iC b0 b1;clear a0 a1 b0 b1;revert n_a n_b;decide+kernel)
def ea (Ua:Int):Prop:= ∀(w ab ae aa af aj cc:Int) (d0:0≤ab) (d1:ab≤15) (s0:0≤ae) (s1:ae≤15) (b0:0≤aa) (b1:aa≤15) (hm:bC Ua w ab ae aa af aj cc=true),aP Z9 157 ([xD Ua w ab ae aa af aj cc]) (av (qP Ua ab))
theorem ze:ea 0:=by
 intro w ab ae aa af aj cc d0 d1 s0 s1 b0 b1 hm
 have c0:= @a9 0 w ab ae aa af aj cc (by decide)
 rw [hm] at c0
 have c1:= @eD ab d0 d1
 exact (iv (d:= .int .i64 (lB ab)) ([aw c0]++Z7 11 tF++ [aw c1])).to (by rfl)
theorem zb:ea 1:=by
 intro w ab ae aa af aj cc d0 d1 s0 s1 b0 b1 hm
 have c0:= @a9 1 w ab ae aa af aj cc (by decide)
 rw [hm] at c0
 have c1:= @eD ab d0 d1
 exact (iv (d:= .int .i64 (lB ab)) ([aw c0]++Z7 11 tF++ [aw c1])).to (by rfl)
theorem za:ea 2:=by
 intro w ab ae aa af aj cc d0 d1 s0 s1 b0 b1 hm
 have c0:= @a9 2 w ab ae aa af aj cc (by decide)
 rw [hm] at c0
 have c1:= @eD ab d0 d1
 exact (iv (d:= .int .i64 (lB ab)) ([aw c0]++Z7 11 tF++ [aw c1])).to (by rfl)
theorem y9:ea 3:=by
 intro w ab ae aa af aj cc d0 d1 s0 s1 b0 b1 hm
 have c0:= @a9 3 w ab ae aa af aj cc (by decide)
 rw [hm] at c0
 have c1:= @eD ab d0 d1
 exact (iv (d:= .int .i64 (lB ab)) ([aw c0]++Z7 11 tF++ [aw c1])).to (by rfl)
theorem y8:ea 4:=by
 intro w ab ae aa af aj cc d0 d1 s0 s1 b0 b1 hm
 have c0:= @a9 4 w ab ae aa af aj cc (by decide)
 rw [hm] at c0
 have c1:= @eD ab d0 d1
 exact (iv (d:= .int .i64 (lB ab)) ([aw c0]++Z7 11 tF++ [aw c1])).to (by rfl)
theorem y7:ea 5:=by
 intro w ab ae aa af aj cc d0 d1 s0 s1 b0 b1 hm
 have c0:= @a9 5 w ab ae aa af aj cc (by decide)
 rw [hm] at c0
 have c1:= @eD ab d0 d1
 exact (iv (d:= .int .i64 (lB ab)) ([aw c0]++Z7 11 tF++ [aw c1])).to (by rfl)
theorem y6:ea 6:=by
 intro w ab ae aa af aj cc d0 d1 s0 s1 b0 b1 hm
 have c0:= @a9 6 w ab ae aa af aj cc (by decide)
 rw [hm] at c0
 have c1:= @eD ab d0 d1
 exact (iv (d:= .int .i64 (lB ab)) ([aw c0]++Z7 11 tF++ [aw c1])).to (by rfl)
theorem yZ:ea 7:=by
 intro w ab ae aa af aj cc d0 d1 s0 s1 b0 b1 hm
 have c0:= @a9 7 w ab ae aa af aj cc (by decide)
 rw [hm] at c0
 exact (iv (d:= .int .i64 0) [aw c0,tF,tT,tT]).to (by rfl)
theorem yY:ea 8:=by
 intro w ab ae aa af aj cc d0 d1 s0 s1 b0 b1 hm
 have c0:= @a9 8 w ab ae aa af aj cc (by decide)
 rw [hm] at c0
 exact (iv (d:= .int .i64 0) [aw c0,tF,tF,tT,tT]).to (by rfl)
theorem yW:ea 9:=by
 intro w ab ae aa af aj cc d0 d1 s0 s1 b0 b1 hm
 have c0:= @a9 9 w ab ae aa af aj cc (by decide)
 rw [hm] at c0
 have c1:= @eD ab d0 d1
 exact (iv (d:= .int .i64 (lB ab)) ([aw c0]++Z7 11 tF++ [aw c1])).to (by rfl)
theorem wc:ea 10:=by
 intro w ab ae aa af aj cc d0 d1 s0 s1 b0 b1 hm
 have c0:= @a9 10 w ab ae aa af aj cc (by decide)
 rw [hm] at c0
 have c1:= @eD ab d0 d1
 exact (iv (d:= .int .i64 (lB ab)) ([aw c0]++Z7 11 tF++ [aw c1])).to (by rfl)
theorem wb:ea 11:=by
 intro w ab ae aa af aj cc d0 d1 s0 s1 b0 b1 hm
 have c0:= @a9 11 w ab ae aa af aj cc (by decide)
 rw [hm] at c0
 have c1:= @eD ab d0 d1
 exact (iv (d:= .int .i64 (lB ab)) ([aw c0]++Z7 11 tF++ [aw c1])).to (by rfl)
theorem wa:ea 12:=by
 intro w ab ae aa af aj cc d0 d1 s0 s1 b0 b1 hm
 have c0:= @a9 12 w ab ae aa af aj cc (by decide)
 rw [hm] at c0
 have c1:= @eD ab d0 d1
 exact (iv (d:= .int .i64 (lB ab)) ([aw c0]++Z7 11 tF++ [aw c1])).to (by rfl)
theorem v9:ea 13:=by
 intro w ab ae aa af aj cc d0 d1 s0 s1 b0 b1 hm
 have c0:= @a9 13 w ab ae aa af aj cc (by decide)
 rw [hm] at c0
 have c1:= @eD ab d0 d1
 exact (iv (d:= .int .i64 (lB ab)) ([aw c0]++Z7 11 tF++ [aw c1])).to (by rfl)
theorem v8:ea 14:=by
 intro w ab ae aa af aj cc d0 d1 s0 s1 b0 b1 hm
 have c0:= @a9 14 w ab ae aa af aj cc (by decide)
 rw [hm] at c0
 exact (iv (d:= .int .i64 0) [aw c0,tF,tF,tF,tT,tT]).to (by rfl)
theorem v7:ea 15:=by
 intro w ab ae aa af aj cc d0 d1 s0 s1 b0 b1 hm
 have c0:= @a9 15 w ab ae aa af aj cc (by decide)
 rw [hm] at c0
 exact (iv (d:= .int .i64 0) [aw c0,tF,tF,tF,tF,tT,tT]).to (by rfl)
theorem v5:ea 16:=by
 intro w ab ae aa af aj cc d0 d1 s0 s1 b0 b1 hm
 have c0:= @a9 16 w ab ae aa af aj cc (by decide)
 rw [hm] at c0
 have c1:= @eD ab d0 d1
 exact (iv (d:= .int .i64 (lB ab)) ([aw c0]++Z7 11 tF++ [aw c1])).to (by rfl)
theorem vZ:ea 17:=by
 intro w ab ae aa af aj cc d0 d1 s0 s1 b0 b1 hm
 have c0:= @a9 17 w ab ae aa af aj cc (by decide)
 rw [hm] at c0
 have c1:= @eD ab d0 d1
 exact (iv (d:= .int .i64 (lB ab)) ([aw c0]++Z7 11 tF++ [aw c1])).to (by rfl)
theorem vY:ea 18:=by
 intro w ab ae aa af aj cc d0 d1 s0 s1 b0 b1 hm
 have c0:= @a9 18 w ab ae aa af aj cc (by decide)
 rw [hm] at c0
 have c1:= @eD ab d0 d1
 exact (iv (d:= .int .i64 (lB ab)) ([aw c0]++Z7 11 tF++ [aw c1])).to (by rfl)
theorem vX:ea 19:=by
 intro w ab ae aa af aj cc d0 d1 s0 s1 b0 b1 hm
 have c0:= @a9 19 w ab ae aa af aj cc (by decide)
 rw [hm] at c0
 have c1:= @eD ab d0 d1
 exact (iv (d:= .int .i64 (lB ab)) ([aw c0]++Z7 11 tF++ [aw c1])).to (by rfl)
theorem vW:ea 20:=by
 intro w ab ae aa af aj cc d0 d1 s0 s1 b0 b1 hm
 have c0:= @a9 20 w ab ae aa af aj cc (by decide)
 rw [hm] at c0
 have c1:= @eD ab d0 d1
 exact (iv (d:= .int .i64 (lB ab)) ([aw c0]++Z7 11 tF++ [aw c1])).to (by rfl)
theorem vV:ea 21:=by
 intro w ab ae aa af aj cc d0 d1 s0 s1 b0 b1 hm
 have c0:= @a9 21 w ab ae aa af aj cc (by decide)
 rw [hm] at c0
 have c1:= @eD ab d0 d1
 exact (iv (d:= .int .i64 (lB ab)) ([aw c0]++Z7 11 tF++ [aw c1])).to (by rfl)
theorem vU:ea 22:=by
 intro w ab ae aa af aj cc d0 d1 s0 s1 b0 b1 hm
 have c0:= @a9 22 w ab ae aa af aj cc (by decide)
 rw [hm] at c0
 have c1:= @eD ab d0 d1
 exact (iv (d:= .int .i64 (lB ab)) ([aw c0]++Z7 11 tF++ [aw c1])).to (by rfl)
theorem vT:ea 23:=by
 intro w ab ae aa af aj cc d0 d1 s0 s1 b0 b1 hm
 have c0:= @a9 23 w ab ae aa af aj cc (by decide)
 rw [hm] at c0
 have c1:= @eD ab d0 d1
 exact (iv (d:= .int .i64 (lB ab)) ([aw c0]++Z7 11 tF++ [aw c1])).to (by rfl)
theorem vS:ea 24:=by
 intro w ab ae aa af aj cc d0 d1 s0 s1 b0 b1 hm
 have c0:= @a9 24 w ab ae aa af aj cc (by decide)
 rw [hm] at c0
 have c1:= @Mm 0 (by decide) (by decide) 2 (by decide) (by decide)
 exact (iv (d:= .int .i64 5) ([aw c0]++Z7 8 tF++ [tT,aw c1])).to (by rfl)
theorem vR:ea 25:=by
 intro w ab ae aa af aj cc d0 d1 s0 s1 b0 b1 hm
 have c0:= @a9 25 w ab ae aa af aj cc (by decide)
 rw [hm] at c0
 have c1:= @eD ab d0 d1
 exact (iv (d:= .int .i64 (lB ab)) ([aw c0]++Z7 11 tF++ [aw c1])).to (by rfl)
theorem vQ:ea 26:=by
 intro w ab ae aa af aj cc d0 d1 s0 s1 b0 b1 hm
 have c0:= @a9 26 w ab ae aa af aj cc (by decide)
 rw [hm] at c0
 have c1:= @eD ab d0 d1
 exact (iv (d:= .int .i64 (lB ab)) ([aw c0]++Z7 11 tF++ [aw c1])).to (by rfl)
theorem vN:ea 27:=by
 intro w ab ae aa af aj cc d0 d1 s0 s1 b0 b1 hm
 have c0:= @a9 27 w ab ae aa af aj cc (by decide)
 rw [hm] at c0
 exact (iv (d:= .int .i64 0) [aw c0,tF,tF,tF,tF,tF,tT,tT]).to (by rfl)
theorem vM:ea 28:=by
 intro w ab ae aa af aj cc d0 d1 s0 s1 b0 b1 hm
 have c0:= @a9 28 w ab ae aa af aj cc (by decide)
 rw [hm] at c0
 exact (iv (d:= .int .i64 0) ([aw c0]++cr 8 192)).to (by rfl)
theorem vL:ea 29:=by
 intro w ab ae aa af aj cc d0 d1 s0 s1 b0 b1 hm
 have c0:= @a9 29 w ab ae aa af aj cc (by decide)
 rw [hm] at c0
 exact (iv (d:= .int .i64 0) ([aw c0]++cr 8 128)).to (by rfl)
theorem vK:ea 30:=by
 intro w ab ae aa af aj cc d0 d1 s0 s1 b0 b1 hm
 have c0:= @a9 30 w ab ae aa af aj cc (by decide)
 rw [hm] at c0
 have c1:= @eD 4 (by decide) (by decide)
 exact (iv (d:= .int .i64 16) ([aw c0]++Z7 9 tF++ [tT,aw c1])).to (by rfl)
theorem vJ:ea 31:=by
 intro w ab ae aa af aj cc d0 d1 s0 s1 b0 b1 hm
 have c0:= @a9 31 w ab ae aa af aj cc (by decide)
 rw [hm] at c0
 exact (iv (d:= .int .i64 2051) ([aw c0]++Z7 10 tF++([tT,aO,.go 64]++cr 10 511))).to (by rfl)
theorem vI (op w ab ae aa af aj cc:Int) (ho:op≤127) (hm:bC op w ab ae aa af aj cc=false):aP Z9 157 ([xD op w ab ae aa af aj cc]) (av 0):=by
 have c0:= @a9 op w ab ae aa af aj cc ho
 rw [hm] at c0
 exact (iv (d:= .int .i64 0) [aw c0,tT]).to (by simp [wk])
theorem Fu {op w ab ae aa af aj cc:Int} (h:bC op w ab ae aa af aj cc=true):aA op≠0:=by
 have hs:=(dw h).2
 intro e
 rw [e] at hs
 simp [iy] at hs
theorem bT (op w ab ae aa af aj cc:Int) (ho:op≤127):aP Z9 157 [xD op w ab ae aa af aj cc] (av (kW op w ab ae aa af aj cc)):=by
 unfold kW
 cases h:bC op w ab ae aa af aj cc
 ·simp only [Bool.false_eq_true,if_false]
  exact vI op w ab ae aa af aj cc ho h
 ·simp only [if_true]
  obtain ⟨⟨d0,d1,s0,s1,b0,b1,p0,p1,i0,i1⟩,hs⟩:=dw h
  have VO:=Fu h
  clear hs
  rcases gQ VO with rfl|rfl|rfl|rfl|rfl|rfl|rfl|rfl|rfl|rfl|rfl|rfl|rfl|rfl|rfl|rfl|rfl|rfl|rfl|rfl|rfl|rfl|rfl|rfl|rfl|rfl|rfl|rfl|rfl|rfl|rfl|rfl
  ·exact ze _ _ _ _ _ _ _ d0 d1 s0 s1 b0 b1 h
  ·exact zb _ _ _ _ _ _ _ d0 d1 s0 s1 b0 b1 h
  ·exact za _ _ _ _ _ _ _ d0 d1 s0 s1 b0 b1 h
  ·exact y9 _ _ _ _ _ _ _ d0 d1 s0 s1 b0 b1 h
  ·exact y8 _ _ _ _ _ _ _ d0 d1 s0 s1 b0 b1 h
  ·exact y7 _ _ _ _ _ _ _ d0 d1 s0 s1 b0 b1 h
  ·exact y6 _ _ _ _ _ _ _ d0 d1 s0 s1 b0 b1 h
  ·exact yZ _ _ _ _ _ _ _ d0 d1 s0 s1 b0 b1 h
  ·exact yY _ _ _ _ _ _ _ d0 d1 s0 s1 b0 b1 h
  ·exact yW _ _ _ _ _ _ _ d0 d1 s0 s1 b0 b1 h
  ·exact wc _ _ _ _ _ _ _ d0 d1 s0 s1 b0 b1 h
  ·exact wb _ _ _ _ _ _ _ d0 d1 s0 s1 b0 b1 h
  ·exact wa _ _ _ _ _ _ _ d0 d1 s0 s1 b0 b1 h
  ·exact v9 _ _ _ _ _ _ _ d0 d1 s0 s1 b0 b1 h
  ·exact v8 _ _ _ _ _ _ _ d0 d1 s0 s1 b0 b1 h
  ·exact v7 _ _ _ _ _ _ _ d0 d1 s0 s1 b0 b1 h
  ·exact v5 _ _ _ _ _ _ _ d0 d1 s0 s1 b0 b1 h
  ·exact vZ _ _ _ _ _ _ _ d0 d1 s0 s1 b0 b1 h
  ·exact vY _ _ _ _ _ _ _ d0 d1 s0 s1 b0 b1 h
  ·exact vX _ _ _ _ _ _ _ d0 d1 s0 s1 b0 b1 h
  ·exact vW _ _ _ _ _ _ _ d0 d1 s0 s1 b0 b1 h
  ·exact vV _ _ _ _ _ _ _ d0 d1 s0 s1 b0 b1 h
  ·exact vU _ _ _ _ _ _ _ d0 d1 s0 s1 b0 b1 h
  ·exact vT _ _ _ _ _ _ _ d0 d1 s0 s1 b0 b1 h
  ·exact vS _ _ _ _ _ _ _ d0 d1 s0 s1 b0 b1 h
  ·exact vR _ _ _ _ _ _ _ d0 d1 s0 s1 b0 b1 h
  ·exact vQ _ _ _ _ _ _ _ d0 d1 s0 s1 b0 b1 h
  ·exact vN _ _ _ _ _ _ _ d0 d1 s0 s1 b0 b1 h
  ·exact vM _ _ _ _ _ _ _ d0 d1 s0 s1 b0 b1 h
  ·exact vL _ _ _ _ _ _ _ d0 d1 s0 s1 b0 b1 h
  ·exact vK _ _ _ _ _ _ _ d0 d1 s0 s1 b0 b1 h
  ·exact vJ _ _ _ _ _ _ _ d0 d1 s0 s1 b0 b1 h
theorem H9 (m:aq) (w ab ae aa af aj cc ld:Int) (d0:0≤ab) (d1:ab≤15) (s0:0≤ae) (s1:ae≤15) (b0:0≤aa) (b1:aa≤15) (hm:bC 2 w ab ae aa af aj cc=true) (hw:bG w=true):aP Z9 83 ([m.d,xD 2 w ab ae aa af aj cc,au ld]) (.aL [(gu (m.at (u64 (m.pc+u64 (ck 2 w ab ae aa af aj cc)))) ⟨2,w,ab,ae,aa,af,aj,cc⟩ ld).1.d,av 0]):=by
 have c0:= @a9 2 w ab ae aa af aj cc (by decide)
 rw [show (bC 2 w ab ae aa af aj cc)=true from hm] at c0
 have c1:= @cP 2 w ab ae aa af aj cc (by decide)
 have c2:= @Bz w (rg (aq.rl m) ab) (rg (aq.rl m) ae) hw
 have c3:= @FH w (rg (aq.rl m) ab) (rg (aq.rl m) ae) hw
 have c4:= @bT 2 w ab ae aa af aj cc (by decide)
 exact (lL (d:= .aL [(gu (m.at (u64 (m.pc+u64 (ck 2 w ab ae aa af aj cc)))) ⟨2,w,ab,ae,aa,af,aj,cc⟩ ld).1.d,av 0]) ([aw c0,tF,aw c1,tT,tT,aO,aO,.aU [(4,ay (aq.cw m (de m 2 w ab ae aa af aj cc) (xT 2 w ab ae aa af aj cc ld)))],.jM ([(2,ao 0),(9,ao 0),(3,ao 4),(10,ao 4),(4,ao 5),(11,ao 5),(8,ao 5),(15,ao 5),(5,ao 1),(12,ao 1),(7,ao 1),(14,ao 1),(6,ao 10),(13,ao 10),(16,ao 2),(17,ao 6),(20,ao 6),(18,ao 7),(21,ao 7),(19,ao 12),(22,ao 12),(23,ao 8)]) 2 (some (ao 0)) rfl,.cX _ true (cu d0 d1),.get _ _ _ (@bj m ab ((fT m (de m 2 w ab ae aa af aj cc) (xT 2 w ab ae aa af aj cc ld))) d0 d1),aO]++Z7 24 tF++ [.cX _ true (cu s0 s1),.get _ _ _ (@bj m ae ((fT m (de m 2 w ab ae aa af aj cc) (xT 2 w ab ae aa af aj cc ld))) s0 s1),.aU [(4,ay (aq.cw m (de m 2 w ab ae aa af aj cc) (xT 2 w ab ae aa af aj cc ld)))],aw c2,tF,tT,aw c3,aw c4,tC (nt (@jd 2 w ab ae aa af aj cc hm d0 d1 (rfl:true=true))),.cX _ true (cu d0 d1),.ej _ _ _ _ (@bO m ab (ft 0 w (rg (aq.rl m) ab) (rg (aq.rl m) ae)) ([ax true,ax (yL w (rg (aq.rl m) ab) (rg (aq.rl m) ae)),ax (aI (u64 (rg (aq.rl m) ab+rg (aq.rl m) ae)) w==0),ax (fG (u64 (rg (aq.rl m) ab+rg (aq.rl m) ae)) w),ax (yK w (rg (aq.rl m) ab) (rg (aq.rl m) ae)),au (de m 2 w ab ae aa af aj cc),ao 2,ao w,ao ab,ao ae,ao aa,av af,av aj,ao cc,au ld]) d0 d1),tF]) (by kernel_rfl))
end Go.Proofs.YtbfpahigdpigpaaGreat
