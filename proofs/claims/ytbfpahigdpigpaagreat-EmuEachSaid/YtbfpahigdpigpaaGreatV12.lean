import Derived.Test.YtbfpahigdpigpaaGreatV05
import Derived.Test.YtbfpahigdpigpaaGreatV06
import Derived.Test.YtbfpahigdpigpaaGreatV08
import Derived.Test.YtbfpahigdpigpaaGreatV09
import Derived.Test.YtbfpahigdpigpaaGreatV11
open BitVec renaming ofInt→Zw,toNat→Zz
open List renaming replicate→Zx,length→ZA,drop_zero→aaD
open Go.Proofs.Tryz renaming prog→Zy,f81→aaf
open Int renaming lt_add_one_of_le→ZC,not_lt→ZH,toNat→ZJ,fdiv→aad
open And renaming intro→ZI
open True renaming intro→ZX
open Go renaming IntKind→aaY
/- Contracts and plain laws that a statement's proof leans on (texts merged:XB2b,XB2c,XB2d,XB2e,XBytes,XB3,XBytes2,XLen,XD2,XD3,XD4,XD4A,E0,XS1,XS2,XW,Y1a). -/
set_option linter.unusedVariables false
set_option linter.unusedSimpArgs false
set_option maxRecDepth 100000
set_option maxHeartbeats 8000000
namespace Go.Proofs.YtbfpahigdpigpaaGreat
open Go Go.Ev
theorem DU (op w ab ae aa af ai cc:Int) (ho:op≤127) (d0:0≤ab) (d1:ab≤15) (s0:0≤ae) (s1:ae≤15) (b0:0≤aa) (b1:aa≤15) (p0: -2147483648≤af) (p1:af≤2147483647) (i0: -2147483648≤ai) (i1:ai≤2147483647) (c0:0≤cc) (c1:cc≤15) (n0:0≤bO op) (n1:bO op≤7) (h:(aC op==4)=true) (TD:decide (0≤op∧op≤31)=true) (hm:bL op w ab ae aa af ai cc=true):aQ Zy 43 ([xD op w ab ae aa af ai cc]) (.aL [bj 1 (bD (aD op w ab ae aa af ai cc)),aq 0]):=by
 have c0:= @bg op w ab ae aa af ai cc ho
 rw [hm] at c0
 have c1:= @dg op ho
 rw [eq_of_beq h] at c1
 generalize g3:bh op=r2 at c1
 generalize g5:bO op=r4 at c1
 rcases cI (bW (w==64) 0 ab false) with h6|h6
 ·have c7:= @eP 0 ab (by decide) (by decide) d0 d1 (w==64) false h6
  generalize g9:da (w==64) 0 ab=r8 at c7
  have Tp:= @jw r4 ab (by (simp only [cO] at*;omega)) (by (simp only [cO] at*;omega)) d0 d1
  generalize g12:bm r4 ab=TN at Tp
  exact (kT (d:= .aL [.bc (.fresh 1) 1 [ay r8,ay r2,ay TN,ay (aaY.u8.wrap ai)],aq 0]) [aw c0,tF,aw c1,tF,tF,tF,tF,tT,aw c7,aw Tp,aO,.go 64,tT,tT,bN 1,tT,tT,bN 2,tT,tT,bN 3,tT,tT,bN 4,tF]).to (by (try rw [pj d0 d1]);(subst_vars;(try simp only [aW] at*);(try simp only [cF] at h);(try simp only [bX,cJ] at*);simp_all [wk,a7,cH,aD,bD,bp,bA,a8,bw];done))
 have TF:= @fV 0 ab (by decide) (by decide) d0 d1 (w==64) false h6
 have T0:= @jw r4 ab (by (simp only [cO] at*;omega)) (by (simp only [cO] at*;omega)) d0 d1
 generalize g16:bm r4 ab=Vx at T0
 exact (kT (d:= .aL [.bc (.fresh 1) 1 [ay r2,ay Vx,ay (aaY.u8.wrap ai)],aq 0]) [aw c0,tF,aw c1,tF,tF,tF,tF,tT,aw TF,aw T0,aO,.go 64,tT,tT,bN 0,tT,tT,bN 1,tT,tT,bN 2,tT,tT,bN 3,tF]).to (by (try rw [pj d0 d1]);(subst_vars;(try simp only [aW] at*);(try simp only [cF] at h);(try simp only [bX,cJ] at*);simp_all [wk,a7,cH,aD,bD,bp,bA,a8,bw];done))
theorem DV (op w ab ae aa af ai cc:Int) (ho:op≤127) (d0:0≤ab) (d1:ab≤15) (s0:0≤ae) (s1:ae≤15) (b0:0≤aa) (b1:aa≤15) (p0: -2147483648≤af) (p1:af≤2147483647) (i0: -2147483648≤ai) (i1:ai≤2147483647) (c0:0≤cc) (c1:cc≤15) (n0:0≤bO op) (n1:bO op≤7) (h:(aC op==3)=true) (TD:decide (0≤op∧op≤31)=true) (hw:w=32∨w=64) (hm:bL op w ab ae aa af ai cc=true):aQ Zy 43 ([xD op w ab ae aa af ai cc]) (.aL [bj 1 (bD (aD op w ab ae aa af ai cc)),aq 0]):=by
 have c0:= @bg op w ab ae aa af ai cc ho
 rw [hm] at c0
 have c1:= @dg op ho
 rw [eq_of_beq h] at c1
 generalize g3:bh op=r2 at c1
 generalize g5:bO op=r4 at c1
 let E1:EL:= [aw c0,tF,aw c1,tF,tF,tF,tT]
 by_cases h6:op=1
 ·subst h6
  by_cases h7:w=64
  ·subst h7
   have c8:= @eP 0 ab n0 (by decide) d0 d1 true false (rfl:true=true)
   generalize g10:da true 0 ab=r9 at c8
   have TJ:= @jw r4 ab (by (simp only [cO] at*;omega)) (by (simp only [cO] at*;omega)) d0 d1
   generalize g13:bm r4 ab=V8 at TJ
   have T0:= @me ai
   exact (kT (d:= .aL [.bc (.fresh 1) 1 [ay r9,ay r2,ay V8,ay (ai%256),ay (ai / 256%256),ay (ai / 65536%256),ay (ai / 16777216%256)],aq 0]) (E1++ [tT,tT,tT,tF,aw c8,aw TJ,aw T0,aO,.go 64,tT,tT,bN 1,tT,tT,bN 2,tT,tT,bN 3,tT,tT,bN 7,tF])).to (by clear E1;(try rw [pj d0 d1]);(subst_vars;(try simp only [aW] at*);(try simp only [cF] at h);(try simp only [bX,cJ] at*);simp_all [wk,a7,cH,aD,bD,bp,bA,a8,bw,bW];done))
  rcases cI (bW false 0 ab false) with h15|h15
  ·have TG:= @eP 0 ab n0 (by decide) d0 d1 false false h15
   generalize g18:da false 0 ab=r17 at TG
   have T9:= @me ai
   exact (kT (d:= .aL [.bc (.fresh 1) 1 [ay r17,ay (aaY.u8.wrap (↑(Zz (Zw 8 184|||Zw 8 (aaY.u8.wrap (aaY.i8.wrap (↑(Zz (Zw 8 ab&&&Zw 8 7)):Int))))):Int)),ay (ai%256),ay (ai / 256%256),ay (ai / 65536%256),ay (ai / 16777216%256)],aq 0]) (E1++ [tT,tT,tT,tC (nt (aR h7)),aw TG,aw T9,aO,.go 64,tT,tT,bN 1,tT,tT,bN 2,tT,tT,bN 6,tF])).to (by clear E1;(try rw [pj d0 d1]);(subst_vars;(try simp only [aW] at*);(try simp only [cF] at h);(try simp only [bX,cJ] at*);simp_all [wk,a7,cH,aD,bD,bp,bA,a8,bw];done))
  have Vq:= @fV 0 ab n0 (by decide) d0 d1 false false h15
  have Vt:= @me ai
  exact (kT (d:= .aL [.bc (.fresh 1) 1 [ay (aaY.u8.wrap (↑(Zz (Zw 8 184|||Zw 8 (aaY.u8.wrap (aaY.i8.wrap (↑(Zz (Zw 8 ab&&&Zw 8 7)):Int))))):Int)),ay (ai%256),ay (ai / 256%256),ay (ai / 65536%256),ay (ai / 16777216%256)],aq 0]) (E1++ [tT,tT,tT,tC (nt (aR h7)),aw Vq,aw Vt,aO,.go 64,tT,tT,bN 0,tT,tT,bN 1,tT,tT,bN 5,tF])).to (by clear E1;(try rw [pj d0 d1]);(subst_vars;(try simp only [aW] at*);(try simp only [cF] at h);(try simp only [bX,cJ] at*);simp_all [wk,a7,cH,aD,bD,bp,bA,a8,bw];done))
 rcases cI (bW (w==64) 0 ab false) with h22|h22
 ·have Ua:= @eP 0 ab (by decide) (by decide) d0 d1 (w==64) false h22
  generalize g25:da (w==64) 0 ab=r24 at Ua
  have UQ:= @jw r4 ab (by (simp only [cO] at*;omega)) (by (simp only [cO] at*;omega)) d0 d1
  generalize g28:bm r4 ab=r27 at UQ
  have XU:= @me ai
  exact (kT (d:= .aL [.bc (.fresh 1) 1 [ay r24,ay r2,ay r27,ay (ai%256),ay (ai / 256%256),ay (ai / 65536%256),ay (ai / 16777216%256)],aq 0]) (E1++ [tC (eT (aR h6)),tC (eT (aR h6)),tC (aR h6),tF,aw Ua,aw UQ,aw XU,aO,.go 64,tT,tT,bN 1,tT,tT,bN 2,tT,tT,bN 3,tT,tT,bN 7,tF])).to (by clear E1;(try rw [pj d0 d1]);(subst_vars;(try simp only [aW] at*);(try simp only [cF] at h);(try simp only [bX,cJ] at*);simp_all [wk,a7,cH,aD,bD,bp,bA,a8,bw];done))
 have UX:= @fV 0 ab (by decide) (by decide) d0 d1 (w==64) false h22
 have US:= @jw r4 ab (by (simp only [cO] at*;omega)) (by (simp only [cO] at*;omega)) d0 d1
 generalize g33:bm r4 ab=r32 at US
 have Ys:= @me ai
 exact (kT (d:= .aL [.bc (.fresh 1) 1 [ay r2,ay r32,ay (ai%256),ay (ai / 256%256),ay (ai / 65536%256),ay (ai / 16777216%256)],aq 0]) (E1++ [tC (eT (aR h6)),tC (eT (aR h6)),tC (aR h6),tF,aw UX,aw US,aw Ys,aO,.go 64,tT,tT,bN 0,tT,tT,bN 1,tT,tT,bN 2,tT,tT,bN 6,tF])).to (by clear E1;(try rw [pj d0 d1]);(subst_vars;(try simp only [aW] at*);(try simp only [cF] at h);(try simp only [bX,cJ] at*);simp_all [wk,a7,cH,aD,bD,bp,bA,a8,bw];done))
theorem yo (w ab ae aa af ai cc:Int) (d0:0≤ab) (d1:ab≤15) (s0:0≤ae) (s1:ae≤15) (b0:0≤aa) (b1:aa≤15) (p0: -2147483648≤af) (p1:af≤2147483647) (i0: -2147483648≤ai) (i1:ai≤2147483647) (c0:0≤cc) (c1:cc≤15) (hm:bL 25 w ab ae aa af ai cc=true):aQ Zy 43 ([xD 25 w ab ae aa af ai cc]) (.aL [bj 1 (bD (aD 25 w ab ae aa af ai cc)),aq 0]):=by
 have c0:= @bg 25 w ab ae aa af ai cc (by decide)
 rw [hm] at c0
 have c1:= @dg 25 (by decide)
 rcases cI (bW (w==64) ab ae false) with h2|h2
 ·have c3:= @eP ab ae d0 d1 s0 s1 (w==64) false h2
  generalize g5:da (w==64) ab ae=r4 at c3
  have c6:= @jw ab ae d0 d1 s0 s1
  generalize g8:bm ab ae=r7 at c6
  exact (kT (d:= .aL [.bc (.fresh 1) 1 [ay r4,ay 15,ay (aaY.u8.wrap (64+aaY.u8.wrap cc)),ay r7],aq 0]) [aw c0,tF,aw c1,tF,tF,tT,aw c3,aw c6,aO,.go 64,tT,tT,bN 1,tT,tT,bN 3,tT,tT,bN 4,tF]).to (by (try rw [pj d0 d1]);(subst_vars;(try simp only [aW] at*);(try simp only [cF] at h);(try simp only [bX,cJ] at*);simp_all [wk,a7,cH,aD,bD,bp,bA,a8,bw,bW,bh,bO,aC];omega))
 have c9:= @fV ab ae d0 d1 s0 s1 (w==64) false h2
 have Tp:= @jw ab ae d0 d1 s0 s1
 generalize g12:bm ab ae=TN at Tp
 exact (kT (d:= .aL [.bc (.fresh 1) 1 [ay 15,ay (aaY.u8.wrap (64+aaY.u8.wrap cc)),ay TN],aq 0]) [aw c0,tF,aw c1,tF,tF,tT,aw c9,aw Tp,aO,.go 64,tT,tT,bN 0,tT,tT,bN 2,tT,tT,bN 3,tF]).to (by (try rw [pj d0 d1]);(subst_vars;(try simp only [aW] at*);(try simp only [cF] at h);(try simp only [bX,cJ] at*);simp_all [wk,a7,cH,aD,bD,bp,bA,a8,bw,bh,bO,aC];omega))
theorem yn (w ab ae aa af ai cc:Int) (d0:0≤ab) (d1:ab≤15) (s0:0≤ae) (s1:ae≤15) (b0:0≤aa) (b1:aa≤15) (p0: -2147483648≤af) (p1:af≤2147483647) (i0: -2147483648≤ai) (i1:ai≤2147483647) (c0:0≤cc) (c1:cc≤15) (hm:bL 26 w ab ae aa af ai cc=true):aQ Zy 43 ([xD 26 w ab ae aa af ai cc]) (.aL [bj 1 (bD (aD 26 w ab ae aa af ai cc)),aq 0]):=by
 have c0:= @bg 26 w ab ae aa af ai cc (by decide)
 rw [hm] at c0
 have c1:= @dg 26 (by decide)
 let E1:EL:= [aw c0,tF,aw c1,tF,tF,tF,tF,tF,tF,tT]
 by_cases h2:w=8
 ·subst h2
  rcases cI (bW false ab aa false) with h3|h3
  ·have c4:= @eP ab aa d0 d1 b0 b1 false false h3
   generalize g6:da false ab aa=r5 at c4
   rcases cI (decide (aa%8=4)) with h7|h7
   ·have c8:= @gD ab aa af d0 d1 b0 b1 p0 p1 h7
    exact (kT (d:= .aL [.bc (.fresh 1) 1 [ay r5,ay 15,ay 182,ay (128+8*(ab%8)+aa%8),ay 36,ay (af%256),ay (af / 256%256),ay (af / 65536%256),ay (af / 16777216%256)],aq 0]) (E1++ [tT,aw c4,aO,aw c8,aO,.go 64,tT,tT,bN 1,tT,tT,bN 3,tT,tT,bN 9,tF])).to (by clear E1;subst_vars;(try simp only [aW] at*);(try simp only [cF] at h);(try simp only [bX,cJ] at*);simp_all [wk,a7,cH,aD,show aC 26=7 from rfl,bh,bD,bp,bA,a8,bw])
   have c9:= @gC ab aa af d0 d1 b0 b1 p0 p1 h7
   exact (kT (d:= .aL [.bc (.fresh 1) 1 [ay r5,ay 15,ay 182,ay (128+8*(ab%8)+aa%8),ay (af%256),ay (af / 256%256),ay (af / 65536%256),ay (af / 16777216%256)],aq 0]) (E1++ [tT,aw c4,aO,aw c9,aO,.go 64,tT,tT,bN 1,tT,tT,bN 3,tT,tT,bN 8,tF])).to (by clear E1;subst_vars;(try simp only [aW] at*);(try simp only [cF] at h);(try simp only [bX,cJ] at*);simp_all [wk,a7,cH,aD,show aC 26=7 from rfl,bh,bD,bp,bA,a8,bw])
  have Tp:= @fV ab aa d0 d1 b0 b1 false false h3
  rcases cI (decide (aa%8=4)) with Vn|Vn
  ·have Tx:= @gD ab aa af d0 d1 b0 b1 p0 p1 Vn
   exact (kT (d:= .aL [.bc (.fresh 1) 1 [ay 15,ay 182,ay (128+8*(ab%8)+aa%8),ay 36,ay (af%256),ay (af / 256%256),ay (af / 65536%256),ay (af / 16777216%256)],aq 0]) (E1++ [tT,aw Tp,aO,aw Tx,aO,.go 64,tT,tT,bN 0,tT,tT,bN 2,tT,tT,bN 8,tF])).to (by clear E1;subst_vars;(try simp only [aW] at*);(try simp only [cF] at h);(try simp only [bX,cJ] at*);simp_all [wk,a7,cH,aD,show aC 26=7 from rfl,bh,bD,bp,bA,a8,bw])
  have TF:= @gC ab aa af d0 d1 b0 b1 p0 p1 Vn
  exact (kT (d:= .aL [.bc (.fresh 1) 1 [ay 15,ay 182,ay (128+8*(ab%8)+aa%8),ay (af%256),ay (af / 256%256),ay (af / 65536%256),ay (af / 16777216%256)],aq 0]) (E1++ [tT,aw Tp,aO,aw TF,aO,.go 64,tT,tT,bN 0,tT,tT,bN 2,tT,tT,bN 7,tF])).to (by clear E1;subst_vars;(try simp only [aW] at*);(try simp only [cF] at h);(try simp only [bX,cJ] at*);simp_all [wk,a7,cH,aD,show aC 26=7 from rfl,bh,bD,bp,bA,a8,bw])
 let E2:EL:=E1++ [tC (aR h2)]
 by_cases h14:w=16
 ·subst h14
  rcases cI (bW false ab aa false) with h15|h15
  ·have TG:= @eP ab aa d0 d1 b0 b1 false false h15
   generalize g18:da false ab aa=r17 at TG
   rcases cI (decide (aa%8=4)) with h19|h19
   ·have Vq:= @gD ab aa af d0 d1 b0 b1 p0 p1 h19
    exact (kT (d:= .aL [.bc (.fresh 1) 1 [ay r17,ay 15,ay 183,ay (128+8*(ab%8)+aa%8),ay 36,ay (af%256),ay (af / 256%256),ay (af / 65536%256),ay (af / 16777216%256)],aq 0]) (E2++ [tT,aw TG,aO,aw Vq,aO,.go 64,tT,tT,bN 1,tT,tT,bN 3,tT,tT,bN 9,tF])).to (by clear E1 E2;subst_vars;(try simp only [aW] at*);(try simp only [cF] at h);(try simp only [bX,cJ] at*);simp_all [wk,a7,cH,aD,show aC 26=7 from rfl,bh,bD,bp,bA,a8,bw])
   have Vt:= @gC ab aa af d0 d1 b0 b1 p0 p1 h19
   exact (kT (d:= .aL [.bc (.fresh 1) 1 [ay r17,ay 15,ay 183,ay (128+8*(ab%8)+aa%8),ay (af%256),ay (af / 256%256),ay (af / 65536%256),ay (af / 16777216%256)],aq 0]) (E2++ [tT,aw TG,aO,aw Vt,aO,.go 64,tT,tT,bN 1,tT,tT,bN 3,tT,tT,bN 8,tF])).to (by clear E1 E2;subst_vars;(try simp only [aW] at*);(try simp only [cF] at h);(try simp only [bX,cJ] at*);simp_all [wk,a7,cH,aD,show aC 26=7 from rfl,bh,bD,bp,bA,a8,bw])
  have VC:= @fV ab aa d0 d1 b0 b1 false false h15
  rcases cI (decide (aa%8=4)) with h23|h23
  ·have UG:= @gD ab aa af d0 d1 b0 b1 p0 p1 h23
   exact (kT (d:= .aL [.bc (.fresh 1) 1 [ay 15,ay 183,ay (128+8*(ab%8)+aa%8),ay 36,ay (af%256),ay (af / 256%256),ay (af / 65536%256),ay (af / 16777216%256)],aq 0]) (E2++ [tT,aw VC,aO,aw UG,aO,.go 64,tT,tT,bN 0,tT,tT,bN 2,tT,tT,bN 8,tF])).to (by clear E1 E2;subst_vars;(try simp only [aW] at*);(try simp only [cF] at h);(try simp only [bX,cJ] at*);simp_all [wk,a7,cH,aD,show aC 26=7 from rfl,bh,bD,bp,bA,a8,bw])
  have WW:= @gC ab aa af d0 d1 b0 b1 p0 p1 h23
  exact (kT (d:= .aL [.bc (.fresh 1) 1 [ay 15,ay 183,ay (128+8*(ab%8)+aa%8),ay (af%256),ay (af / 256%256),ay (af / 65536%256),ay (af / 16777216%256)],aq 0]) (E2++ [tT,aw VC,aO,aw WW,aO,.go 64,tT,tT,bN 0,tT,tT,bN 2,tT,tT,bN 7,tF])).to (by clear E1 E2;subst_vars;(try simp only [aW] at*);(try simp only [cF] at h);(try simp only [bX,cJ] at*);simp_all [wk,a7,cH,aD,show aC 26=7 from rfl,bh,bD,bp,bA,a8,bw])
 rcases cI (bW (w==64) ab aa false) with h26|h26
 ·have Uj:= @eP ab aa d0 d1 b0 b1 (w==64) false h26
  generalize g29:da (w==64) ab aa=r28 at Uj
  rcases cI (decide (aa%8=4)) with h30|h30
  ·have US:= @gD ab aa af d0 d1 b0 b1 p0 p1 h30
   exact (kT (d:= .aL [.bc (.fresh 1) 1 [ay r28,ay 139,ay (128+8*(ab%8)+aa%8),ay 36,ay (af%256),ay (af / 256%256),ay (af / 65536%256),ay (af / 16777216%256)],aq 0]) (E2++ [tC (aR h14),aw Uj,aO,aw US,aO,.go 64,tT,tT,bN 1,tT,tT,bN 2,tT,tT,bN 8,tF])).to (by clear E1 E2;subst_vars;(try simp only [aW] at*);(try simp only [cF] at h);(try simp only [bX,cJ] at*);simp_all [wk,a7,cH,aD,show aC 26=7 from rfl,bh,bD,bp,bA,a8,bw])
  have YG:= @gC ab aa af d0 d1 b0 b1 p0 p1 h30
  exact (kT (d:= .aL [.bc (.fresh 1) 1 [ay r28,ay 139,ay (128+8*(ab%8)+aa%8),ay (af%256),ay (af / 256%256),ay (af / 65536%256),ay (af / 16777216%256)],aq 0]) (E2++ [tC (aR h14),aw Uj,aO,aw YG,aO,.go 64,tT,tT,bN 1,tT,tT,bN 2,tT,tT,bN 7,tF])).to (by clear E1 E2;subst_vars;(try simp only [aW] at*);(try simp only [cF] at h);(try simp only [bX,cJ] at*);simp_all [wk,a7,cH,aD,show aC 26=7 from rfl,bh,bD,bp,bA,a8,bw])
 have XL:= @fV ab aa d0 d1 b0 b1 (w==64) false h26
 rcases cI (decide (aa%8=4)) with h34|h34
 ·have YC:= @gD ab aa af d0 d1 b0 b1 p0 p1 h34
  exact (kT (d:= .aL [.bc (.fresh 1) 1 [ay 139,ay (128+8*(ab%8)+aa%8),ay 36,ay (af%256),ay (af / 256%256),ay (af / 65536%256),ay (af / 16777216%256)],aq 0]) (E2++ [tC (aR h14),aw XL,aO,aw YC,aO,.go 64,tT,tT,bN 0,tT,tT,bN 1,tT,tT,bN 7,tF])).to (by clear E1 E2;subst_vars;(try simp only [aW] at*);(try simp only [cF] at h);(try simp only [bX,cJ] at*);simp_all [wk,a7,cH,aD,show aC 26=7 from rfl,bh,bD,bp,bA,a8,bw])
 have c36:= @gC ab aa af d0 d1 b0 b1 p0 p1 h34
 exact (kT (d:= .aL [.bc (.fresh 1) 1 [ay 139,ay (128+8*(ab%8)+aa%8),ay (af%256),ay (af / 256%256),ay (af / 65536%256),ay (af / 16777216%256)],aq 0]) (E2++ [tC (aR h14),aw XL,aO,aw c36,aO,.go 64,tT,tT,bN 0,tT,tT,bN 1,tT,tT,bN 6,tF])).to (by clear E1 E2;subst_vars;(try simp only [aW] at*);(try simp only [cF] at h);(try simp only [bX,cJ] at*);simp_all [wk,a7,cH,aD,show aC 26=7 from rfl,bh,bD,bp,bA,a8,bw])
theorem ym (w ab ae aa af ai cc:Int) (d0:0≤ab) (d1:ab≤15) (s0:0≤ae) (s1:ae≤15) (b0:0≤aa) (b1:aa≤15) (p0: -2147483648≤af) (p1:af≤2147483647) (i0: -2147483648≤ai) (i1:ai≤2147483647) (c0:0≤cc) (c1:cc≤15) (hm:bL 27 w ab ae aa af ai cc=true):aQ Zy 43 ([xD 27 w ab ae aa af ai cc]) (.aL [bj 1 (bD (aD 27 w ab ae aa af ai cc)),aq 0]):=by
 have c0:= @bg 27 w ab ae aa af ai cc (by decide)
 rw [hm] at c0
 have c1:= @dg 27 (by decide)
 let E1:EL:=([aw c0,tF,aw c1]++cr 8 128)
 by_cases h2:w=8
 ·subst h2
  have c3:= @eP ae aa s0 s1 b0 b1 false true (rfl:true=true)
  generalize g5:da false ae aa=r4 at c3
  rcases cI (decide (aa%8=4)) with h6|h6
  ·have c7:= @gD ae aa af s0 s1 b0 b1 p0 p1 h6
   exact (kT (d:= .aL [.bc (.fresh 1) 1 [ay r4,ay 136,ay (128+8*(ae%8)+aa%8),ay 36,ay (af%256),ay (af / 256%256),ay (af / 65536%256),ay (af / 16777216%256)],aq 0]) (E1++ [tT,aw c3,aO,aw c7,aO,.go 64,tT,tT,bN 0,tT,tT,bN 1,tT,tT,bN 2,tT,tT,bN 8,tF])).to (by clear E1;(subst_vars;(try simp only [aW] at*);(try simp only [cF] at h);(try simp only [bX,cJ] at*);simp_all [wk,a7,cH,aD,bD,bp,bA,a8,bw,bW,bh,bO,aC];done))
  have c8:= @gC ae aa af s0 s1 b0 b1 p0 p1 h6
  exact (kT (d:= .aL [.bc (.fresh 1) 1 [ay r4,ay 136,ay (128+8*(ae%8)+aa%8),ay (af%256),ay (af / 256%256),ay (af / 65536%256),ay (af / 16777216%256)],aq 0]) (E1++ [tT,aw c3,aO,aw c8,aO,.go 64,tT,tT,bN 0,tT,tT,bN 1,tT,tT,bN 2,tT,tT,bN 7,tF])).to (by clear E1;(subst_vars;(try simp only [aW] at*);(try simp only [cF] at h);(try simp only [bX,cJ] at*);simp_all [wk,a7,cH,aD,bD,bp,bA,a8,bw,bW,bh,bO,aC];done))
 let E2:EL:=E1++ [tC (aR h2)]
 by_cases h9:w=16
 ·subst h9
  rcases cI (bW false ae aa false) with UE|UE
  ·have TJ:= @eP ae aa s0 s1 b0 b1 false false UE
   generalize g13:da false ae aa=V8 at TJ
   rcases cI (decide (aa%8=4)) with h14|h14
   ·have Ut:= @gD ae aa af s0 s1 b0 b1 p0 p1 h14
    exact (kT (d:= .aL [.bc (.fresh 1) 1 [ay 102,ay V8,ay 137,ay (128+8*(ae%8)+aa%8),ay 36,ay (af%256),ay (af / 256%256),ay (af / 65536%256),ay (af / 16777216%256)],aq 0]) (E2++ [tT,aw TJ,aO,aw Ut,aO,.go 64,tT,tT,bN 1,tT,tT,bN 2,tT,tT,bN 3,tT,tT,bN 9,tF])).to (by clear E1 E2;(subst_vars;(try simp only [aW] at*);(try simp only [cF] at h);(try simp only [bX,cJ] at*);simp_all [wk,a7,cH,aD,bD,bp,bA,a8,bw,bW,bh,bO,aC];done))
   have TG:= @gC ae aa af s0 s1 b0 b1 p0 p1 h14
   exact (kT (d:= .aL [.bc (.fresh 1) 1 [ay 102,ay V8,ay 137,ay (128+8*(ae%8)+aa%8),ay (af%256),ay (af / 256%256),ay (af / 65536%256),ay (af / 16777216%256)],aq 0]) (E2++ [tT,aw TJ,aO,aw TG,aO,.go 64,tT,tT,bN 1,tT,tT,bN 2,tT,tT,bN 3,tT,tT,bN 8,tF])).to (by clear E1 E2;(subst_vars;(try simp only [aW] at*);(try simp only [cF] at h);(try simp only [bX,cJ] at*);simp_all [wk,a7,cH,aD,bD,bp,bA,a8,bw,bW,bh,bO,aC];done))
  have Vs:= @fV ae aa s0 s1 b0 b1 false false UE
  rcases cI (decide (aa%8=4)) with h18|h18
  ·have T9:= @gD ae aa af s0 s1 b0 b1 p0 p1 h18
   exact (kT (d:= .aL [.bc (.fresh 1) 1 [ay 102,ay 137,ay (128+8*(ae%8)+aa%8),ay 36,ay (af%256),ay (af / 256%256),ay (af / 65536%256),ay (af / 16777216%256)],aq 0]) (E2++ [tT,aw Vs,aO,aw T9,aO,.go 64,tT,tT,bN 1,tT,tT,bN 1,tT,tT,bN 2,tT,tT,bN 8,tF])).to (by clear E1 E2;(subst_vars;(try simp only [aW] at*);(try simp only [cF] at h);(try simp only [bX,cJ] at*);simp_all [wk,a7,cH,aD,bD,bp,bA,a8,bw,bW,bh,bO,aC];done))
  have Vq:= @gC ae aa af s0 s1 b0 b1 p0 p1 h18
  exact (kT (d:= .aL [.bc (.fresh 1) 1 [ay 102,ay 137,ay (128+8*(ae%8)+aa%8),ay (af%256),ay (af / 256%256),ay (af / 65536%256),ay (af / 16777216%256)],aq 0]) (E2++ [tT,aw Vs,aO,aw Vq,aO,.go 64,tT,tT,bN 1,tT,tT,bN 1,tT,tT,bN 2,tT,tT,bN 7,tF])).to (by clear E1 E2;(subst_vars;(try simp only [aW] at*);(try simp only [cF] at h);(try simp only [bX,cJ] at*);simp_all [wk,a7,cH,aD,bD,bp,bA,a8,bw,bW,bh,bO,aC];done))
 rcases cI (bW (w==64) ae aa (w==8)) with h21|h21
 ·have VC:= @eP ae aa s0 s1 b0 b1 (w==64) (w==8) h21
  generalize g24:da (w==64) ae aa=r23 at VC
  rcases cI (decide (aa%8=4)) with h25|h25
  ·have UQ:= @gD ae aa af s0 s1 b0 b1 p0 p1 h25
   exact (kT (d:= .aL [.bc (.fresh 1) 1 [ay r23,ay 137,ay (128+8*(ae%8)+aa%8),ay 36,ay (af%256),ay (af / 256%256),ay (af / 65536%256),ay (af / 16777216%256)],aq 0]) (E2++ [tC (aR h9),aw VC,aO,aw UQ,aO,.go 64,tT,tT,bN 0,tT,tT,bN 1,tT,tT,bN 2,tT,tT,bN 8,tF])).to (by clear E1 E2;(subst_vars;(try simp only [aW] at*);(try simp only [cF] at h);(try simp only [bX,cJ] at*);simp_all [wk,a7,cH,aD,bD,bp,bA,a8,bw,bW,bh,bO,aC];done))
  have Uj:= @gC ae aa af s0 s1 b0 b1 p0 p1 h25
  exact (kT (d:= .aL [.bc (.fresh 1) 1 [ay r23,ay 137,ay (128+8*(ae%8)+aa%8),ay (af%256),ay (af / 256%256),ay (af / 65536%256),ay (af / 16777216%256)],aq 0]) (E2++ [tC (aR h9),aw VC,aO,aw Uj,aO,.go 64,tT,tT,bN 0,tT,tT,bN 1,tT,tT,bN 2,tT,tT,bN 7,tF])).to (by clear E1 E2;(subst_vars;(try simp only [aW] at*);(try simp only [cF] at h);(try simp only [bX,cJ] at*);simp_all [wk,a7,cH,aD,bD,bp,bA,a8,bw,bW,bh,bO,aC];done))
 have Xj:= @fV ae aa s0 s1 b0 b1 (w==64) (w==8) h21
 rcases cI (decide (aa%8=4)) with h29|h29
 ·have UX:= @gD ae aa af s0 s1 b0 b1 p0 p1 h29
  exact (kT (d:= .aL [.bc (.fresh 1) 1 [ay 137,ay (128+8*(ae%8)+aa%8),ay 36,ay (af%256),ay (af / 256%256),ay (af / 65536%256),ay (af / 16777216%256)],aq 0]) (E2++ [tC (aR h9),aw Xj,aO,aw UX,aO,.go 64,tT,tT,bN 0,tT,tT,bN 0,tT,tT,bN 1,tT,tT,bN 7,tF])).to (by clear E1 E2;(subst_vars;(try simp only [aW] at*);(try simp only [cF] at h);(try simp only [bX,cJ] at*);simp_all [wk,a7,cH,aD,bD,bp,bA,a8,bw,bW,bh,bO,aC];done))
 have US:= @gC ae aa af s0 s1 b0 b1 p0 p1 h29
 exact (kT (d:= .aL [.bc (.fresh 1) 1 [ay 137,ay (128+8*(ae%8)+aa%8),ay (af%256),ay (af / 256%256),ay (af / 65536%256),ay (af / 16777216%256)],aq 0]) (E2++ [tC (aR h9),aw Xj,aO,aw US,aO,.go 64,tT,tT,bN 0,tT,tT,bN 0,tT,tT,bN 1,tT,tT,bN 6,tF])).to (by clear E1 E2;(subst_vars;(try simp only [aW] at*);(try simp only [cF] at h);(try simp only [bX,cJ] at*);simp_all [wk,a7,cH,aD,bD,bp,bA,a8,bw,bW,bh,bO,aC];done))
def rI (Tz:Int):Prop:= ∀(w ab ae aa af ai cc:Int) (d0:0≤ab) (d1:ab≤15) (s0:0≤ae) (s1:ae≤15) (b0:0≤aa) (b1:aa≤15) (p0: -2147483648≤af) (p1:af≤2147483647) (i0: -2147483648≤ai) (i1:ai≤2147483647) (c0:0≤cc) (c1:cc≤15) (hm:bL Tz w ab ae aa af ai cc=true),aQ Zy 43 ([xD Tz w ab ae aa af ai cc]) (.aL [bj 1 (bD (aD Tz w ab ae aa af ai cc)),aq 0])
theorem yk:rI 28:=by
 intro w ab ae aa af ai cc d0 d1 s0 s1 b0 b1 p0 p1 i0 i1 c0 c1 hm
 have c0:= @bg 28 w ab ae aa af ai cc (by decide)
 rw [show (bL 28 w ab ae aa af ai cc)=true from hm] at c0
 have c1:= @dg 28 (by decide)
 by_cases h2:w=8
 ·subst h2
  exact (kT (d:= .aL [.bc .tight 1 [ay 235,ay (aaY.wrap aaY.u8 ai)],aq 0]) ([aw c0,tF,aw c1]++Zx 8 tF++ [tT,tT])).to (by (subst_vars;(try simp only [aW] at*);(try simp only [cF] at h);(try simp only [bX,cJ] at*);simp_all [wk,a7,cH,aD,show aC 28=9 from rfl,bD,bp,bA,a8,bw];done))
 have c3:= @me ai
 exact (kT (d:= .aL [.bc (.fresh 1) 1 [ay 233,ay (ai%256),ay (ai / 256%256),ay (ai / 65536%256),ay (ai / 16777216%256)],aq 0]) ([aw c0,tF,aw c1]++Zx 8 tF++ [tT,tC (aR h2),aw c3,aO,.go 64,tT,tT,bN 1,tT,tT,bN 5,tF])).to (by (subst_vars;(try simp only [aW] at*);(try simp only [cF] at h);(try simp only [bX,cJ] at*);simp_all [wk,a7,cH,aD,show aC 28=9 from rfl,bD,bp,bA,a8,bw];done))
theorem yj:rI 29:=by
 intro w ab ae aa af ai cc d0 d1 s0 s1 b0 b1 p0 p1 i0 i1 c0 c1 hm
 have c0:= @bg 29 w ab ae aa af ai cc (by decide)
 rw [show (bL 29 w ab ae aa af ai cc)=true from hm] at c0
 have c1:= @dg 29 (by decide)
 by_cases h2:w=8
 ·subst h2
  exact (kT (d:= .aL [.bc .tight 1 [ay (aaY.wrap aaY.u8 (112+aaY.wrap aaY.u8 cc)),ay (aaY.wrap aaY.u8 ai)],aq 0]) ([aw c0,tF,aw c1]++Zx 9 tF++ [tT,tT])).to (by (subst_vars;(try simp only [aW] at*);(try simp only [cF] at h);(try simp only [bX,cJ] at*);simp_all [wk,a7,cH,aD,show aC 29=10 from rfl,bD,bp,bA,a8,bw];omega))
 have c3:= @me ai
 exact (kT (d:= .aL [.bc (.fresh 1) 1 [ay 15,ay (aaY.wrap aaY.u8 (128+aaY.wrap aaY.u8 cc)),ay (ai%256),ay (ai / 256%256),ay (ai / 65536%256),ay (ai / 16777216%256)],aq 0]) ([aw c0,tF,aw c1]++Zx 9 tF++ [tT,tC (aR h2),aw c3,aO,.go 64,tT,tT,bN 2,tT,tT,bN 6,tF])).to (by (subst_vars;(try simp only [aW] at*);(try simp only [cF] at h);(try simp only [bX,cJ] at*);simp_all [wk,a7,cH,aD,show aC 29=10 from rfl,bD,bp,bA,a8,bw];omega))
theorem yi:rI 30:=by
 intro w ab ae aa af ai cc d0 d1 s0 s1 b0 b1 p0 p1 i0 i1 c0 c1 hm
 have c0:= @bg 30 w ab ae aa af ai cc (by decide)
 rw [show (bL 30 w ab ae aa af ai cc)=true from hm] at c0
 have c1:= @dg 30 (by decide)
 exact (kT (d:= .aL [.bc .tight 1 [ay 195],aq 0]) ([aw c0,tF,aw c1]++Zx 11 tF)).to (by (subst_vars;(try simp only [aW] at*);(try simp only [cF] at h);(try simp only [bX,cJ] at*);simp_all [wk,a7,cH,aD,show aC 30=11 from rfl,bD,bp,bA,a8,bw];done))
theorem yh:rI 31:=by
 intro w ab ae aa af ai cc d0 d1 s0 s1 b0 b1 p0 p1 i0 i1 c0 c1 hm
 have c0:= @bg 31 w ab ae aa af ai cc (by decide)
 rw [show (bL 31 w ab ae aa af ai cc)=true from hm] at c0
 have c1:= @dg 31 (by decide)
 exact (kT (d:= .aL [.bc .tight 1 [ay 15,ay 5],aq 0]) ([aw c0,tF,aw c1]++Zx 10 tF++ [tT])).to (by (subst_vars;(try simp only [aW] at*);(try simp only [cF] at h);(try simp only [bX,cJ] at*);simp_all [wk,a7,cH,aD,show aC 31=11 from rfl,bD,bp,bA,a8,bw];done))
theorem G6 (op:Int):0≤bO op∧bO op≤7:=by
 unfold bO
 repeat' split
 all_goals omega
theorem MZ {op w ab ae aa af ai cc:Int} (h:bL op w ab ae aa af ai cc=true):0≤cc∧cc≤15:=by
 have hs:=(dA h).2
 unfold iK at hs
 repeat' split at hs
 all_goals first|(cases hs;done)|(simp only [cT,Bool.and_eq_true,bX] at hs;omega)
theorem yg (op w ab ae aa af ai cc:Int) (ho:op≤127) (hm:bL op w ab ae aa af ai cc=true):
  aQ Zy 43 [xD op w ab ae aa af ai cc] (.aL [bj 1 (bD (aD op w ab ae aa af ai cc)),aq 0]):=by
 obtain ⟨⟨d0,d1,s0,s1,b0,b1,p0,p1,i0,i1⟩,hs⟩:=dA hm
 obtain ⟨c0,c1⟩:=MZ hm
 obtain ⟨n0,n1⟩:=G6 op
 have U3:aC op≠0:=by
  intro e
  rw [e] at hs
  simp [iK] at hs
 obtain ⟨k,e⟩:=sH U3
 have TD:decide (0≤op∧op≤31)=true:=by rw [e];simp;omega
 have hr:=kO k
 rw [← e] at hr
 rcases hr with h|h|h|h|h|h|h|h|h|h|h
 ·exact DW _ _ _ _ _ _ _ _ ho d0 d1 s0 s1 b0 b1 p0 p1 i0 i1 c0 c1 n0 n1 (by rw [h];rfl) TD hm
 ·have e2:op=16:=by
   rw [e] at h ⊢
   revert h
   exact (by decide+kernel:∀n:Fin 32,aC (n.val:Int)=2→(n.val:Int)=16) k
  subst e2
  exact yp _ _ _ _ _ _ _ d0 d1 s0 s1 b0 b1 p0 p1 i0 i1 c0 c1 hm
 ·exact DV _ _ _ _ _ _ _ _ ho d0 d1 s0 s1 b0 b1 p0 p1 i0 i1 c0 c1 n0 n1 (by rw [h];rfl) TD (ej (by rw [h] at hs;simp [iK] at hs;exact hs.1)) hm
 ·exact DU _ _ _ _ _ _ _ _ ho d0 d1 s0 s1 b0 b1 p0 p1 i0 i1 c0 c1 n0 n1 (by rw [h];rfl) TD hm
 ·exact DT _ _ _ _ _ _ _ _ ho d0 d1 s0 s1 b0 b1 p0 p1 i0 i1 c0 c1 n0 n1 (by rw [h];rfl) TD hm
 ·have e2:op=25:=by rw [e] at h ⊢;exact qV k h
  subst e2
  exact yo _ _ _ _ _ _ _ d0 d1 s0 s1 b0 b1 p0 p1 i0 i1 c0 c1 hm
 ·have e2:op=26:=by rw [e] at h ⊢;exact qU k h
  subst e2
  exact yn _ _ _ _ _ _ _ d0 d1 s0 s1 b0 b1 p0 p1 i0 i1 c0 c1 hm
 ·have e2:op=27:=by rw [e] at h ⊢;exact qT k h
  subst e2
  exact ym _ _ _ _ _ _ _ d0 d1 s0 s1 b0 b1 p0 p1 i0 i1 c0 c1 hm
 ·have e2:op=28:=by rw [e] at h ⊢;exact qS k h
  subst e2
  exact yk _ _ _ _ _ _ _ d0 d1 s0 s1 b0 b1 p0 p1 i0 i1 c0 c1 hm
 ·have e2:op=29:=by rw [e] at h ⊢;exact oQ k h
  subst e2
  exact yj _ _ _ _ _ _ _ d0 d1 s0 s1 b0 b1 p0 p1 i0 i1 c0 c1 hm
 ·rcases oP k (by rw [e] at h;exact h) with e2|e2
  ·rw [← e] at e2;subst e2
   exact yi _ _ _ _ _ _ _ d0 d1 s0 s1 b0 b1 p0 p1 i0 i1 c0 c1 hm
  ·rw [← e] at e2;subst e2
   exact yh _ _ _ _ _ _ _ d0 d1 s0 s1 b0 b1 p0 p1 i0 i1 c0 c1 hm
theorem Bd (op w ab ae aa af ai cc:Int) (ho:op≤127) (hm:bL op w ab ae aa af ai cc=false):aQ Zy 43 ([xD op w ab ae aa af ai cc]) (.aL [bj 1 [],aq 2]):=by
 have c0:= @bg op w ab ae aa af ai cc ho
 rw [show (bL op w ab ae aa af ai cc)=false from hm] at c0
 exact (kT (d:= .aL [.bc .tight 0 [],aq 2]) [aw c0,tT]).to (by simp [wk,a7,cH])
theorem j8 (op w ab ae aa af ai cc:Int) (ho:op≤127):aQ Zy 43 [xD op w ab ae aa af ai cc] (.aL [bj 1 (mi op w ab ae aa af ai cc),aq (qm op w ab ae aa af ai cc)]):=by
 unfold mi qm
 cases h:bL op w ab ae aa af ai cc
 ·exact Bd op w ab ae aa af ai cc ho h
 ·exact yg op w ab ae aa af ai cc ho h
theorem cU (op w ab ae aa af ai cc:Int) (ho:op≤127):aQ Zy 116 ([xD op w ab ae aa af ai cc]) (aq (ct op w ab ae aa af ai cc)):=by
 have c0:= @j8 op w ab ae aa af ai cc ho
 exact (Rx (d:= .int .i64 (↑(ZA (mi op w ab ae aa af ai cc)):Int)) [aw c0]).to (by simp [wk,ct])
theorem OC (b:List Int) (s:aK):aF Zy (dT Tryz.f141 0) ⟨[],[1,2,3,5],[]⟩ 9 ([D.jM 5,.ptr false 4 0,uu,.ptr false 7 0]++ke 11++ [.agg jS,aq 32]++ke 16) [aA [bj 1 (bD b)],aA [ak 0,ak 0,ak 0,ak 0,ak 0,aq 0,aq 0,ak 0],aA [aq 0],aA [aq 0],aA [bj 1 (bD b)],
 Ob.lp Lk.ready
  (let y:=
   let y:=
    let y:=(ke 5);
    uu::uu::uu::uu::uu::y;
   let y:=uu::uu::uu::uu::uu::y;
   uu::uu::uu::uu::uu::y;
  let y:=
   let y:=uu::uu::uu::uu::uu::y;
   uu::uu::uu::uu::uu::y;
  let y:= .ptr false 3 0::uu::uu::uu::uu::y;
  uu:: .ptr false 0 0:: .ptr false 1 0:: .ptr false 2 0::y)
  #[10] (dP aaf 0) (dN aaf 0),
 .dead,aA [ak (aK.w s),ax (aK.fH s),ay (aK.code s),ak (aK.r s),ak (aK.m s),aq (aK.af s),aq (aK.ai s),aq (aK.small s),aq (aK.gu s),aq (aK.hU s),ak (aK.high s)],aY] (Ex.exit 0) (ke 33) ([aY,aA [ak 0,ak 0,ak 0,ak 0,ak 0,aq 0,aq 0,ak 0],aA [aq 0],aA [aq 0],aY,Ob.lp Lk.ready ([uu,.ptr false 0 0,.ptr false 1 0,.ptr false 2 0,.ptr false 3 0]++ke 34) #[10] (dP aaf 0) (dN aaf 0),aY,aY,aY]):=aF.aj mixed [tF] (by kernel_rfl)
theorem OA (b own:List Int) (s:aK) (k:Int) (k0:0≤k) (k1:k≤31) (v0:0≤s.code) (v1:s.code≤255) (hh:s.high=0∨s.high=8) (hy:aQ Zy 72 [mF (fS s k)] (ax false)):aF Zy (dT Tryz.f141 0) ⟨[0,1,3,15,16],[0,1,2,3,4,5,7],[]⟩ 9 ([D.jM 5,.ptr false 4 0,uu,.ptr false 7 0]++ke 11++ [.agg jS,aq k]++ke 16) [aA [bj 1 (bD b)],aA [ak 0,ak 0,ak 0,ak 0,ak 0,aq 0,aq 0,ak 0],aA [aq 0],aA [aq 0],aA [bj 1 (bD b)],
 Ob.lp Lk.ready
  (let y:=
   let y:=
    let y:=(ke 5);
    uu::uu::uu::uu::uu::y;
   let y:=uu::uu::uu::uu::uu::y;
   uu::uu::uu::uu::uu::y;
  let y:=
   let y:=uu::uu::uu::uu::uu::y;
   uu::uu::uu::uu::uu::y;
  let y:= .ptr false 3 0::uu::uu::uu::uu::y;
  uu:: .ptr false 0 0:: .ptr false 1 0:: .ptr false 2 0::y)
  #[10] (dP aaf 0) (dN aaf 0),
 .dead,aA [ak (aK.w s),ax (aK.fH s),ay (aK.code s),ak (aK.r s),ak (aK.m s),aq (aK.af s),aq (aK.ai s),aq (aK.small s),aq (aK.gu s),aq (aK.hU s),ak (aK.high s)],aY] .norm ([D.jM 5,.ptr false 4 0,uu,.ptr false 7 0]++ke 11++ [.agg jS,aq (aaY.i64.wrap (k+1))]++ke 16) ([aA [bj 1 (bD b)],aA [ak 0,ak 0,ak 0,ak 0,ak 0,aq 0,aq 0,ak 0],aA [aq 0],aA [aq 0],aA [bj 1 (bD b)],.lp .ready ([uu,.ptr false 0 0,.ptr false 1 0,.ptr false 2 0,.ptr false 3 0]++ke 34) #[10] (dP aaf 0) (dN aaf 0),aY,aA [ak (aK.w s),.bool (aK.fH s),ay (aK.code s),ak (aK.r s),ak (aK.m s),aq (aK.af s),aq (aK.ai s),aq (aK.small s),aq (aK.gu s),aq (aK.hU s),ak (aK.high s)],aY]):=aF.aj mixed [tC (cq (ZC k1)),.cM (decide (0≤k∧k<(↑(32:Nat):Int))) true (by (simp only [cO] at*;omega)),.fU _ _ _ _ (@pB k k0 k1),.aI _ _ _ _ _ (@FH s k k0 k1 v0 v1 hh (aA [bj 1 (bD b)]) (aA [ak 0,ak 0,ak 0,ak 0,ak 0,aq 0,aq 0,ak 0]) (aA [aq 0]) (aA [aq 0]) (aA [bj 1 (bD b)]) (Ob.lp Lk.ready ([uu,.ptr false 0 0,.ptr false 1 0,.ptr false 2 0,.ptr false 3 0]++ke 34) #[10] (dP aaf 0) (dN aaf 0)) (aY) (aY) (aA [ak (aC k),ay (bh k),ak (bO k)])),aw hy,tF,tF,tF,tF,tF,tF] (by kernel_rfl)
theorem Mt (b own:List Int) (s:aK) (k:Int) (k0:0≤k) (k1:k≤31) (v0:0≤s.code) (v1:s.code≤255) (hh:s.high=0∨s.high=8) (hy:aQ Zy 72 [mF (fS s k)] (ax true)) (hb:aQ Zy 43 [mF (fS s k)] (.aL [bj 1 (bD own),aq 0])) (hl:((bD b).length:Int)<((bD own).length:Int)):aF Zy (dT Tryz.f141 0) ⟨[0,1,3,15,16],[0,1,2,3,4,5,7],[]⟩ 9 ([D.jM 5,.ptr false 4 0,uu,.ptr false 7 0]++ke 11++ [.agg jS,aq k]++ke 16) [aA [bj 1 (bD b)],aA [ak 0,ak 0,ak 0,ak 0,ak 0,aq 0,aq 0,ak 0],aA [aq 0],aA [aq 0],aA [bj 1 (bD b)],
 Ob.lp Lk.ready
  (let y:=
   let y:=
    let y:=(ke 5);
    uu::uu::uu::uu::uu::y;
   let y:=uu::uu::uu::uu::uu::y;
   uu::uu::uu::uu::uu::y;
  let y:=
   let y:=uu::uu::uu::uu::uu::y;
   uu::uu::uu::uu::uu::y;
  let y:= .ptr false 3 0::uu::uu::uu::uu::y;
  uu:: .ptr false 0 0:: .ptr false 1 0:: .ptr false 2 0::y)
  #[10] (dP aaf 0) (dN aaf 0),
 .dead,aA [ak (aK.w s),ax (aK.fH s),ay (aK.code s),ak (aK.r s),ak (aK.m s),aq (aK.af s),aq (aK.ai s),aq (aK.small s),aq (aK.gu s),aq (aK.hU s),ak (aK.high s)],aY] .norm ([D.jM 5,.ptr false 4 0,uu,.ptr false 7 0]++ke 11++ [.agg jS,aq (aaY.i64.wrap (k+1))]++ke 16) ([aA [bj 1 (bD b)],aA [ak 0,ak 0,ak 0,ak 0,ak 0,aq 0,aq 0,ak 0],aA [aq 0],aA [aq 0],aA [bj 1 (bD b)],.lp .ready ([uu,.ptr false 0 0,.ptr false 1 0,.ptr false 2 0,.ptr false 3 0]++ke 34) #[10] (dP aaf 0) (dN aaf 0),aY,aA [ak (aK.w s),.bool (aK.fH s),ay (aK.code s),ak (aK.r s),ak (aK.m s),aq (aK.af s),aq (aK.ai s),aq (aK.small s),aq (aK.gu s),aq (aK.hU s),ak (aK.high s)],aY]):=aF.aj mixed ([tC (cq (ZC k1)),.cM (decide (0≤k∧k<(↑(32:Nat):Int))) true (by (simp only [cO] at*;omega)),.fU _ _ _ _ (@pB k k0 k1),.aI _ _ _ _ _ (@FH s k k0 k1 v0 v1 hh (aA [bj 1 (bD b)]) (aA [ak 0,ak 0,ak 0,ak 0,ak 0,aq 0,aq 0,ak 0]) (aA [aq 0]) (aA [aq 0]) (aA [bj 1 (bD b)]) (Ob.lp Lk.ready ([uu,.ptr false 0 0,.ptr false 1 0,.ptr false 2 0,.ptr false 3 0]++ke 34) #[10] (dP aaf 0) (dN aaf 0)) (aY) (aY) (aA [ak (aC k),ay (bh k),ak (bO k)])),aw hy,tT,tT,tT,aO,aw hb,tT,tT,tT,tT,tT,tT]++ [tC (eT (by (simp only [cO] at*;omega):(decide ((↑(ZA (bD own)):Int)≤(↑(ZA (bD b)):Int)))=false)),tC (eT (by (simp only [cO] at*;omega):(decide ((↑(ZA (bD own)):Int)≤(↑(ZA (bD b)):Int)))=false)),tC (eT (by (simp only [cO] at*;omega):(decide ((↑(ZA (bD own)):Int)≤(↑(ZA (bD b)):Int)))=false)),tC (eT (by (simp only [cO] at*;omega):(decide ((↑(ZA (bD own)):Int)≤(↑(ZA (bD b)):Int)))=false)),tC (eT (by (simp only [cO] at*;omega):(decide ((↑(ZA (bD own)):Int)≤(↑(ZA (bD b)):Int)))=false)),tC (eT (by (simp only [cO] at*;omega):(decide ((↑(ZA (bD own)):Int)≤(↑(ZA (bD b)):Int)))=false)),tC (eT (by (simp only [cO] at*;omega):(decide ((↑(ZA (bD own)):Int)≤(↑(ZA (bD b)):Int)))=false)),tC (eT (by (simp only [cO] at*;omega):(decide ((↑(ZA (bD own)):Int)≤(↑(ZA (bD b)):Int)))=false)),tC (by (simp only [cO] at*;omega):(decide ((↑(ZA (bD own)):Int)≤(↑(ZA (bD b)):Int)))=false),tF,tT,tT,tF]) (by kernel_rfl)
theorem Oz (b own:List Int) (s:aK) (k:Int) (k0:0≤k) (k1:k≤31) (v0:0≤s.code) (v1:s.code≤255) (hh:s.high=0∨s.high=8) (hy:aQ Zy 72 [mF (fS s k)] (ax true)) (hb:aQ Zy 43 [mF (fS s k)] (.aL [bj 1 (bD own),aq 0])) (hl:((bD own).length:Int)≤((bD b).length:Int)) (hs:((iG (bD own)).toList==(iG (List.take (ZJ ((ZA (bD own):Nat):Int)) (bD b))).toList)=false):aF Zy (dT Tryz.f141 0) ⟨[0,1,3,15,16],[0,1,2,3,4,5,7],[]⟩ 9 ([D.jM 5,.ptr false 4 0,uu,.ptr false 7 0]++ke 11++ [.agg jS,aq k]++ke 16) [aA [bj 1 (bD b)],aA [ak 0,ak 0,ak 0,ak 0,ak 0,aq 0,aq 0,ak 0],aA [aq 0],aA [aq 0],aA [bj 1 (bD b)],
 Ob.lp Lk.ready
  (let y:=
   let y:=
    let y:=(ke 5);
    uu::uu::uu::uu::uu::y;
   let y:=uu::uu::uu::uu::uu::y;
   uu::uu::uu::uu::uu::y;
  let y:=
   let y:=uu::uu::uu::uu::uu::y;
   uu::uu::uu::uu::uu::y;
  let y:= .ptr false 3 0::uu::uu::uu::uu::y;
  uu:: .ptr false 0 0:: .ptr false 1 0:: .ptr false 2 0::y)
  #[10] (dP aaf 0) (dN aaf 0),
 .dead,aA [ak (aK.w s),ax (aK.fH s),ay (aK.code s),ak (aK.r s),ak (aK.m s),aq (aK.af s),aq (aK.ai s),aq (aK.small s),aq (aK.gu s),aq (aK.hU s),ak (aK.high s)],aY] .norm ([D.jM 5,.ptr false 4 0,uu,.ptr false 7 0]++ke 11++ [.agg jS,aq (aaY.i64.wrap (k+1))]++ke 16) ([aA [bj 1 (bD b)],aA [ak 0,ak 0,ak 0,ak 0,ak 0,aq 0,aq 0,ak 0],aA [aq 0],aA [aq 0],aA [bj 1 (bD b)],.lp .ready ([uu,.ptr false 0 0,.ptr false 1 0,.ptr false 2 0,.ptr false 3 0]++ke 34) #[10] (dP aaf 0) (dN aaf 0),aY,aA [ak (aK.w s),.bool (aK.fH s),ay (aK.code s),ak (aK.r s),ak (aK.m s),aq (aK.af s),aq (aK.ai s),aq (aK.small s),aq (aK.gu s),aq (aK.hU s),ak (aK.high s)],aY]):=aF.aj mixed ([tC (cq (ZC k1)),.cM (decide (0≤k∧k<(↑(32:Nat):Int))) true (by (simp only [cO] at*;omega)),.fU _ _ _ _ (@pB k k0 k1),.aI _ _ _ _ _ (@FH s k k0 k1 v0 v1 hh (aA [bj 1 (bD b)]) (aA [ak 0,ak 0,ak 0,ak 0,ak 0,aq 0,aq 0,ak 0]) (aA [aq 0]) (aA [aq 0]) (aA [bj 1 (bD b)]) (Ob.lp Lk.ready ([uu,.ptr false 0 0,.ptr false 1 0,.ptr false 2 0,.ptr false 3 0]++ke 34) #[10] (dP aaf 0) (dN aaf 0)) (aY) (aY) (aA [ak (aC k),ay (bh k),ak (bO k)])),aw hy,tT,tT,tT,aO,aw hb,tT,tT,tT,tT,tT,tT]++ [tC (eT (by (simp only [cO] at*;omega):(decide ((↑(ZA (bD own)):Int)≤(↑(ZA (bD b)):Int)))=true)),tC (eT (by (simp only [cO] at*;omega):(decide ((↑(ZA (bD own)):Int)≤(↑(ZA (bD b)):Int)))=true)),tC (v:=true) (@Ee own),tC (eT (by (simp only [cO] at*;omega):(decide ((↑(ZA (bD own)):Int)≤(↑(ZA (bD b)):Int)))=true)),tC (eT (by (simp only [cO] at*;omega):(decide ((↑(ZA (bD own)):Int)≤(↑(ZA (bD b)):Int)))=true)),tC (eT (by (simp only [cO] at*;omega):(decide ((↑(ZA (bD own)):Int)≤(↑(ZA (bD b)):Int)))=true)),tC (eT (by (simp only [cO] at*;omega):(decide ((↑(ZA (bD own)):Int)≤(↑(ZA (bD b)):Int)))=true)),.cM (decide (0≤(↑(ZA (bD own)):Int)∧(↑(ZA (bD own)):Int)≤(↑(ZA (bD b)):Int))) true (by (simp only [cO] at*;omega)),tC (eT (by (simp only [cO] at*;omega):(decide ((↑(ZA (bD own)):Int)≤(↑(ZA (bD b)):Int)))=true)),tC (v:=true) (@kh b (ZJ (↑(ZA (bD own)):Int))),tC (eT (by (simp only [cO] at*;omega):(decide ((↑(ZA (bD own)):Int)≤(↑(ZA (bD b)):Int)))=true)),tC (by (simp only [cO] at*;omega):(decide ((↑(ZA (bD own)):Int)≤(↑(ZA (bD b)):Int)))=true),tC hs,tT,tT,tF]) (by kernel_rfl)
theorem OB (b own:List Int) (s:aK) (k:Int) (k0:0≤k) (k1:k≤31) (v0:0≤s.code) (v1:s.code≤255) (hh:s.high=0∨s.high=8) (hy:aQ Zy 72 [mF (fS s k)] (ax true)) (hb:aQ Zy 43 [mF (fS s k)] (.aL [bj 1 (bD own),aq 0])) (hl:((bD own).length:Int)≤((bD b).length:Int)) (hs:((iG (bD own)).toList==(iG (List.take (ZJ ((ZA (bD own):Nat):Int)) (bD b))).toList)=true):aF Zy (dT Tryz.f141 0) ⟨[],[1,2,3,5],[]⟩ 9 ([D.jM 5,.ptr false 4 0,uu,.ptr false 7 0]++ke 11++ [.agg jS,aq k]++ke 16) [aA [bj 1 (bD b)],aA [ak 0,ak 0,ak 0,ak 0,ak 0,aq 0,aq 0,ak 0],aA [aq 0],aA [aq 0],aA [bj 1 (bD b)],
 Ob.lp Lk.ready
  (let y:=
   let y:=
    let y:=(ke 5);
    uu::uu::uu::uu::uu::y;
   let y:=uu::uu::uu::uu::uu::y;
   uu::uu::uu::uu::uu::y;
  let y:=
   let y:=uu::uu::uu::uu::uu::y;
   uu::uu::uu::uu::uu::y;
  let y:= .ptr false 3 0::uu::uu::uu::uu::y;
  uu:: .ptr false 0 0:: .ptr false 1 0:: .ptr false 2 0::y)
  #[10] (dP aaf 0) (dN aaf 0),
 .dead,aA [ak (aK.w s),ax (aK.fH s),ay (aK.code s),ak (aK.r s),ak (aK.m s),aq (aK.af s),aq (aK.ai s),aq (aK.small s),aq (aK.gu s),aq (aK.hU s),ak (aK.high s)],aY] (Ex.ret) (ke 33) ([aY,aA [ak (XS.op (fS s k)),ak (XS.w (fS s k)),ak (XS.ab (fS s k)),ak (XS.ae (fS s k)),ak (XS.aa (fS s k)),aq (XS.af (fS s k)),aq (XS.ai (fS s k)),ak (XS.cc (fS s k))],aA [aq (↑(ZA (bD own)):Int)],aA [aq 0],aY,Ob.lp Lk.ret ([uu,.ptr false 0 0,.ptr false 1 0,.ptr false 2 0,.ptr false 3 0]++ke 34) #[10] (dP aaf 0) (dN aaf 0),aY,aY,aY]):=aF.aj mixed ([tC (cq (ZC k1)),.cM (decide (0≤k∧k<(↑(32:Nat):Int))) true (by (simp only [cO] at*;omega)),.fU _ _ _ _ (@pB k k0 k1),.aI _ _ _ _ _ (@FH s k k0 k1 v0 v1 hh (aA [bj 1 (bD b)]) (aA [ak 0,ak 0,ak 0,ak 0,ak 0,aq 0,aq 0,ak 0]) (aA [aq 0]) (aA [aq 0]) (aA [bj 1 (bD b)]) (Ob.lp Lk.ready ([uu,.ptr false 0 0,.ptr false 1 0,.ptr false 2 0,.ptr false 3 0]++ke 34) #[10] (dP aaf 0) (dN aaf 0)) (aY) (aY) (aA [ak (aC k),ay (bh k),ak (bO k)])),aw hy,tT,tT,tT,aO,aw hb,tT,tT,tT,tT,tT,tT]++ [tC (eT (by (simp only [cO] at*;omega):(decide ((↑(ZA (bD own)):Int)≤(↑(ZA (bD b)):Int)))=true)),tC (eT (by (simp only [cO] at*;omega):(decide ((↑(ZA (bD own)):Int)≤(↑(ZA (bD b)):Int)))=true)),tC (v:=true) (@Ee own),tC (eT (by (simp only [cO] at*;omega):(decide ((↑(ZA (bD own)):Int)≤(↑(ZA (bD b)):Int)))=true)),tC (eT (by (simp only [cO] at*;omega):(decide ((↑(ZA (bD own)):Int)≤(↑(ZA (bD b)):Int)))=true)),tC (eT (by (simp only [cO] at*;omega):(decide ((↑(ZA (bD own)):Int)≤(↑(ZA (bD b)):Int)))=true)),tC (eT (by (simp only [cO] at*;omega):(decide ((↑(ZA (bD own)):Int)≤(↑(ZA (bD b)):Int)))=true)),.cM (decide (0≤(↑(ZA (bD own)):Int)∧(↑(ZA (bD own)):Int)≤(↑(ZA (bD b)):Int))) true (by (simp only [cO] at*;omega)),tC (eT (by (simp only [cO] at*;omega):(decide ((↑(ZA (bD own)):Int)≤(↑(ZA (bD b)):Int)))=true)),tC (v:=true) (@kh b (ZJ (↑(ZA (bD own)):Int))),tC (eT (by (simp only [cO] at*;omega):(decide ((↑(ZA (bD own)):Int)≤(↑(ZA (bD b)):Int)))=true)),tC (by (simp only [cO] at*;omega):(decide ((↑(ZA (bD own)):Int)≤(↑(ZA (bD b)):Int)))=true),tC hs,tT,tT,tT]) (by kernel_rfl)
abbrev gT (n:Int):List D:=([.jM 5,.ptr false 4 0,mH,.ptr false 7 0]++ke 11++ [.agg jS,aq n]++ke 16)
abbrev gU:List D:=(ke 33)
abbrev RL (ag bd:Code) (k:Lk):Ob:= .lp k ([mH,.ptr false 0 0,.ptr false 1 0,.ptr false 2 0,.ptr false 3 0]++ke 34) #[10] ag bd
abbrev Sm:Ob:= .box [ak 0,ak 0,ak 0,ak 0,ak 0,aq 0,aq 0,ak 0]
abbrev gS (ag bd:Code) (b:List Int) (s:aK):List Ob:= [aA [bj 1 (bD b)],Sm,aA [aq 0],aA [aq 0],aA [bj 1 (bD b)],RL ag bd .ready,aY,
  .box [ak s.w,ax s.fH,ay s.code,ak s.r,ak s.m,aq s.af,aq s.ai,aq s.small,aq s.gu,aq s.hU,ak s.high],aY]
abbrev Sn:Option XS→Ex
  |none=> .exit 0
  |some _=> .ret
abbrev Np (ag bd:Code):Option XS→List Ob
  |none=> [aY,Sm,aA [.int .i64 0],aA [.int .i64 0],aY,RL ag bd .ready,aY,aY,aY]
  |some x=> [aY,aA [.int .i8 x.op,.int .i8 x.w,.int .i8 x.ab,.int .i8 x.ae,.int .i8 x.aa,.int .i64 x.af,.int .i64 x.ai,.int .i8 x.cc],aA [.int .i64 (cW x).length],aA [.int .i64 0],aY,RL ag bd .ret,aY,aY,aY]
theorem mc (b:List Int) (hb:dx b) (s:aK) (v0:0≤s.code) (v1:s.code≤255) (hh:s.high=0∨s.high=8):∀(m n:Nat),n+m=32→
  cX Zy (dT Tryz.f141 0) 9 (gT n) (gS (dP aaf 0) (dN aaf 0) b s) (Sn (gj b s (ic.drop n))) gU (Np (dP aaf 0) (dN aaf 0) (gj b s (ic.drop n)))
 |0,n,hn=>by
  obtain rfl:n=32:=by omega
  exact cX.last (OC b s) (fun h=>by cases h)
 |m+1,n,hn=>by
  have Tq:n<32:=by omega
  rw [Ar Tq]
  have Uy:=PH s (n:Int)
  have hle:(fS s (n:Int)).op≤127:=by rw [Uy];omega
  have hw:aaY.i64.wrap ((n:Int)+1)=((n+1:Nat):Int):=by rw [aX];omega
  have ih:=mc b hb s v0 v1 hh m (n+1) (by omega)
  have hy:aQ Zy 72 [mF (fS s (n:Int))] (ax (nW (fS s (n:Int)))):=bg _ _ _ _ _ _ _ _ hle
  have go:∀ {t2:List D} {s2:List Ob},aF Zy (dT Tryz.f141 0) ⟨[0,1,3,15,16],[0,1,2,3,4,5,7],[]⟩ 9 (gT n) (gS (dP aaf 0) (dN aaf 0) b s) .norm (gT (aaY.i64.wrap ((n:Int)+1))) (gS (dP aaf 0) (dN aaf 0) b s)→jo b (fS s (n:Int))=false→
    cX Zy (dT Tryz.f141 0) 9 (gT n) (gS (dP aaf 0) (dN aaf 0) b s) (Sn (gj b s ((n:Int)::ic.drop (n+1)))) gU (Np (dP aaf 0) (dN aaf 0) (gj b s ((n:Int)::ic.drop (n+1)))):=by
   intro _ _ h hf
   have e:gj b s ((n:Int)::ic.drop (n+1))=gj b s (ic.drop (n+1)):=by simp only [gj,hf,Bool.false_eq_true,if_false]
   rw [e]
   rw [hw] at h
   exact cX.j4 h ih
  cases hm:nW (fS s (n:Int)) with
  |false=>
   rw [hm] at hy
   exact go (t2:= []) (s2:= []) (OA b [] s n (by omega) (by omega) v0 v1 hh hy) (by simp [jo,hm])
  |true=>
   rw [hm] at hy
   have ho:=qI hm
   have XN:aQ Zy 43 [mF (fS s (n:Int))] (.aL [bj 1 (bD (cW (fS s (n:Int)))),aq 0]):=by
    have:=j8 (fS s (n:Int)).op (fS s (n:Int)).w (fS s (n:Int)).ab (fS s (n:Int)).ae (fS s (n:Int)).aa (fS s (n:Int)).af (fS s (n:Int)).ai (fS s (n:Int)).cc hle
    have UM:bL (fS s (n:Int)).op (fS s (n:Int)).w (fS s (n:Int)).ab (fS s (n:Int)).ae (fS s (n:Int)).aa (fS s (n:Int)).af (fS s (n:Int)).ai (fS s (n:Int)).cc=true:=hm
    simp only [mi,qm,UM,if_true] at this
    exact this
   have UW:=Nq ho hb
   by_cases hp:(cW (fS s (n:Int))).isPrefixOf b=true
   ·obtain ⟨h1,h2⟩:=UW.1 hp
    have e:gj b s ((n:Int)::ic.drop (n+1))=some (fS s (n:Int)):=by simp only [gj,jo,hm,hp,Bool.and_self,if_true]
    rw [e]
    have:=OB b (cW (fS s (n:Int))) s n (by omega) (by omega) v0 v1 hh hy XN h1 h2
    rw [aG] at this
    exact cX.last this (fun h=>by cases h)
   ·have hf:jo b (fS s (n:Int))=false:=by simp [jo,hm,hp]
    by_cases hl:((bD (cW (fS s (n:Int)))).length:Int)≤((bD b).length:Int)
    ·have hs:((iG (bD (cW (fS s (n:Int))))).toList==(iG (List.take (ZJ ((ZA (bD (cW (fS s (n:Int)))):Nat):Int)) (bD b))).toList)=false:=by
      cases e:((iG (bD (cW (fS s (n:Int))))).toList==(iG (List.take (ZJ ((ZA (bD (cW (fS s (n:Int)))):Nat):Int)) (bD b))).toList) with
      |false=>rfl
      |true=>exact absurd (UW.2 ⟨hl,e⟩) hp
     exact go (t2:= []) (s2:= []) (Oz b _ s n (by omega) (by omega) v0 v1 hh hy XN hl hs) hf
    ·exact go (t2:= []) (s2:= []) (Mt b _ s n (by omega) (by omega) v0 v1 hh hy XN (by omega)) hf
theorem CV (b:List Int) (hb:dx b) (s:aK) (v0:0≤s.code) (v1:s.code≤255) (hh:s.high=0∨s.high=8) (hf:gj b s ic=none):
  cS Zy 9 (.loop (dT Tryz.f141 0)) (gT 0) (gS (dP aaf 0) (dN aaf 0) b s) (.exit 0) gU (Np (dP aaf 0) (dN aaf 0) none):=by
 have h:=mc b hb s v0 v1 hh 32 0 rfl
 rw [aaD,hf] at h
 exact cS.iy (Nat.le_refl _) h
theorem CU (b:List Int) (hb:dx b) (s:aK) (v0:0≤s.code) (v1:s.code≤255) (hh:s.high=0∨s.high=8) (x:XS) (hf:gj b s ic=some x):
  cS Zy 9 (.loop (dT Tryz.f141 0)) (gT 0) (gS (dP aaf 0) (dN aaf 0) b s) .ret gU (Np (dP aaf 0) (dN aaf 0) (some x)):=by
 have h:=mc b hb s v0 v1 hh 32 0 rfl
 rw [aaD,hf] at h
 exact cS.iy (Nat.le_refl _) h
theorem JT (b:List Int) (s:aK) (hp:aQ Zy 142 [bj 1 (bD b)] (.aL [ez s,ax false])):aQ Zy 81 ([bj 1 (bD b)]) (.aL [xD 0 0 0 0 0 0 0 0,aq 0,aq 30]):=(aQ.aj (d:= .aL [(xD 0 0 0 0 0 0 0 0),aq 0,aq 30]) mixed Tryz.func81 (by kernel_rfl) [aO,.Mp [1,2,3,4],aw hp,tT]).to (by simp [wk,a7,mF])
theorem JS (b:List Int) (hb:dx b) (s:aK) (v0:0≤s.code) (v1:s.code≤255) (hh:s.high=0∨s.high=8) (hp:aQ Zy 142 [bj 1 (bD b)] (.aL [ez s,ax true])) (hf:gj b s ic=none):aQ Zy 81 ([bj 1 (bD b)]) (.aL [xD 0 0 0 0 0 0 0 0,aq 0,aq 30]):=by
 have c0:= @CV (b) hb (s) v0 v1 hh hf
 exact (aQ.aj (d:= .aL [(xD 0 0 0 0 0 0 0 0),aq 0,aq 30]) mixed Tryz.func81 (by kernel_rfl) [aO,.Mp [1,2,3,4],aw hp,tF,aO,.head ⟨[0,1,3,15,16],[0,1,2,3,4,5,7],[]⟩ _ _ _ _ _ _ _ c0]).to (by simp [wk,a7,mF])
theorem JR (b:List Int) (hb:dx b) (s:aK) (v0:0≤s.code) (v1:s.code≤255) (hh:s.high=0∨s.high=8) (hp:aQ Zy 142 [bj 1 (bD b)] (.aL [ez s,ax true])) (x:XS) (hf:gj b s ic=some x):aQ Zy 81 ([bj 1 (bD b)]) (.aL [mF x,aq (cW x).length,aq 0]):=by
 have c0:= @CU (b) hb (s) v0 v1 hh _ hf
 exact (aQ.aj (d:= .aL [(xD (XS.op x) (XS.w x) (XS.ab x) (XS.ae x) (XS.aa x) (XS.af x) (XS.ai x) (XS.cc x)),aq (↑(ZA (cW x)):Int),aq 0]) mixed Tryz.func81 (by kernel_rfl) [aO,.Mp [1,2,3,4],aw hp,tF,aO,.head ⟨[0,1,3,15,16],[0,1,2,3,4,5,7],[]⟩ _ _ _ _ _ _ _ c0]).to (by simp [wk,a7,mF])
theorem JQ (b:List Int) (hb:dx b):aQ Zy 81 [bj 1 (bD b)] (EF (iC b)):=by
 obtain ⟨s,hp,hs⟩:=Kb b hb
 cases e:lJ b with
 |none=>
  rw [e] at hp
  rw [Gs e]
  obtain ⟨x,hx⟩:∃x:aK,x=⟨s.w,s.fH,0,s.r,s.m,s.af,s.ai,s.small,s.gu,s.hU,s.high⟩:=⟨_,rfl⟩
  exact JT b s hp
 |some s'=>
  obtain rfl:=hs s' e
  rw [e] at hp
  obtain ⟨v0,v1,hh⟩:=GD hb e
  rw [← CZ e]
  cases hf:gj b s ic with
  |none=>exact JS b hb s v0 v1 hh hp hf
  |some x=>exact JR b hb s v0 v1 hh hp x hf
theorem cG (v w:Int):aQ Zy 147 ([av v,ak w]) (av (aJ v w)):=by
 by_cases h0:w=8
 ·subst h0
  exact (aQ.aj (d:= .int .u64 (aaY.wrap aaY.u64 (aaY.wrap aaY.u8 v))) mixed Tryz.func147 (by kernel_rfl) [tT]).to (by simp [wk,aJ,bw,En,Em,bZ,];try omega)
 ·by_cases h1:w=16
  ·subst h1
   exact (aQ.aj (d:= .int .u64 (aaY.wrap aaY.u64 (aaY.wrap aaY.u16 v))) mixed Tryz.func147 (by kernel_rfl) [tC (aR h0),tT]).to (by simp [wk,aJ,bw,En,Em,bZ,h0];try omega)
  ·by_cases h2:w=32
   ·subst h2
    exact (aQ.aj (d:= .int .u64 (aaY.wrap aaY.u64 (aaY.wrap aaY.u32 v))) mixed Tryz.func147 (by kernel_rfl) [tC (aR h0),tC (aR h1),tT]).to (by simp [wk,aJ,bw,En,Em,bZ,h0,h1];try omega)
   ·exact (aQ.aj (d:= .int .u64 v) mixed Tryz.func147 (by kernel_rfl) [tC (aR h0),tC (aR h1),tC (aR h2)]).to (by simp [wk,aJ,bw,En,Em,bZ,h0,h1,h2];try omega)
theorem Eu (v w:Int):aQ Zy 186 ([av v,ak w]) (av (fg v w)):=by
 by_cases h0:w=8
 ·subst h0
  exact (aQ.aj (d:= .int .u64 (aaY.wrap aaY.u64 (aaY.i64.wrap (aaY.wrap aaY.i8 v)))) mixed Tryz.func186 (by kernel_rfl) [tT]).to (by simp [wk,fg,u64,wh,wg,we,])
 ·by_cases h1:w=16
  ·subst h1
   exact (aQ.aj (d:= .int .u64 (aaY.wrap aaY.u64 (aaY.i64.wrap (aaY.wrap aaY.i16 v)))) mixed Tryz.func186 (by kernel_rfl) [tC (aR h0),tT]).to (by simp [wk,fg,u64,wh,wg,we,h0])
  ·by_cases h2:w=32
   ·subst h2
    exact (aQ.aj (d:= .int .u64 (aaY.wrap aaY.u64 (aaY.i64.wrap (aaY.wrap aaY.i32 v)))) mixed Tryz.func186 (by kernel_rfl) [tC (aR h0),tC (aR h1),tT]).to (by simp [wk,fg,u64,wh,wg,we,h0,h1])
   ·exact (aQ.aj (d:= .int .u64 v) mixed Tryz.func186 (by kernel_rfl) [tC (aR h0),tC (aR h1),tC (aR h2)]).to (by simp [wk,fg,u64,wh,wg,we,h0,h1,h2])
theorem iR (w:Int):aQ Zy 164 ([ak w]) (ax (aP w)):=by
 by_cases h0:w=32
 ·subst h0
  exact (aQ.aj (d:= .bool true) mixed Tryz.func164 (by kernel_rfl) [tF,tF,tT]).to (by simp only [wk,D.bool.injEq,aP];first|rfl|(rw [Bool.eq_iff_iff];simp [];try omega))
 ·exact (aQ.aj (d:= .bool (w==(64:Int))) mixed Tryz.func164 (by kernel_rfl) [tC (eF (aR h0)),tC (eF (aR h0)),tC (aR h0)]).to (by simp only [wk,D.bool.injEq,aP];first|rfl|(rw [Bool.eq_iff_iff];simp [h0];try omega))
def nX (Tz:Int):Prop:= ∀(w a b:Int) (hw:aP w=true),aQ Zy 153 ([ak Tz,ak w,av a,av b]) (.aL [av (fB Tz w a b),aq 0])
theorem Bk:nX 0:=by
  intro w a b hw
  have c0:= @iR (w)
  rw [show (aP w)=true from hw] at c0
  have c1:= @cG (a) (w)
  have c2:= @cG (b) (w)
  have c3:= @cG (aaY.wrap aaY.u64 (aJ a w+aJ b w)) (w)
  exact (aQ.aj (d:= .aL [av (aJ (aaY.wrap aaY.u64 (aJ a w+aJ b w)) w),aq 0]) mixed Tryz.func153 (by kernel_rfl) [tT,tT,tF,tT,tT,aw c0,tT,tF,tF,aw c1,aw c2,aO,tT,aO,aw c3]).to (by first|((simp only [wk,a7,eJ];repeat' (first|rfl|exact ZX|apply ZI));done)|(simp [wk,a7,fB,ua,];done)|(simp [wk,a7,fB,ua,u64, *];done))
theorem pK:nX 1:=by
 intro w a b hw
 have c0:= @iR (w)
 rw [show (aP w)=true from hw] at c0
 have c1:= @cG (a) (w)
 have c2:= @cG (b) (w)
 have c3:= @cG (aaY.wrap aaY.u64 (aJ a w - aJ b w)) (w)
 exact (aQ.aj (d:= .aL [av (aJ (aaY.wrap aaY.u64 (aJ a w - aJ b w)) w),aq 0]) mixed Tryz.func153 (by kernel_rfl) [tT,tT,tF,tT,tT,aw c0,tT,tF,tF,aw c1,aw c2,aO,tT,aO,aw c3]).to (by first|((simp only [wk,a7,eJ];repeat' (first|rfl|exact ZX|apply ZI));done)|(simp [wk,a7,fB,ua,];done)|(simp [wk,a7,fB,ua,u64, *];done))
theorem LO:nX 2:=by
 intro w a b hw
 have c0:= @iR (w)
 rw [show (aP w)=true from hw] at c0
 have c1:= @cG (a) (w)
 have c2:= @cG (b) (w)
 have c3:= @cG (aaY.wrap aaY.u64 (aJ a w*aJ b w)) (w)
 exact (aQ.aj (d:= .aL [av (aJ (aaY.wrap aaY.u64 (aJ a w*aJ b w)) w),aq 0]) mixed Tryz.func153 (by kernel_rfl) [tT,tT,tF,tT,tT,aw c0,tT,tF,tF,aw c1,aw c2,aO,tT,aO,aw c3]).to (by first|((simp only [wk,a7,eJ];repeat' (first|rfl|exact ZX|apply ZI));done)|(simp [wk,a7,fB,ua,];done)|(simp [wk,a7,fB,ua,u64, *];done))
theorem Bj:nX 4:=by
 intro w a b hw
 have c0:= @iR (w)
 rw [show (aP w)=true from hw] at c0
 have c1:= @cG (a) (w)
 have c2:= @cG (b) (w)
 have c3:= @cG (aaY.wrap aaY.u64 (↑(Zz (Zw (64:Nat) (aJ a w)|||Zw (64:Nat) (aJ b w))):Int)) (w)
 exact (aQ.aj (d:= .aL [av (aJ (aaY.wrap aaY.u64 (↑(Zz (Zw (64:Nat) (aJ a w)|||Zw (64:Nat) (aJ b w))):Int)) w),aq 0]) mixed Tryz.func153 (by kernel_rfl) [tT,tT,tF,tT,tT,aw c0,tT,tF,tF,aw c1,aw c2,aO,tT,aO,aw c3]).to (by first|((simp only [wk,a7,eJ];repeat' (first|rfl|exact ZX|apply ZI));done)|(simp [wk,a7,fB,ua,];done)|(simp [wk,a7,fB,ua,u64, *];done))
theorem pJ:nX 5:=by
 intro w a b hw
 have c0:= @iR (w)
 rw [show (aP w)=true from hw] at c0
 have c1:= @cG (a) (w)
 have c2:= @cG (b) (w)
 have c3:= @cG (aaY.wrap aaY.u64 (↑(Zz (Zw (64:Nat) (aJ a w)&&&Zw (64:Nat) (aJ b w))):Int)) (w)
 exact (aQ.aj (d:= .aL [av (aJ (aaY.wrap aaY.u64 (↑(Zz (Zw (64:Nat) (aJ a w)&&&Zw (64:Nat) (aJ b w))):Int)) w),aq 0]) mixed Tryz.func153 (by kernel_rfl) [tT,tT,tF,tT,tT,aw c0,tT,tF,tF,aw c1,aw c2,aO,tT,aO,aw c3]).to (by first|((simp only [wk,a7,eJ];repeat' (first|rfl|exact ZX|apply ZI));done)|(simp [wk,a7,fB,ua,];done)|(simp [wk,a7,fB,ua,u64, *];done))
theorem Bi:nX 6:=by
 intro w a b hw
 have c0:= @iR (w)
 rw [show (aP w)=true from hw] at c0
 have c1:= @cG (a) (w)
 have c2:= @cG (b) (w)
 have c3:= @cG (aaY.wrap aaY.u64 (aJ a w*(2:Int)^min (ZJ (aaY.wrap aaY.u64 (↑(Zz (Zw (64:Nat) (aJ b w)&&&Zw (64:Nat) (aaY.wrap aaY.u64 (aaY.wrap aaY.i8 (w - (1:Int)))))):Int))) (64:Nat))) (w)
 exact (aQ.aj (d:= .aL [av (aJ (aaY.wrap aaY.u64 (aJ a w*(2:Int)^min (ZJ (aaY.wrap aaY.u64 (↑(Zz (Zw (64:Nat) (aJ b w)&&&Zw (64:Nat) (aaY.wrap aaY.u64 (aaY.wrap aaY.i8 (w - (1:Int)))))):Int))) (64:Nat))) w),aq 0]) mixed Tryz.func153 (by kernel_rfl) ([tT,tT,tF,tT,tT,aw c0,tT,tF,tF,aw c1,aw c2,aO,tT,aO,tT]++ [aw c3])).to (by first|((simp only [wk,a7,eJ];repeat' (first|rfl|exact ZX|apply ZI));done)|(simp [wk,a7,fB,ua,];done)|(simp [wk,a7,fB,ua,u64, *];done))
theorem Bh:nX 7:=by
 intro w a b hw
 have c0:= @iR (w)
 rw [show (aP w)=true from hw] at c0
 have c1:= @cG (a) (w)
 have c2:= @cG (b) (w)
 have c3:= @cG (aad (aJ a w) ((2:Int)^min (ZJ (aaY.wrap aaY.u64 (↑(Zz (Zw (64:Nat) (aJ b w)&&&Zw (64:Nat) (aaY.wrap aaY.u64 (aaY.wrap aaY.i8 (w - (1:Int)))))):Int))) (64:Nat))) (w)
 exact (aQ.aj (d:= .aL [av (aJ (aad (aJ a w) ((2:Int)^min (ZJ (aaY.wrap aaY.u64 (↑(Zz (Zw (64:Nat) (aJ b w)&&&Zw (64:Nat) (aaY.wrap aaY.u64 (aaY.wrap aaY.i8 (w - (1:Int)))))):Int))) (64:Nat))) w),aq 0]) mixed Tryz.func153 (by kernel_rfl) ([tT,tT,tF,tT,tT,aw c0,tT,tF,tF,aw c1,aw c2,aO,tT,aO,tT]++ [aw c3])).to (by first|((simp only [wk,a7,eJ];repeat' (first|rfl|exact ZX|apply ZI));done)|(simp [wk,a7,fB,ua,];done)|(simp [wk,a7,fB,ua,u64, *];done))
theorem LN:nX 8:=by
 intro w a b hw
 have c0:= @iR (w)
 rw [show (aP w)=true from hw] at c0
 have c1:= @cG (a) (w)
 have c2:= @cG (b) (w)
 have c3:= @cG (aaY.wrap aaY.u64 ((0:Int) - aJ a w)) (w)
 exact (aQ.aj (d:= .aL [av (aJ (aaY.wrap aaY.u64 ((0:Int) - aJ a w)) w),aq 0]) mixed Tryz.func153 (by kernel_rfl) [tT,tT,tF,tT,tT,aw c0,tT,tF,tF,aw c1,aw c2,aO,tT,aO,aw c3]).to (by first|((simp only [wk,a7,eJ];repeat' (first|rfl|exact ZX|apply ZI));done)|(simp [wk,a7,fB,ua,];done)|(simp [wk,a7,fB,ua,u64, *];done))
theorem vA:nX 10:=by
 intro w a b hw
 have c0:= @iR (w)
 rw [show (aP w)=true from hw] at c0
 have c1:= @cG (a) (w)
 have c2:= @cG (b) (w)
 have c3:= @cG (aaY.wrap aaY.u64 (↑(Zz (Zw (64:Nat) (aJ a w)^^^Zw (64:Nat) (aJ b w))):Int)) (w)
 exact (aQ.aj (d:= .aL [av (aJ (aaY.wrap aaY.u64 (↑(Zz (Zw (64:Nat) (aJ a w)^^^Zw (64:Nat) (aJ b w))):Int)) w),aq 0]) mixed Tryz.func153 (by kernel_rfl) [tT,tT,tF,tT,tT,aw c0,tT,tF,tF,aw c1,aw c2,aO,tT,aO,aw c3]).to (by first|((simp only [wk,a7,eJ];repeat' (first|rfl|exact ZX|apply ZI));done)|(simp [wk,a7,fB,ua,];done)|(simp [wk,a7,fB,ua,u64, *];done))
theorem vz:nX 12:=by
 intro w a b hw
 have c0:= @iR (w)
 rw [show (aP w)=true from hw] at c0
 have c1:= @cG (a) (w)
 have c2:= @cG (b) (w)
 have c3:= @Eu (aJ a w) (w)
 have c4:= @cG (aaY.wrap aaY.u64 (aad (aaY.i64.wrap (fg (aJ a w) w)) ((2:Int)^min (ZJ (aaY.wrap aaY.u64 (↑(Zz (Zw (64:Nat) (aJ b w)&&&Zw (64:Nat) (aaY.wrap aaY.u64 (aaY.wrap aaY.i8 (w - (1:Int)))))):Int))) (64:Nat)))) (w)
 exact (aQ.aj (d:= .aL [av (aJ (aaY.wrap aaY.u64 (aad (aaY.i64.wrap (fg (aJ a w) w)) ((2:Int)^min (ZJ (aaY.wrap aaY.u64 (↑(Zz (Zw (64:Nat) (aJ b w)&&&Zw (64:Nat) (aaY.wrap aaY.u64 (aaY.wrap aaY.i8 (w - (1:Int)))))):Int))) (64:Nat)))) w),aq 0]) mixed Tryz.func153 (by kernel_rfl) ([tT,tT,tF,tT,tT,aw c0,tT,tF,tF,aw c1,aw c2,aO,tT,aO,aw c3]++ [tT,aw c4])).to (by first|((simp only [wk,a7,eJ];repeat' (first|rfl|exact ZX|apply ZI));done)|(simp [wk,a7,fB,ua,];done)|(simp [wk,a7,fB,ua,u64, *];done))
theorem eQ:aQ Zy 149 ([]) (fD false false false false false):=(aQ.aj (d:= .agg [ax false,ax false,ax false,ax false,ax false]) mixed Tryz.func149 (by kernel_rfl) []).to (by first|((simp only [wk,a7,eJ];repeat' (first|rfl|exact ZX|apply ZI));done)|(simp [wk,a7,];done))
theorem nI (v w:Int):aQ Zy 166 ([av v,ak w]) (ax (fL v w)):=by
 have c0:= @Eu (v) (w)
 exact (aQ.aj (d:= .bool (decide (aaY.i64.wrap (fg v w)<(0:Int)))) mixed Tryz.func166 (by kernel_rfl) [aw c0]).to (by first|((simp only [wk,a7,eJ];repeat' (first|rfl|exact ZX|apply ZI));done)|(simp [wk,a7,];done))
theorem k9 (w v:Int) (hw:aP w=true):aQ Zy 156 ([ak w,av v]) (.aL [fD true false (aJ v w==0) (fL v w) false,aq 0]):=by
 by_cases h0:w=32
 ·subst h0
  have c1:= @cG (v) ((32:Int))
  have c2:= @nI (v) ((32:Int))
  exact (aQ.aj (d:= .aL [.agg [ax true,ax false,ax (aJ v (32:Int)==(0:Int)),ax (fL v (32:Int)),ax false],aq 0]) mixed Tryz.func156 (by kernel_rfl) [tF,tF,tF,tF,aw c1,aw c2]).to (by first|((simp only [wk,a7,eJ];repeat' (first|rfl|exact ZX|apply ZI));done)|(exfalso;simp [aP] at*;done)|(exfalso;simp [aP] at*;omega))
 ·by_cases h3:w=64
  ·subst h3
   have c4:= @cG (v) ((64:Int))
   have c5:= @nI (v) ((64:Int))
   exact (aQ.aj (d:= .aL [.agg [ax true,ax false,ax (aJ v (64:Int)==(0:Int)),ax (fL v (64:Int)),ax false],aq 0]) mixed Tryz.func156 (by kernel_rfl) [tC (eT (nt (aR h0))),tC (eT (nt (aR h0))),tC (nt (aR h0)),tF,aw c4,aw c5]).to (by first|((simp only [wk,a7,eJ];repeat' (first|rfl|exact ZX|apply ZI));done)|(exfalso;simp [aP] at*;done)|(exfalso;simp [aP] at*;omega))
  ·exact (aQ.aj (d:= .aL [.agg [ax false,ax false,ax false,ax false,ax false],aq 2]) mixed Tryz.func156 (by kernel_rfl) [tC (eT (nt (aR h0))),tC (eT (nt (aR h0))),tC (nt (aR h0)),tC (nt (aR h3))]).to (by first|((simp only [wk,a7,eJ];repeat' (first|rfl|exact ZX|apply ZI));done)|(exfalso;simp [aP] at*;done)|(exfalso;simp [aP] at*;omega))
theorem Fx (w a b:Int) (hw:aP w=true):aQ Zy 154 ([ak w,av a,av b]) (.aL [fD true (yA w a b) (aJ (u64 (a+b)) w==0) (fL (u64 (a+b)) w) (yz w a b),aq 0]):=by
 have c0:= @k9 (w) (aaY.wrap aaY.u64 (a+b)) hw
 have c1:= @cG (aaY.wrap aaY.u64 (a+b)) (w)
 have c2:= @cG (a) (w)
 have c3:= @nI (aaY.wrap aaY.u64 (↑(Zz (Zw (64:Nat) (aaY.wrap aaY.u64 (↑(Zz (Zw (64:Nat) a^^^Zw (64:Nat) (aaY.wrap aaY.u64 (a+b)))):Int))&&&Zw (64:Nat) (aaY.wrap aaY.u64 (↑(Zz (Zw (64:Nat) b^^^Zw (64:Nat) (aaY.wrap aaY.u64 (a+b)))):Int)))):Int)) (w)
 exact (aQ.aj (d:= .aL [.agg [ax true,ax (decide (aJ (aaY.wrap aaY.u64 (a+b)) w<aJ a w)),ax (aJ (aaY.wrap aaY.u64 (a+b)) w==(0:Int)),ax (fL (aaY.wrap aaY.u64 (a+b)) w),ax (fL (aaY.wrap aaY.u64 (↑(Zz (Zw (64:Nat) (aaY.wrap aaY.u64 (↑(Zz (Zw (64:Nat) a^^^Zw (64:Nat) (aaY.wrap aaY.u64 (a+b)))):Int))&&&Zw (64:Nat) (aaY.wrap aaY.u64 (↑(Zz (Zw (64:Nat) b^^^Zw (64:Nat) (aaY.wrap aaY.u64 (a+b)))):Int)))):Int)) w)],aq 0]) mixed Tryz.func154 (by kernel_rfl) [aw c0,tF,aw c1,aw c2,aw c3]).to (by first|((simp only [wk,a7,eJ];repeat' (first|rfl|exact ZX|apply ZI));done)|(simp [wk,a7,];done))
theorem pC (w a b:Int) (hw:aP w=true):aQ Zy 155 ([ak w,av a,av b]) (.aL [fD true (rY w a b) (aJ (u64 (a - b)) w==0) (fL (u64 (a - b)) w) (rX w a b),aq 0]):=by
 have c0:= @k9 (w) (aaY.wrap aaY.u64 (a - b)) hw
 have c1:= @cG (a) (w)
 have c2:= @cG (b) (w)
 have c3:= @nI (aaY.wrap aaY.u64 (↑(Zz (Zw (64:Nat) (aaY.wrap aaY.u64 (↑(Zz (Zw (64:Nat) a^^^Zw (64:Nat) b)):Int))&&&Zw (64:Nat) (aaY.wrap aaY.u64 (↑(Zz (Zw (64:Nat) a^^^Zw (64:Nat) (aaY.wrap aaY.u64 (a - b)))):Int)))):Int)) (w)
 exact (aQ.aj (d:= .aL [.agg [ax true,ax (decide (aJ a w<aJ b w)),ax (aJ (aaY.wrap aaY.u64 (a - b)) w==(0:Int)),ax (fL (aaY.wrap aaY.u64 (a - b)) w),ax (fL (aaY.wrap aaY.u64 (↑(Zz (Zw (64:Nat) (aaY.wrap aaY.u64 (↑(Zz (Zw (64:Nat) a^^^Zw (64:Nat) b)):Int))&&&Zw (64:Nat) (aaY.wrap aaY.u64 (↑(Zz (Zw (64:Nat) a^^^Zw (64:Nat) (aaY.wrap aaY.u64 (a - b)))):Int)))):Int)) w)],aq 0]) mixed Tryz.func155 (by kernel_rfl) [aw c0,tF,aw c1,aw c2,aw c3]).to (by first|((simp only [wk,a7,eJ];repeat' (first|rfl|exact ZX|apply ZI));done)|(simp [wk,a7,];done))
theorem eO (a:Int) (a0:0≤a) (a1:a≤15):aQ Zy 167 ([.bc .tight 1 [ak a]]) (aq (lV a)):=(Qi (d:=D.int aaY.i64 (aaY.i64.wrap (↑(Zz (Zw (64:Nat) 0|||Zw (64:Nat) (aaY.i64.wrap (1*2^min (ZJ a) (64:Nat))))):Int))) [.go 64,tT,tT,tC (v:=true) (bK 0 (bM (ZH.2 a0))),tF]).to (by simp only [wk,D.int.injEq,ee];obtain ⟨n_a,rfl⟩:=iP a0 a1;clear a0 a1;revert n_a;decide+kernel)
theorem Mm (a:Int) (a0:0≤a) (a1:a≤15) (b:Int) (b0:0≤b) (b1:b≤15):aQ Zy 167 ([.bc .tight 1 [ak a,ak b]]) (aq (GY (lV a) (lV b))):=(Qi (d:=D.int aaY.i64 (aaY.i64.wrap (↑(Zz (Zw (64:Nat) (aaY.i64.wrap (↑(Zz (Zw (64:Nat) 0|||Zw (64:Nat) (aaY.i64.wrap (1*2^min (ZJ a) (64:Nat))))):Int))|||Zw (64:Nat) (aaY.i64.wrap (1*2^min (ZJ b) (64:Nat))))):Int))) [.go 64,tT,tT,tC (v:=true) (bK 0 (bM (ZH.2 a0))),tT,tT,tC (v:=true) (bK 0 (bM (ZH.2 b0))),tF]).to (by simp only [wk,D.int.injEq,ee];obtain ⟨n_a,rfl⟩:=iP a0 a1;obtain ⟨n_b,rfl⟩:=iP b0 b1;clear a0 a1 b0 b1;revert n_a n_b;decide+kernel)
def eA (Tz:Int):Prop:= ∀(w ab ae aa af ai cc:Int) (d0:0≤ab) (d1:ab≤15) (s0:0≤ae) (s1:ae≤15) (b0:0≤aa) (b1:aa≤15) (hm:bL Tz w ab ae aa af ai cc=true),aQ Zy 157 ([xD Tz w ab ae aa af ai cc]) (aq (qQ Tz ab))
theorem yU:eA 0:=by
 intro w ab ae aa af ai cc d0 d1 s0 s1 b0 b1 hm
 have c0:= @bg 0 w ab ae aa af ai cc (by decide)
 rw [hm] at c0
 have c1:= @eO ab d0 d1
 exact (iJ (d:= .int .i64 (lV ab)) ([aw c0]++Zx 11 tF++ [aw c1])).to (by rfl)
theorem yT:eA 1:=by
 intro w ab ae aa af ai cc d0 d1 s0 s1 b0 b1 hm
 have c0:= @bg 1 w ab ae aa af ai cc (by decide)
 rw [hm] at c0
 have c1:= @eO ab d0 d1
 exact (iJ (d:= .int .i64 (lV ab)) ([aw c0]++Zx 11 tF++ [aw c1])).to (by rfl)
theorem yR:eA 2:=by
 intro w ab ae aa af ai cc d0 d1 s0 s1 b0 b1 hm
 have c0:= @bg 2 w ab ae aa af ai cc (by decide)
 rw [hm] at c0
 have c1:= @eO ab d0 d1
 exact (iJ (d:= .int .i64 (lV ab)) ([aw c0]++Zx 11 tF++ [aw c1])).to (by rfl)
theorem yQ:eA 3:=by
 intro w ab ae aa af ai cc d0 d1 s0 s1 b0 b1 hm
 have c0:= @bg 3 w ab ae aa af ai cc (by decide)
 rw [hm] at c0
 have c1:= @eO ab d0 d1
 exact (iJ (d:= .int .i64 (lV ab)) ([aw c0]++Zx 11 tF++ [aw c1])).to (by rfl)
theorem yP:eA 4:=by
 intro w ab ae aa af ai cc d0 d1 s0 s1 b0 b1 hm
 have c0:= @bg 4 w ab ae aa af ai cc (by decide)
 rw [hm] at c0
 have c1:= @eO ab d0 d1
 exact (iJ (d:= .int .i64 (lV ab)) ([aw c0]++Zx 11 tF++ [aw c1])).to (by rfl)
theorem yO:eA 5:=by
 intro w ab ae aa af ai cc d0 d1 s0 s1 b0 b1 hm
 have c0:= @bg 5 w ab ae aa af ai cc (by decide)
 rw [hm] at c0
 have c1:= @eO ab d0 d1
 exact (iJ (d:= .int .i64 (lV ab)) ([aw c0]++Zx 11 tF++ [aw c1])).to (by rfl)
theorem yM:eA 6:=by
 intro w ab ae aa af ai cc d0 d1 s0 s1 b0 b1 hm
 have c0:= @bg 6 w ab ae aa af ai cc (by decide)
 rw [hm] at c0
 have c1:= @eO ab d0 d1
 exact (iJ (d:= .int .i64 (lV ab)) ([aw c0]++Zx 11 tF++ [aw c1])).to (by rfl)
theorem yL:eA 7:=by
 intro w ab ae aa af ai cc d0 d1 s0 s1 b0 b1 hm
 have c0:= @bg 7 w ab ae aa af ai cc (by decide)
 rw [hm] at c0
 exact (iJ (d:= .int .i64 0) [aw c0,tF,tT,tT]).to (by rfl)
theorem yK:eA 8:=by
 intro w ab ae aa af ai cc d0 d1 s0 s1 b0 b1 hm
 have c0:= @bg 8 w ab ae aa af ai cc (by decide)
 rw [hm] at c0
 exact (iJ (d:= .int .i64 0) [aw c0,tF,tF,tT,tT]).to (by rfl)
theorem yJ:eA 9:=by
 intro w ab ae aa af ai cc d0 d1 s0 s1 b0 b1 hm
 have c0:= @bg 9 w ab ae aa af ai cc (by decide)
 rw [hm] at c0
 have c1:= @eO ab d0 d1
 exact (iJ (d:= .int .i64 (lV ab)) ([aw c0]++Zx 11 tF++ [aw c1])).to (by rfl)
theorem v7:eA 10:=by
 intro w ab ae aa af ai cc d0 d1 s0 s1 b0 b1 hm
 have c0:= @bg 10 w ab ae aa af ai cc (by decide)
 rw [hm] at c0
 have c1:= @eO ab d0 d1
 exact (iJ (d:= .int .i64 (lV ab)) ([aw c0]++Zx 11 tF++ [aw c1])).to (by rfl)
theorem v5:eA 11:=by
 intro w ab ae aa af ai cc d0 d1 s0 s1 b0 b1 hm
 have c0:= @bg 11 w ab ae aa af ai cc (by decide)
 rw [hm] at c0
 have c1:= @eO ab d0 d1
 exact (iJ (d:= .int .i64 (lV ab)) ([aw c0]++Zx 11 tF++ [aw c1])).to (by rfl)
theorem vZ:eA 12:=by
 intro w ab ae aa af ai cc d0 d1 s0 s1 b0 b1 hm
 have c0:= @bg 12 w ab ae aa af ai cc (by decide)
 rw [hm] at c0
 have c1:= @eO ab d0 d1
 exact (iJ (d:= .int .i64 (lV ab)) ([aw c0]++Zx 11 tF++ [aw c1])).to (by rfl)
theorem vY:eA 13:=by
 intro w ab ae aa af ai cc d0 d1 s0 s1 b0 b1 hm
 have c0:= @bg 13 w ab ae aa af ai cc (by decide)
 rw [hm] at c0
 have c1:= @eO ab d0 d1
 exact (iJ (d:= .int .i64 (lV ab)) ([aw c0]++Zx 11 tF++ [aw c1])).to (by rfl)
theorem vX:eA 14:=by
 intro w ab ae aa af ai cc d0 d1 s0 s1 b0 b1 hm
 have c0:= @bg 14 w ab ae aa af ai cc (by decide)
 rw [hm] at c0
 exact (iJ (d:= .int .i64 0) [aw c0,tF,tF,tF,tT,tT]).to (by rfl)
theorem vW:eA 15:=by
 intro w ab ae aa af ai cc d0 d1 s0 s1 b0 b1 hm
 have c0:= @bg 15 w ab ae aa af ai cc (by decide)
 rw [hm] at c0
 exact (iJ (d:= .int .i64 0) [aw c0,tF,tF,tF,tF,tT,tT]).to (by rfl)
theorem vV:eA 16:=by
 intro w ab ae aa af ai cc d0 d1 s0 s1 b0 b1 hm
 have c0:= @bg 16 w ab ae aa af ai cc (by decide)
 rw [hm] at c0
 have c1:= @eO ab d0 d1
 exact (iJ (d:= .int .i64 (lV ab)) ([aw c0]++Zx 11 tF++ [aw c1])).to (by rfl)
theorem vU:eA 17:=by
 intro w ab ae aa af ai cc d0 d1 s0 s1 b0 b1 hm
 have c0:= @bg 17 w ab ae aa af ai cc (by decide)
 rw [hm] at c0
 have c1:= @eO ab d0 d1
 exact (iJ (d:= .int .i64 (lV ab)) ([aw c0]++Zx 11 tF++ [aw c1])).to (by rfl)
theorem vR:eA 18:=by
 intro w ab ae aa af ai cc d0 d1 s0 s1 b0 b1 hm
 have c0:= @bg 18 w ab ae aa af ai cc (by decide)
 rw [hm] at c0
 have c1:= @eO ab d0 d1
 exact (iJ (d:= .int .i64 (lV ab)) ([aw c0]++Zx 11 tF++ [aw c1])).to (by rfl)
theorem vQ:eA 19:=by
 intro w ab ae aa af ai cc d0 d1 s0 s1 b0 b1 hm
 have c0:= @bg 19 w ab ae aa af ai cc (by decide)
 rw [hm] at c0
 have c1:= @eO ab d0 d1
 exact (iJ (d:= .int .i64 (lV ab)) ([aw c0]++Zx 11 tF++ [aw c1])).to (by rfl)
theorem vP:eA 20:=by
 intro w ab ae aa af ai cc d0 d1 s0 s1 b0 b1 hm
 have c0:= @bg 20 w ab ae aa af ai cc (by decide)
 rw [hm] at c0
 have c1:= @eO ab d0 d1
 exact (iJ (d:= .int .i64 (lV ab)) ([aw c0]++Zx 11 tF++ [aw c1])).to (by rfl)
theorem vN:eA 21:=by
 intro w ab ae aa af ai cc d0 d1 s0 s1 b0 b1 hm
 have c0:= @bg 21 w ab ae aa af ai cc (by decide)
 rw [hm] at c0
 have c1:= @eO ab d0 d1
 exact (iJ (d:= .int .i64 (lV ab)) ([aw c0]++Zx 11 tF++ [aw c1])).to (by rfl)
theorem vM:eA 22:=by
 intro w ab ae aa af ai cc d0 d1 s0 s1 b0 b1 hm
 have c0:= @bg 22 w ab ae aa af ai cc (by decide)
 rw [hm] at c0
 have c1:= @eO ab d0 d1
 exact (iJ (d:= .int .i64 (lV ab)) ([aw c0]++Zx 11 tF++ [aw c1])).to (by rfl)
theorem vL:eA 23:=by
 intro w ab ae aa af ai cc d0 d1 s0 s1 b0 b1 hm
 have c0:= @bg 23 w ab ae aa af ai cc (by decide)
 rw [hm] at c0
 have c1:= @eO ab d0 d1
 exact (iJ (d:= .int .i64 (lV ab)) ([aw c0]++Zx 11 tF++ [aw c1])).to (by rfl)
theorem vK:eA 24:=by
 intro w ab ae aa af ai cc d0 d1 s0 s1 b0 b1 hm
 have c0:= @bg 24 w ab ae aa af ai cc (by decide)
 rw [hm] at c0
 have c1:= @Mm 0 (by decide) (by decide) 2 (by decide) (by decide)
 exact (iJ (d:= .int .i64 5) ([aw c0]++Zx 8 tF++ [tT,aw c1])).to (by rfl)
theorem vJ:eA 25:=by
 intro w ab ae aa af ai cc d0 d1 s0 s1 b0 b1 hm
 have c0:= @bg 25 w ab ae aa af ai cc (by decide)
 rw [hm] at c0
 have c1:= @eO ab d0 d1
 exact (iJ (d:= .int .i64 (lV ab)) ([aw c0]++Zx 11 tF++ [aw c1])).to (by rfl)
theorem vI:eA 26:=by
 intro w ab ae aa af ai cc d0 d1 s0 s1 b0 b1 hm
 have c0:= @bg 26 w ab ae aa af ai cc (by decide)
 rw [hm] at c0
 have c1:= @eO ab d0 d1
 exact (iJ (d:= .int .i64 (lV ab)) ([aw c0]++Zx 11 tF++ [aw c1])).to (by rfl)
theorem vH:eA 27:=by
 intro w ab ae aa af ai cc d0 d1 s0 s1 b0 b1 hm
 have c0:= @bg 27 w ab ae aa af ai cc (by decide)
 rw [hm] at c0
 exact (iJ (d:= .int .i64 0) [aw c0,tF,tF,tF,tF,tF,tT,tT]).to (by rfl)
theorem vG:eA 28:=by
 intro w ab ae aa af ai cc d0 d1 s0 s1 b0 b1 hm
 have c0:= @bg 28 w ab ae aa af ai cc (by decide)
 rw [hm] at c0
 exact (iJ (d:= .int .i64 0) ([aw c0]++cr 8 192)).to (by rfl)
theorem vF:eA 29:=by
 intro w ab ae aa af ai cc d0 d1 s0 s1 b0 b1 hm
 have c0:= @bg 29 w ab ae aa af ai cc (by decide)
 rw [hm] at c0
 exact (iJ (d:= .int .i64 0) ([aw c0]++cr 8 128)).to (by rfl)
theorem vE:eA 30:=by
 intro w ab ae aa af ai cc d0 d1 s0 s1 b0 b1 hm
 have c0:= @bg 30 w ab ae aa af ai cc (by decide)
 rw [hm] at c0
 have c1:= @eO 4 (by decide) (by decide)
 exact (iJ (d:= .int .i64 16) ([aw c0]++Zx 9 tF++ [tT,aw c1])).to (by rfl)
theorem vD:eA 31:=by
 intro w ab ae aa af ai cc d0 d1 s0 s1 b0 b1 hm
 have c0:= @bg 31 w ab ae aa af ai cc (by decide)
 rw [hm] at c0
 exact (iJ (d:= .int .i64 2051) ([aw c0]++Zx 10 tF++([tT,aO,.go 64]++cr 10 511))).to (by rfl)
theorem vC (op w ab ae aa af ai cc:Int) (ho:op≤127) (hm:bL op w ab ae aa af ai cc=false):aQ Zy 157 ([xD op w ab ae aa af ai cc]) (aq 0):=by
 have c0:= @bg op w ab ae aa af ai cc ho
 rw [hm] at c0
 exact (iJ (d:= .int .i64 0) [aw c0,tT]).to (by simp [wk])
theorem Fi {op w ab ae aa af ai cc:Int} (h:bL op w ab ae aa af ai cc=true):aC op≠0:=by
 have hs:=(dA h).2
 intro e
 rw [e] at hs
 simp [iK] at hs
theorem b5 (op w ab ae aa af ai cc:Int) (ho:op≤127):aQ Zy 157 [xD op w ab ae aa af ai cc] (aq (lA op w ab ae aa af ai cc)):=by
 unfold lA
 cases h:bL op w ab ae aa af ai cc
 ·simp only [Bool.false_eq_true,if_false]
  exact vC op w ab ae aa af ai cc ho h
 ·simp only [if_true]
  obtain ⟨⟨d0,d1,s0,s1,b0,b1,p0,p1,i0,i1⟩,hs⟩:=dA h
  have U3:=Fi h
  clear hs
  rcases gY U3 with rfl|rfl|rfl|rfl|rfl|rfl|rfl|rfl|rfl|rfl|rfl|rfl|rfl|rfl|rfl|rfl|rfl|rfl|rfl|rfl|rfl|rfl|rfl|rfl|rfl|rfl|rfl|rfl|rfl|rfl|rfl|rfl
  ·exact yU _ _ _ _ _ _ _ d0 d1 s0 s1 b0 b1 h
  ·exact yT _ _ _ _ _ _ _ d0 d1 s0 s1 b0 b1 h
  ·exact yR _ _ _ _ _ _ _ d0 d1 s0 s1 b0 b1 h
  ·exact yQ _ _ _ _ _ _ _ d0 d1 s0 s1 b0 b1 h
  ·exact yP _ _ _ _ _ _ _ d0 d1 s0 s1 b0 b1 h
  ·exact yO _ _ _ _ _ _ _ d0 d1 s0 s1 b0 b1 h
  ·exact yM _ _ _ _ _ _ _ d0 d1 s0 s1 b0 b1 h
  ·exact yL _ _ _ _ _ _ _ d0 d1 s0 s1 b0 b1 h
  ·exact yK _ _ _ _ _ _ _ d0 d1 s0 s1 b0 b1 h
  ·exact yJ _ _ _ _ _ _ _ d0 d1 s0 s1 b0 b1 h
  ·exact v7 _ _ _ _ _ _ _ d0 d1 s0 s1 b0 b1 h
  ·exact v5 _ _ _ _ _ _ _ d0 d1 s0 s1 b0 b1 h
  ·exact vZ _ _ _ _ _ _ _ d0 d1 s0 s1 b0 b1 h
  ·exact vY _ _ _ _ _ _ _ d0 d1 s0 s1 b0 b1 h
  ·exact vX _ _ _ _ _ _ _ d0 d1 s0 s1 b0 b1 h
  ·exact vW _ _ _ _ _ _ _ d0 d1 s0 s1 b0 b1 h
  ·exact vV _ _ _ _ _ _ _ d0 d1 s0 s1 b0 b1 h
  ·exact vU _ _ _ _ _ _ _ d0 d1 s0 s1 b0 b1 h
  ·exact vR _ _ _ _ _ _ _ d0 d1 s0 s1 b0 b1 h
  ·exact vQ _ _ _ _ _ _ _ d0 d1 s0 s1 b0 b1 h
  ·exact vP _ _ _ _ _ _ _ d0 d1 s0 s1 b0 b1 h
  ·exact vN _ _ _ _ _ _ _ d0 d1 s0 s1 b0 b1 h
  ·exact vM _ _ _ _ _ _ _ d0 d1 s0 s1 b0 b1 h
  ·exact vL _ _ _ _ _ _ _ d0 d1 s0 s1 b0 b1 h
  ·exact vK _ _ _ _ _ _ _ d0 d1 s0 s1 b0 b1 h
  ·exact vJ _ _ _ _ _ _ _ d0 d1 s0 s1 b0 b1 h
  ·exact vI _ _ _ _ _ _ _ d0 d1 s0 s1 b0 b1 h
  ·exact vH _ _ _ _ _ _ _ d0 d1 s0 s1 b0 b1 h
  ·exact vG _ _ _ _ _ _ _ d0 d1 s0 s1 b0 b1 h
  ·exact vF _ _ _ _ _ _ _ d0 d1 s0 s1 b0 b1 h
  ·exact vE _ _ _ _ _ _ _ d0 d1 s0 s1 b0 b1 h
  ·exact vD _ _ _ _ _ _ _ d0 d1 s0 s1 b0 b1 h
theorem H9 (m:au) (w ab ae aa af ai cc ld:Int) (d0:0≤ab) (d1:ab≤15) (s0:0≤ae) (s1:ae≤15) (b0:0≤aa) (b1:aa≤15) (hm:bL 2 w ab ae aa af ai cc=true) (hw:aP w=true):aQ Zy 83 ([m.d,xD 2 w ab ae aa af ai cc,av ld]) (.aL [(gF (m.at (u64 (m.pc+u64 (ct 2 w ab ae aa af ai cc)))) ⟨2,w,ab,ae,aa,af,ai,cc⟩ ld).1.d,aq 0]):=by
 have c0:= @bg 2 w ab ae aa af ai cc (by decide)
 rw [show (bL 2 w ab ae aa af ai cc)=true from hm] at c0
 have c1:= @cU 2 w ab ae aa af ai cc (by decide)
 have c2:= @Bk w (rg (au.rl m) ab) (rg (au.rl m) ae) hw
 have c3:= @Fx w (rg (au.rl m) ab) (rg (au.rl m) ae) hw
 have c4:= @b5 2 w ab ae aa af ai cc (by decide)
 exact (l6 (d:= .aL [(gF (m.at (u64 (m.pc+u64 (ct 2 w ab ae aa af ai cc)))) ⟨2,w,ab,ae,aa,af,ai,cc⟩ ld).1.d,aq 0]) ([aw c0,tF,aw c1,tT,tT,aO,aO,.aV [(4,aA (au.cw m (dp m 2 w ab ae aa af ai cc) (xT 2 w ab ae aa af ai cc ld)))],.j5 ([(2,ak 0),(9,ak 0),(3,ak 4),(10,ak 4),(4,ak 5),(11,ak 5),(8,ak 5),(15,ak 5),(5,ak 1),(12,ak 1),(7,ak 1),(14,ak 1),(6,ak 10),(13,ak 10),(16,ak 2),(17,ak 6),(20,ak 6),(18,ak 7),(21,ak 7),(19,ak 12),(22,ak 12),(23,ak 8)]) 2 (some (ak 0)) rfl,.cM _ true (cz d0 d1),.get _ _ _ (@bl m ab ((fT m (dp m 2 w ab ae aa af ai cc) (xT 2 w ab ae aa af ai cc ld))) d0 d1),aO]++Zx 24 tF++ [.cM _ true (cz s0 s1),.get _ _ _ (@bl m ae ((fT m (dp m 2 w ab ae aa af ai cc) (xT 2 w ab ae aa af ai cc ld))) s0 s1),.aV [(4,aA (au.cw m (dp m 2 w ab ae aa af ai cc) (xT 2 w ab ae aa af ai cc ld)))],aw c2,tF,tT,aw c3,aw c4,tC (nt (@jt 2 w ab ae aa af ai cc hm d0 d1 (rfl:true=true))),.cM _ true (cz d0 d1),.eU _ _ _ _ (@bV m ab (fB 0 w (rg (au.rl m) ab) (rg (au.rl m) ae)) ([ax true,ax (yA w (rg (au.rl m) ab) (rg (au.rl m) ae)),ax (aJ (u64 (rg (au.rl m) ab+rg (au.rl m) ae)) w==0),ax (fL (u64 (rg (au.rl m) ab+rg (au.rl m) ae)) w),ax (yz w (rg (au.rl m) ab) (rg (au.rl m) ae)),av (dp m 2 w ab ae aa af ai cc),ak 2,ak w,ak ab,ak ae,ak aa,aq af,aq ai,ak cc,av ld]) d0 d1),tF]) (by kernel_rfl))
end Go.Proofs.YtbfpahigdpigpaaGreat
