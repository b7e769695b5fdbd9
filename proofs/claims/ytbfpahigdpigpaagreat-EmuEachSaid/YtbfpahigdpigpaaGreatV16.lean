import Derived.Test.YtbfpahigdpigpaaGreatV08
import Derived.Test.YtbfpahigdpigpaaGreatV12
import Derived.Test.YtbfpahigdpigpaaGreatV15
open BitVec renaming ofInt→Zw,toNat→Zz
open List renaming replicate→Zx
open Go.Proofs.Tryz renaming prog→Zy
open Go renaming IntKind→aaY
/- Contracts and plain laws that a statement's proof leans on (texts merged:XR2a,XR2b,XR2c,XR2d,XR2e,XR2f,XRB,XRBy,ZR5,R1a,R1b). -/
set_option linter.unusedVariables false
set_option linter.unusedSimpArgs false
set_option maxRecDepth 100000
set_option maxHeartbeats 8000000
namespace Go.Proofs.YtbfpahigdpigpaaGreat
open Go Go.Ev
def jF (Tz:Int):Prop:= ∀(w ab ae aa af ai cc:Int) (d0:0≤ab) (d1:ab≤15) (s0:0≤ae) (s1:ae≤15) (b0:0≤aa) (b1:aa≤15) (p0: -2147483648≤af) (p1:af≤2147483647) (i0: -2147483648≤ai) (i1:ai≤2147483647) (c0:0≤cc) (c1:cc≤15) (hm:bL Tz w ab ae aa af ai cc=true),aQ Zy 42 ([xD Tz w ab ae aa af ai cc]) (.aL [bj 1 (bD (aD Tz w ab ae aa af ai cc)),aq 0])
theorem Am:jF 0:=by
 intro w ab ae aa af ai cc d0 d1 s0 s1 b0 b1 p0 p1 i0 i1 c0 c1 hm
 have c0:= @bf 0 w ab ae aa af ai cc
 rw [hm] at c0
 have c1:= @aH 0
 rcases cI (bW (w==64) ae ab false) with h2|h2
 ·have c3:= @dH ae ab s0 s1 d0 d1 (w==64) false h2
  generalize g5:da (w==64) ae ab=r4 at c3
  have c6:= @bk ae ab s0 s1 d0 d1
  generalize g8:bm ae ab=r7 at c6
  exact (gr (d:= .aL [.bc (.fresh 1) 1 [ay r4,ay 137,ay r7],aq 0]) [aw c0,tF,aO,tT,tF,aw c1,tT,aw c3,aw c6,bN 3]).to (by (subst_vars;(try simp only [aW] at*);(try simp only [cF] at h);(try simp only [bX,cJ] at*);simp_all [wk,a7,cH,aD,show aC 0=1 from rfl,bD,bp,bA,a8,bw,aX,bh,bO];done))
 have c9:= @cZ ae ab s0 s1 d0 d1 (w==64) false h2
 have Tp:= @bk ae ab s0 s1 d0 d1
 generalize g12:bm ae ab=TN at Tp
 exact (gr (d:= .aL [.bc (.fresh 1) 1 [ay 137,ay TN],aq 0]) [aw c0,tF,aO,tT,tF,aw c1,tT,aw c9,aw Tp,bN 2]).to (by (subst_vars;(try simp only [aW] at*);(try simp only [cF] at h);(try simp only [bX,cJ] at*);simp_all [wk,a7,cH,aD,show aC 0=1 from rfl,bD,bp,bA,a8,bw,aX,bh,bO];done))
theorem Ak:jF 2:=by
 intro w ab ae aa af ai cc d0 d1 s0 s1 b0 b1 p0 p1 i0 i1 c0 c1 hm
 have c0:= @bf 2 w ab ae aa af ai cc
 rw [hm] at c0
 have c1:= @aH 2
 rcases cI (bW (w==64) ae ab false) with h2|h2
 ·have c3:= @dH ae ab s0 s1 d0 d1 (w==64) false h2
  generalize g5:da (w==64) ae ab=r4 at c3
  have c6:= @bk ae ab s0 s1 d0 d1
  generalize g8:bm ae ab=r7 at c6
  exact (gr (d:= .aL [.bc (.fresh 1) 1 [ay r4,ay 1,ay r7],aq 0]) [aw c0,tF,aO,tF,tT,tF,aw c1,tT,aw c3,aw c6,bN 3]).to (by (subst_vars;(try simp only [aW] at*);(try simp only [cF] at h);(try simp only [bX,cJ] at*);simp_all [wk,a7,cH,aD,show aC 2=1 from rfl,bD,bp,bA,a8,bw,aX,bh,bO];done))
 have c9:= @cZ ae ab s0 s1 d0 d1 (w==64) false h2
 have Tp:= @bk ae ab s0 s1 d0 d1
 generalize g12:bm ae ab=TN at Tp
 exact (gr (d:= .aL [.bc (.fresh 1) 1 [ay 1,ay TN],aq 0]) [aw c0,tF,aO,tF,tT,tF,aw c1,tT,aw c9,aw Tp,bN 2]).to (by (subst_vars;(try simp only [aW] at*);(try simp only [cF] at h);(try simp only [bX,cJ] at*);simp_all [wk,a7,cH,aD,show aC 2=1 from rfl,bD,bp,bA,a8,bw,aX,bh,bO];done))
theorem Aj:jF 3:=by
 intro w ab ae aa af ai cc d0 d1 s0 s1 b0 b1 p0 p1 i0 i1 c0 c1 hm
 have c0:= @bf 3 w ab ae aa af ai cc
 rw [hm] at c0
 have c1:= @aH 3
 rcases cI (bW (w==64) ae ab false) with h2|h2
 ·have c3:= @dH ae ab s0 s1 d0 d1 (w==64) false h2
  generalize g5:da (w==64) ae ab=r4 at c3
  have c6:= @bk ae ab s0 s1 d0 d1
  generalize g8:bm ae ab=r7 at c6
  exact (gr (d:= .aL [.bc (.fresh 1) 1 [ay r4,ay 9,ay r7],aq 0]) [aw c0,tF,aO,tF,tF,tT,tF,aw c1,tT,aw c3,aw c6,bN 3]).to (by (subst_vars;(try simp only [aW] at*);(try simp only [cF] at h);(try simp only [bX,cJ] at*);simp_all [wk,a7,cH,aD,show aC 3=1 from rfl,bD,bp,bA,a8,bw,aX,bh,bO];done))
 have c9:= @cZ ae ab s0 s1 d0 d1 (w==64) false h2
 have Tp:= @bk ae ab s0 s1 d0 d1
 generalize g12:bm ae ab=TN at Tp
 exact (gr (d:= .aL [.bc (.fresh 1) 1 [ay 9,ay TN],aq 0]) [aw c0,tF,aO,tF,tF,tT,tF,aw c1,tT,aw c9,aw Tp,bN 2]).to (by (subst_vars;(try simp only [aW] at*);(try simp only [cF] at h);(try simp only [bX,cJ] at*);simp_all [wk,a7,cH,aD,show aC 3=1 from rfl,bD,bp,bA,a8,bw,aX,bh,bO];done))
theorem Ai:jF 4:=by
 intro w ab ae aa af ai cc d0 d1 s0 s1 b0 b1 p0 p1 i0 i1 c0 c1 hm
 have c0:= @bf 4 w ab ae aa af ai cc
 rw [hm] at c0
 have c1:= @aH 4
 rcases cI (bW (w==64) ae ab false) with h2|h2
 ·have c3:= @dH ae ab s0 s1 d0 d1 (w==64) false h2
  generalize g5:da (w==64) ae ab=r4 at c3
  have c6:= @bk ae ab s0 s1 d0 d1
  generalize g8:bm ae ab=r7 at c6
  exact (gr (d:= .aL [.bc (.fresh 1) 1 [ay r4,ay 33,ay r7],aq 0]) [aw c0,tF,aO,tF,tF,tF,tT,tF,aw c1,tT,aw c3,aw c6,bN 3]).to (by (subst_vars;(try simp only [aW] at*);(try simp only [cF] at h);(try simp only [bX,cJ] at*);simp_all [wk,a7,cH,aD,show aC 4=1 from rfl,bD,bp,bA,a8,bw,aX,bh,bO];done))
 have c9:= @cZ ae ab s0 s1 d0 d1 (w==64) false h2
 have Tp:= @bk ae ab s0 s1 d0 d1
 generalize g12:bm ae ab=TN at Tp
 exact (gr (d:= .aL [.bc (.fresh 1) 1 [ay 33,ay TN],aq 0]) [aw c0,tF,aO,tF,tF,tF,tT,tF,aw c1,tT,aw c9,aw Tp,bN 2]).to (by (subst_vars;(try simp only [aW] at*);(try simp only [cF] at h);(try simp only [bX,cJ] at*);simp_all [wk,a7,cH,aD,show aC 4=1 from rfl,bD,bp,bA,a8,bw,aX,bh,bO];done))
theorem Ah:jF 5:=by
 intro w ab ae aa af ai cc d0 d1 s0 s1 b0 b1 p0 p1 i0 i1 c0 c1 hm
 have c0:= @bf 5 w ab ae aa af ai cc
 rw [hm] at c0
 have c1:= @aH 5
 rcases cI (bW (w==64) ae ab false) with h2|h2
 ·have c3:= @dH ae ab s0 s1 d0 d1 (w==64) false h2
  generalize g5:da (w==64) ae ab=r4 at c3
  have c6:= @bk ae ab s0 s1 d0 d1
  generalize g8:bm ae ab=r7 at c6
  exact (gr (d:= .aL [.bc (.fresh 1) 1 [ay r4,ay 41,ay r7],aq 0]) [aw c0,tF,aO,tF,tF,tF,tF,tT,tF,aw c1,tT,aw c3,aw c6,bN 3]).to (by (subst_vars;(try simp only [aW] at*);(try simp only [cF] at h);(try simp only [bX,cJ] at*);simp_all [wk,a7,cH,aD,show aC 5=1 from rfl,bD,bp,bA,a8,bw,aX,bh,bO];done))
 have c9:= @cZ ae ab s0 s1 d0 d1 (w==64) false h2
 have Tp:= @bk ae ab s0 s1 d0 d1
 generalize g12:bm ae ab=TN at Tp
 exact (gr (d:= .aL [.bc (.fresh 1) 1 [ay 41,ay TN],aq 0]) [aw c0,tF,aO,tF,tF,tF,tF,tT,tF,aw c1,tT,aw c9,aw Tp,bN 2]).to (by (subst_vars;(try simp only [aW] at*);(try simp only [cF] at h);(try simp only [bX,cJ] at*);simp_all [wk,a7,cH,aD,show aC 5=1 from rfl,bD,bp,bA,a8,bw,aX,bh,bO];done))
theorem Ag:jF 6:=by
 intro w ab ae aa af ai cc d0 d1 s0 s1 b0 b1 p0 p1 i0 i1 c0 c1 hm
 have c0:= @bf 6 w ab ae aa af ai cc
 rw [hm] at c0
 have c1:= @aH 6
 let E1:EL:= [aw c0,tF,aO,tF,tF,tF,tF,tF,tT,tF,aw c1,tT]
 rcases cI (bW (w==64) ae ab false) with h2|h2
 ·have c3:= @dH ae ab s0 s1 d0 d1 (w==64) false h2
  generalize g5:da (w==64) ae ab=r4 at c3
  have c6:= @bk ae ab s0 s1 d0 d1
  generalize g8:bm ae ab=r7 at c6
  exact (gr (d:= .aL [.bc (.fresh 1) 1 [ay r4,ay 49,ay r7],aq 0]) (E1++ [aw c3,aw c6,bN 3])).to (by clear E1;(subst_vars;(try simp only [aW] at*);(try simp only [cF] at h);(try simp only [bX,cJ] at*);simp_all [wk,a7,cH,aD,show aC 6=1 from rfl,bD,bp,bA,a8,bw,aX,bh,bO];done))
 have c9:= @cZ ae ab s0 s1 d0 d1 (w==64) false h2
 have Tp:= @bk ae ab s0 s1 d0 d1
 generalize g12:bm ae ab=TN at Tp
 exact (gr (d:= .aL [.bc (.fresh 1) 1 [ay 49,ay TN],aq 0]) (E1++ [aw c9,aw Tp,bN 2])).to (by clear E1;(subst_vars;(try simp only [aW] at*);(try simp only [cF] at h);(try simp only [bX,cJ] at*);simp_all [wk,a7,cH,aD,show aC 6=1 from rfl,bD,bp,bA,a8,bw,aX,bh,bO];done))
theorem Af:jF 7:=by
 intro w ab ae aa af ai cc d0 d1 s0 s1 b0 b1 p0 p1 i0 i1 c0 c1 hm
 have c0:= @bf 7 w ab ae aa af ai cc
 rw [hm] at c0
 have c1:= @aH 7
 let E1:EL:=([aw c0,tF,aO]++cr 8 64++ [aw c1,tT])
 rcases cI (bW (w==64) ae ab false) with h2|h2
 ·have c3:= @dH ae ab s0 s1 d0 d1 (w==64) false h2
  generalize g5:da (w==64) ae ab=r4 at c3
  have c6:= @bk ae ab s0 s1 d0 d1
  generalize g8:bm ae ab=r7 at c6
  exact (gr (d:= .aL [.bc (.fresh 1) 1 [ay r4,ay 57,ay r7],aq 0]) (E1++ [aw c3,aw c6,bN 3])).to (by clear E1;(subst_vars;(try simp only [aW] at*);(try simp only [cF] at h);(try simp only [bX,cJ] at*);simp_all [wk,a7,cH,aD,show aC 7=1 from rfl,bD,bp,bA,a8,bw,aX,bh,bO];done))
 have c9:= @cZ ae ab s0 s1 d0 d1 (w==64) false h2
 have Tp:= @bk ae ab s0 s1 d0 d1
 generalize g12:bm ae ab=TN at Tp
 exact (gr (d:= .aL [.bc (.fresh 1) 1 [ay 57,ay TN],aq 0]) (E1++ [aw c9,aw Tp,bN 2])).to (by clear E1;(subst_vars;(try simp only [aW] at*);(try simp only [cF] at h);(try simp only [bX,cJ] at*);simp_all [wk,a7,cH,aD,show aC 7=1 from rfl,bD,bp,bA,a8,bw,aX,bh,bO];done))
theorem Ae:jF 8:=by
 intro w ab ae aa af ai cc d0 d1 s0 s1 b0 b1 p0 p1 i0 i1 c0 c1 hm
 have c0:= @bf 8 w ab ae aa af ai cc
 rw [hm] at c0
 have c1:= @aH 8
 let E1:EL:=([aw c0,tF,aO]++cr 9 128++ [aw c1,tT])
 rcases cI (bW (w==64) ae ab false) with h2|h2
 ·have c3:= @dH ae ab s0 s1 d0 d1 (w==64) false h2
  generalize g5:da (w==64) ae ab=r4 at c3
  have c6:= @bk ae ab s0 s1 d0 d1
  generalize g8:bm ae ab=r7 at c6
  exact (gr (d:= .aL [.bc (.fresh 1) 1 [ay r4,ay 133,ay r7],aq 0]) (E1++ [aw c3,aw c6,bN 3])).to (by clear E1;(subst_vars;(try simp only [aW] at*);(try simp only [cF] at h);(try simp only [bX,cJ] at*);simp_all [wk,a7,cH,aD,show aC 8=1 from rfl,bD,bp,bA,a8,bw,aX,bh,bO];done))
 have c9:= @cZ ae ab s0 s1 d0 d1 (w==64) false h2
 have Tp:= @bk ae ab s0 s1 d0 d1
 generalize g12:bm ae ab=TN at Tp
 exact (gr (d:= .aL [.bc (.fresh 1) 1 [ay 133,ay TN],aq 0]) (E1++ [aw c9,aw Tp,bN 2])).to (by clear E1;(subst_vars;(try simp only [aW] at*);(try simp only [cF] at h);(try simp only [bX,cJ] at*);simp_all [wk,a7,cH,aD,show aC 8=1 from rfl,bD,bp,bA,a8,bw,aX,bh,bO];done))
theorem xm:jF 16:=by
 intro w ab ae aa af ai cc d0 d1 s0 s1 b0 b1 p0 p1 i0 i1 c0 c1 hm
 have c0:= @bf 16 w ab ae aa af ai cc
 rw [hm] at c0
 rcases cI (bW (w==64) ab ae false) with h1|h1
 ·have c2:= @dH ab ae d0 d1 s0 s1 (w==64) false h1
  generalize g4:da (w==64) ab ae=r3 at c2
  have c5:= @bk ab ae d0 d1 s0 s1
  generalize g7:bm ab ae=r6 at c5
  exact (gr (d:= .aL [.bc (.fresh 1) 1 [ay r3,ay 15,ay 175,ay r6],aq 0]) ([aw c0,tF,aO]++Zx 23 tF++ [tT,aw c2,aw c5,bN 4])).to (by (subst_vars;(try simp only [aW] at*);(try simp only [cF] at h);(try simp only [bX,cJ] at*);simp_all [wk,a7,cH,aD,show aC 16=2 from rfl,bD,bp,bA,a8,bw,aX,bh,bO];done))
 have c8:= @cZ ab ae d0 d1 s0 s1 (w==64) false h1
 have c9:= @bk ab ae d0 d1 s0 s1
 generalize g11:bm ab ae=T2 at c9
 exact (gr (d:= .aL [.bc (.fresh 1) 1 [ay 15,ay 175,ay T2],aq 0]) ([aw c0,tF,aO]++Zx 23 tF++ [tT,aw c8,aw c9,bN 3])).to (by (subst_vars;(try simp only [aW] at*);(try simp only [cF] at h);(try simp only [bX,cJ] at*);simp_all [wk,a7,cH,aD,show aC 16=2 from rfl,bD,bp,bA,a8,bw,aX,bh,bO];done))
theorem xd:jF 25:=by
 intro w ab ae aa af ai cc d0 d1 s0 s1 b0 b1 p0 p1 i0 i1 c0 c1 hm
 have c0:= @bf 25 w ab ae aa af ai cc
 rw [hm] at c0
 have c1:= @aH 25
 have c2:= @aH 25
 have c3:= @aH 25
 have c4:= @aH 25
 let E1:EL:=([aw c0,tF,aO]++Zx 24 tF++ [aw c1,tF,tF,aw c2,tF,aw c3,tF,aw c4,tF,tT])
 rcases cI (bW (w==64) ab ae false) with h5|h5
 ·have c6:= @dH ab ae d0 d1 s0 s1 (w==64) false h5
  generalize g8:da (w==64) ab ae=r7 at c6
  have c9:= @bk ab ae d0 d1 s0 s1
  generalize g11:bm ab ae=T2 at c9
  exact (gr (d:= .aL [.bc (.fresh 1) 1 [ay r7,ay 15,ay (aaY.wrap aaY.u8 (aaY.i64.wrap (64+aaY.wrap aaY.i64 cc))),ay T2],aq 0]) (E1++ [aw c6,aw c9,bN 4])).to (by clear E1;(subst_vars;(try simp only [aW] at*);(try simp only [cF] at h);(try simp only [bX,cJ] at*);simp_all [wk,a7,cH,aD,show aC 25=6 from rfl,bD,bp,bA,a8,bw,aX];omega))
 have Tx:= @cZ ab ae d0 d1 s0 s1 (w==64) false h5
 have TF:= @bk ab ae d0 d1 s0 s1
 generalize g15:bm ab ae=T4 at TF
 exact (gr (d:= .aL [.bc (.fresh 1) 1 [ay 15,ay (aaY.wrap aaY.u8 (aaY.i64.wrap (64+aaY.wrap aaY.i64 cc))),ay T4],aq 0]) (E1++ [aw Tx,aw TF,bN 3])).to (by clear E1;(subst_vars;(try simp only [aW] at*);(try simp only [cF] at h);(try simp only [bX,cJ] at*);simp_all [wk,a7,cH,aD,show aC 25=6 from rfl,bD,bp,bA,a8,bw,aX];omega))
theorem Al (w ab ae aa af ai cc:Int) (d0:0≤ab) (d1:ab≤15) (s0:0≤ae) (s1:ae≤15) (b0:0≤aa) (b1:aa≤15) (p0: -2147483648≤af) (p1:af≤2147483647) (i0: -2147483648≤ai) (i1:ai≤2147483647) (c0:0≤cc) (c1:cc≤15) (hw:w=32∨w=64) (hm:bL 1 w ab ae aa af ai cc=true):aQ Zy 42 ([xD 1 w ab ae aa af ai cc]) (.aL [bj 1 (bD (aD 1 w ab ae aa af ai cc)),aq 0]):=by
 have c0:= @bf 1 w ab ae aa af ai cc
 rw [hm] at c0
 have c1:= @aH 1
 let E1:EL:=([aw c0,tF,aO]++Zx 24 tF++ [aw c1,tF,tT])
 rcases cI (bW (w==64) 0 ab false) with h2|h2
 ·have c3:= @dH 0 ab (by decide) (by decide) d0 d1 (w==64) false h2
  generalize g5:da (w==64) 0 ab=r4 at c3
  by_cases h6:w=64
  ·subst h6
   have c7:= @bk 0 ab (by decide) (by decide) d0 d1
   generalize g9:bm 0 ab=r8 at c7
   have Tp:= @dY ai
   exact (gr (d:= .aL [.bc (.fresh 1) 1 [ay r4,ay 199,ay r8,ay (ai%256),ay (ai / 256%256),ay (ai / 65536%256),ay (ai / 16777216%256)],aq 0]) (E1++ [aw c3,tT,aw c7,bN 3,aw Tp,bN 7])).to (by clear E1;((try simp only [gG]);subst_vars;(try simp only [aW] at*);(try simp only [cF] at h);(try simp only [bX,cJ] at*);simp_all [wk,a7,cH,aD,show aC 1=3 from rfl,bD,bp,bA,a8,bw,aX,dh,bh,bO];done))
  have TJ:= @dY ai
  exact (gr (d:= .aL [.bc (.fresh 1) 1 [ay r4,ay (aaY.wrap aaY.u8 (aaY.i64.wrap (184+aaY.i64.wrap (aaY.wrap aaY.i8 (↑(Zz (Zw (8:Nat) ab&&&Zw (8:Nat) 7)):Int))))),ay (ai%256),ay (ai / 256%256),ay (ai / 65536%256),ay (ai / 16777216%256)],aq 0]) (E1++ [aw c3,tC (aR h6),bN 2,aw TJ,bN 6])).to (by clear E1;((try simp only [gG]);subst_vars;(try simp only [aW] at*);(try simp only [cF] at h);(try simp only [bX,cJ] at*);simp_all [wk,a7,cH,aD,show aC 1=3 from rfl,bD,bp,bA,a8,bw,aX,dh];omega))
 have Tx:= @cZ 0 ab (by decide) (by decide) d0 d1 (w==64) false h2
 by_cases h13:w=64
 ·subst h13
  have T0:= @bk 0 ab (by decide) (by decide) d0 d1
  generalize g16:bm 0 ab=Vx at T0
  have Vs:= @dY ai
  exact (gr (d:= .aL [.bc (.fresh 1) 1 [ay 199,ay Vx,ay (ai%256),ay (ai / 256%256),ay (ai / 65536%256),ay (ai / 16777216%256)],aq 0]) (E1++ [aw Tx,tT,aw T0,bN 2,aw Vs,bN 6])).to (by clear E1;((try simp only [gG]);subst_vars;(try simp only [aW] at*);(try simp only [cF] at h);(try simp only [bX,cJ] at*);simp_all [wk,a7,cH,aD,show aC 1=3 from rfl,bD,bp,bA,a8,bw,aX,dh,bh,bO];done))
 have Vi:= @dY ai
 exact (gr (d:= .aL [.bc (.fresh 1) 1 [ay (aaY.wrap aaY.u8 (aaY.i64.wrap (184+aaY.i64.wrap (aaY.wrap aaY.i8 (↑(Zz (Zw (8:Nat) ab&&&Zw (8:Nat) 7)):Int))))),ay (ai%256),ay (ai / 256%256),ay (ai / 65536%256),ay (ai / 16777216%256)],aq 0]) (E1++ [aw Tx,tC (aR h13),bN 1,aw Vi,bN 5])).to (by clear E1;((try simp only [gG]);subst_vars;(try simp only [aW] at*);(try simp only [cF] at h);(try simp only [bX,cJ] at*);simp_all [wk,a7,cH,aD,show aC 1=3 from rfl,bD,bp,bA,a8,bw,aX,dh];omega))
def mq (Tz:Int):Prop:= ∀(w ab ae aa af ai cc:Int) (d0:0≤ab) (d1:ab≤15) (s0:0≤ae) (s1:ae≤15) (b0:0≤aa) (b1:aa≤15) (p0: -2147483648≤af) (p1:af≤2147483647) (i0: -2147483648≤ai) (i1:ai≤2147483647) (c0:0≤cc) (c1:cc≤15) (hm:bL Tz w ab ae aa af ai cc=true),aQ Zy 42 ([xD Tz w ab ae aa af ai cc]) (.aL [bj 1 (bD (aD Tz w ab ae aa af ai cc)),aq 0])
theorem Ad:mq 9:=by
 intro w ab ae aa af ai cc d0 d1 s0 s1 b0 b1 p0 p1 i0 i1 c0 c1 hm
 have c0:= @bf 9 w ab ae aa af ai cc
 rw [hm] at c0
 have c1:= @aH 9
 have c2:= @aH 9
 let E1:EL:=([aw c0,tF,aO]++Zx 8 tF++ [tT,tT,tF,aw c1,tF,tF,aw c2,tT])
 rcases cI (bW (w==64) 0 ab false) with h3|h3
 ·have c4:= @dH 0 ab (by decide) (by decide) d0 d1 (w==64) false h3
  generalize g6:da (w==64) 0 ab=r5 at c4
  have c7:= @bk 0 ab (by decide) (by decide) d0 d1
  generalize g9:bm 0 ab=r8 at c7
  have Tp:= @dY ai
  exact (gr (d:= .aL [.bc (.fresh 1) 1 [ay r5,ay 129,ay r8,ay (ai%256),ay (ai / 256%256),ay (ai / 65536%256),ay (ai / 16777216%256)],aq 0]) (E1++ [aw c4,tF,bN 2,aw c7,bN 3,aw Tp,bN 7])).to (by clear E1;((try simp only [gG]);subst_vars;(try simp only [aW] at*);(try simp only [cF] at h);(try simp only [bX,cJ] at*);simp_all [wk,a7,cH,aD,show aC 9=3 from rfl,bD,bp,bA,a8,bw,aX,dh,bh,bO];done))
 have TJ:= @cZ 0 ab (by decide) (by decide) d0 d1 (w==64) false h3
 have Tx:= @bk 0 ab (by decide) (by decide) d0 d1
 generalize g14:bm 0 ab=UD at Tx
 have Ut:= @dY ai
 exact (gr (d:= .aL [.bc (.fresh 1) 1 [ay 129,ay UD,ay (ai%256),ay (ai / 256%256),ay (ai / 65536%256),ay (ai / 16777216%256)],aq 0]) (E1++ [aw TJ,tF,bN 1,aw Tx,bN 2,aw Ut,bN 6])).to (by clear E1;((try simp only [gG]);subst_vars;(try simp only [aW] at*);(try simp only [cF] at h);(try simp only [bX,cJ] at*);simp_all [wk,a7,cH,aD,show aC 9=3 from rfl,bD,bp,bA,a8,bw,aX,dh,bh,bO];done))
theorem xu:mq 10:=by
 intro w ab ae aa af ai cc d0 d1 s0 s1 b0 b1 p0 p1 i0 i1 c0 c1 hm
 have c0:= @bf 10 w ab ae aa af ai cc
 rw [hm] at c0
 have c1:= @aH 10
 have c2:= @aH 10
 let E1:EL:=([aw c0,tF,aO]++Zx 10 tF++ [tT,tF,aw c1,tF,tF,aw c2,tT])
 rcases cI (bW (w==64) 0 ab false) with h3|h3
 ·have c4:= @dH 0 ab (by decide) (by decide) d0 d1 (w==64) false h3
  generalize g6:da (w==64) 0 ab=r5 at c4
  have c7:= @bk 1 ab (by decide) (by decide) d0 d1
  generalize g9:bm 1 ab=r8 at c7
  have Tp:= @dY ai
  exact (gr (d:= .aL [.bc (.fresh 1) 1 [ay r5,ay 129,ay r8,ay (ai%256),ay (ai / 256%256),ay (ai / 65536%256),ay (ai / 16777216%256)],aq 0]) (E1++ [aw c4,tF,bN 2,aw c7,bN 3,aw Tp,bN 7])).to (by clear E1;((try simp only [gG]);subst_vars;(try simp only [aW] at*);(try simp only [cF] at h);(try simp only [bX,cJ] at*);simp_all [wk,a7,cH,aD,show aC 10=3 from rfl,bD,bp,bA,a8,bw,aX,dh,bh,bO];done))
 have TJ:= @cZ 0 ab (by decide) (by decide) d0 d1 (w==64) false h3
 have Tx:= @bk 1 ab (by decide) (by decide) d0 d1
 generalize g14:bm 1 ab=UD at Tx
 have Ut:= @dY ai
 exact (gr (d:= .aL [.bc (.fresh 1) 1 [ay 129,ay UD,ay (ai%256),ay (ai / 256%256),ay (ai / 65536%256),ay (ai / 16777216%256)],aq 0]) (E1++ [aw TJ,tF,bN 1,aw Tx,bN 2,aw Ut,bN 6])).to (by clear E1;((try simp only [gG]);subst_vars;(try simp only [aW] at*);(try simp only [cF] at h);(try simp only [bX,cJ] at*);simp_all [wk,a7,cH,aD,show aC 10=3 from rfl,bD,bp,bA,a8,bw,aX,dh,bh,bO];done))
theorem xr:mq 11:=by
 intro w ab ae aa af ai cc d0 d1 s0 s1 b0 b1 p0 p1 i0 i1 c0 c1 hm
 have c0:= @bf 11 w ab ae aa af ai cc
 rw [hm] at c0
 have c1:= @aH 11
 have c2:= @aH 11
 let E1:EL:=([aw c0,tF,aO]++Zx 11 tF++ [tT,tT,tF,aw c1,tF,tF,aw c2,tT])
 rcases cI (bW (w==64) 0 ab false) with h3|h3
 ·have c4:= @dH 0 ab (by decide) (by decide) d0 d1 (w==64) false h3
  generalize g6:da (w==64) 0 ab=r5 at c4
  have c7:= @bk 4 ab (by decide) (by decide) d0 d1
  generalize g9:bm 4 ab=r8 at c7
  have Tp:= @dY ai
  exact (gr (d:= .aL [.bc (.fresh 1) 1 [ay r5,ay 129,ay r8,ay (ai%256),ay (ai / 256%256),ay (ai / 65536%256),ay (ai / 16777216%256)],aq 0]) (E1++ [aw c4,tF,bN 2,aw c7,bN 3,aw Tp,bN 7])).to (by clear E1;((try simp only [gG]);subst_vars;(try simp only [aW] at*);(try simp only [cF] at h);(try simp only [bX,cJ] at*);simp_all [wk,a7,cH,aD,show aC 11=3 from rfl,bD,bp,bA,a8,bw,aX,dh,bh,bO];done))
 have TJ:= @cZ 0 ab (by decide) (by decide) d0 d1 (w==64) false h3
 have Tx:= @bk 4 ab (by decide) (by decide) d0 d1
 generalize g14:bm 4 ab=UD at Tx
 have Ut:= @dY ai
 exact (gr (d:= .aL [.bc (.fresh 1) 1 [ay 129,ay UD,ay (ai%256),ay (ai / 256%256),ay (ai / 65536%256),ay (ai / 16777216%256)],aq 0]) (E1++ [aw TJ,tF,bN 1,aw Tx,bN 2,aw Ut,bN 6])).to (by clear E1;((try simp only [gG]);subst_vars;(try simp only [aW] at*);(try simp only [cF] at h);(try simp only [bX,cJ] at*);simp_all [wk,a7,cH,aD,show aC 11=3 from rfl,bD,bp,bA,a8,bw,aX,dh,bh,bO];done))
theorem xq:mq 12:=by
 intro w ab ae aa af ai cc d0 d1 s0 s1 b0 b1 p0 p1 i0 i1 c0 c1 hm
 have c0:= @bf 12 w ab ae aa af ai cc
 rw [hm] at c0
 have c1:= @aH 12
 have c2:= @aH 12
 let E1:EL:=([aw c0,tF,aO]++Zx 14 tF++ [tT,tT,tF,aw c1,tF,tF,aw c2,tT])
 rcases cI (bW (w==64) 0 ab false) with h3|h3
 ·have c4:= @dH 0 ab (by decide) (by decide) d0 d1 (w==64) false h3
  generalize g6:da (w==64) 0 ab=r5 at c4
  have c7:= @bk 5 ab (by decide) (by decide) d0 d1
  generalize g9:bm 5 ab=r8 at c7
  have Tp:= @dY ai
  exact (gr (d:= .aL [.bc (.fresh 1) 1 [ay r5,ay 129,ay r8,ay (ai%256),ay (ai / 256%256),ay (ai / 65536%256),ay (ai / 16777216%256)],aq 0]) (E1++ [aw c4,tF,bN 2,aw c7,bN 3,aw Tp,bN 7])).to (by clear E1;((try simp only [gG]);subst_vars;(try simp only [aW] at*);(try simp only [cF] at h);(try simp only [bX,cJ] at*);simp_all [wk,a7,cH,aD,show aC 12=3 from rfl,bD,bp,bA,a8,bw,aX,dh,bh,bO];done))
 have TJ:= @cZ 0 ab (by decide) (by decide) d0 d1 (w==64) false h3
 have Tx:= @bk 5 ab (by decide) (by decide) d0 d1
 generalize g14:bm 5 ab=UD at Tx
 have Ut:= @dY ai
 exact (gr (d:= .aL [.bc (.fresh 1) 1 [ay 129,ay UD,ay (ai%256),ay (ai / 256%256),ay (ai / 65536%256),ay (ai / 16777216%256)],aq 0]) (E1++ [aw TJ,tF,bN 1,aw Tx,bN 2,aw Ut,bN 6])).to (by clear E1;((try simp only [gG]);subst_vars;(try simp only [aW] at*);(try simp only [cF] at h);(try simp only [bX,cJ] at*);simp_all [wk,a7,cH,aD,show aC 12=3 from rfl,bD,bp,bA,a8,bw,aX,dh,bh,bO];done))
theorem xp:mq 13:=by
 intro w ab ae aa af ai cc d0 d1 s0 s1 b0 b1 p0 p1 i0 i1 c0 c1 hm
 have c0:= @bf 13 w ab ae aa af ai cc
 rw [hm] at c0
 have c1:= @aH 13
 have c2:= @aH 13
 let E1:EL:=([aw c0,tF,aO]++Zx 17 tF++ [tT,tT,tF,aw c1,tF,tF,aw c2,tT])
 rcases cI (bW (w==64) 0 ab false) with h3|h3
 ·have c4:= @dH 0 ab (by decide) (by decide) d0 d1 (w==64) false h3
  generalize g6:da (w==64) 0 ab=r5 at c4
  have c7:= @bk 6 ab (by decide) (by decide) d0 d1
  generalize g9:bm 6 ab=r8 at c7
  have Tp:= @dY ai
  exact (gr (d:= .aL [.bc (.fresh 1) 1 [ay r5,ay 129,ay r8,ay (ai%256),ay (ai / 256%256),ay (ai / 65536%256),ay (ai / 16777216%256)],aq 0]) (E1++ [aw c4,tF,bN 2,aw c7,bN 3,aw Tp,bN 7])).to (by clear E1;((try simp only [gG]);subst_vars;(try simp only [aW] at*);(try simp only [cF] at h);(try simp only [bX,cJ] at*);simp_all [wk,a7,cH,aD,show aC 13=3 from rfl,bD,bp,bA,a8,bw,aX,dh,bh,bO];done))
 have TJ:= @cZ 0 ab (by decide) (by decide) d0 d1 (w==64) false h3
 have Tx:= @bk 6 ab (by decide) (by decide) d0 d1
 generalize g14:bm 6 ab=UD at Tx
 have Ut:= @dY ai
 exact (gr (d:= .aL [.bc (.fresh 1) 1 [ay 129,ay UD,ay (ai%256),ay (ai / 256%256),ay (ai / 65536%256),ay (ai / 16777216%256)],aq 0]) (E1++ [aw TJ,tF,bN 1,aw Tx,bN 2,aw Ut,bN 6])).to (by clear E1;((try simp only [gG]);subst_vars;(try simp only [aW] at*);(try simp only [cF] at h);(try simp only [bX,cJ] at*);simp_all [wk,a7,cH,aD,show aC 13=3 from rfl,bD,bp,bA,a8,bw,aX,dh,bh,bO];done))
theorem xo:mq 14:=by
 intro w ab ae aa af ai cc d0 d1 s0 s1 b0 b1 p0 p1 i0 i1 c0 c1 hm
 have c0:= @bf 14 w ab ae aa af ai cc
 rw [hm] at c0
 have c1:= @aH 14
 have c2:= @aH 14
 let E1:EL:=([aw c0,tF,aO]++Zx 19 tF++ [tT,tT,tF,aw c1,tF,tF,aw c2,tT])
 rcases cI (bW (w==64) 0 ab false) with h3|h3
 ·have c4:= @dH 0 ab (by decide) (by decide) d0 d1 (w==64) false h3
  generalize g6:da (w==64) 0 ab=r5 at c4
  have c7:= @bk 7 ab (by decide) (by decide) d0 d1
  generalize g9:bm 7 ab=r8 at c7
  have Tp:= @dY ai
  exact (gr (d:= .aL [.bc (.fresh 1) 1 [ay r5,ay 129,ay r8,ay (ai%256),ay (ai / 256%256),ay (ai / 65536%256),ay (ai / 16777216%256)],aq 0]) (E1++ [aw c4,tF,bN 2,aw c7,bN 3,aw Tp,bN 7])).to (by clear E1;((try simp only [gG]);subst_vars;(try simp only [aW] at*);(try simp only [cF] at h);(try simp only [bX,cJ] at*);simp_all [wk,a7,cH,aD,show aC 14=3 from rfl,bD,bp,bA,a8,bw,aX,dh,bh,bO];done))
 have TJ:= @cZ 0 ab (by decide) (by decide) d0 d1 (w==64) false h3
 have Tx:= @bk 7 ab (by decide) (by decide) d0 d1
 generalize g14:bm 7 ab=UD at Tx
 have Ut:= @dY ai
 exact (gr (d:= .aL [.bc (.fresh 1) 1 [ay 129,ay UD,ay (ai%256),ay (ai / 256%256),ay (ai / 65536%256),ay (ai / 16777216%256)],aq 0]) (E1++ [aw TJ,tF,bN 1,aw Tx,bN 2,aw Ut,bN 6])).to (by clear E1;((try simp only [gG]);subst_vars;(try simp only [aW] at*);(try simp only [cF] at h);(try simp only [bX,cJ] at*);simp_all [wk,a7,cH,aD,show aC 14=3 from rfl,bD,bp,bA,a8,bw,aX,dh,bh,bO];done))
theorem xn:mq 15:=by
 intro w ab ae aa af ai cc d0 d1 s0 s1 b0 b1 p0 p1 i0 i1 c0 c1 hm
 have c0:= @bf 15 w ab ae aa af ai cc
 rw [hm] at c0
 have c1:= @aH 15
 have c2:= @aH 15
 let E1:EL:=([aw c0,tF,aO]++Zx 9 tF++ [tT,tF,aw c1,tF,tF,aw c2,tT])
 rcases cI (bW (w==64) 0 ab false) with h3|h3
 ·have c4:= @dH 0 ab (by decide) (by decide) d0 d1 (w==64) false h3
  generalize g6:da (w==64) 0 ab=r5 at c4
  have c7:= @bk 0 ab (by decide) (by decide) d0 d1
  generalize g9:bm 0 ab=r8 at c7
  have Tp:= @dY ai
  exact (gr (d:= .aL [.bc (.fresh 1) 1 [ay r5,ay 247,ay r8,ay (ai%256),ay (ai / 256%256),ay (ai / 65536%256),ay (ai / 16777216%256)],aq 0]) (E1++ [aw c4,tT,bN 2,aw c7,bN 3,aw Tp,bN 7])).to (by clear E1;((try simp only [gG]);subst_vars;(try simp only [aW] at*);(try simp only [cF] at h);(try simp only [bX,cJ] at*);simp_all [wk,a7,cH,aD,show aC 15=3 from rfl,bD,bp,bA,a8,bw,aX,dh,bh,bO];done))
 have TJ:= @cZ 0 ab (by decide) (by decide) d0 d1 (w==64) false h3
 have Tx:= @bk 0 ab (by decide) (by decide) d0 d1
 generalize g14:bm 0 ab=UD at Tx
 have Ut:= @dY ai
 exact (gr (d:= .aL [.bc (.fresh 1) 1 [ay 247,ay UD,ay (ai%256),ay (ai / 256%256),ay (ai / 65536%256),ay (ai / 16777216%256)],aq 0]) (E1++ [aw TJ,tT,bN 1,aw Tx,bN 2,aw Ut,bN 6])).to (by clear E1;((try simp only [gG]);subst_vars;(try simp only [aW] at*);(try simp only [cF] at h);(try simp only [bX,cJ] at*);simp_all [wk,a7,cH,aD,show aC 15=3 from rfl,bD,bp,bA,a8,bw,aX,dh,bh,bO];done))
def k8 (Tz:Int):Prop:= ∀(w ab ae aa af ai cc:Int) (d0:0≤ab) (d1:ab≤15) (s0:0≤ae) (s1:ae≤15) (b0:0≤aa) (b1:aa≤15) (p0: -2147483648≤af) (p1:af≤2147483647) (i0: -2147483648≤ai) (i1:ai≤2147483647) (c0:0≤cc) (c1:cc≤15) (hm:bL Tz w ab ae aa af ai cc=true),aQ Zy 42 ([xD Tz w ab ae aa af ai cc]) (.aL [bj 1 (bD (aD Tz w ab ae aa af ai cc)),aq 0])
theorem xl:k8 17:=by
 intro w ab ae aa af ai cc d0 d1 s0 s1 b0 b1 p0 p1 i0 i1 c0 c1 hm
 have c0:= @bf 17 w ab ae aa af ai cc
 rw [hm] at c0
 have c1:= @aH 17
 have c2:= @aH 17
 have c3:= @aH 17
 let E1:EL:=([aw c0,tF,aO]++Zx 12 tF++ [tT,tT,tF,aw c1,tF,tF,aw c2,tF,aw c3,tT])
 rcases cI (bW (w==64) 0 ab false) with h4|h4
 ·have c5:= @dH 0 ab (by decide) (by decide) d0 d1 (w==64) false h4
  generalize g7:da (w==64) 0 ab=r6 at c5
  have c8:= @bk 4 ab (by decide) (by decide) d0 d1
  generalize g10:bm 4 ab=r9 at c8
  exact (gr (d:= .aL [.bc (.fresh 1) 1 [ay r6,ay 193,ay r9,ay (aaY.wrap aaY.u8 ai)],aq 0]) (E1++ [aw c5,aw c8,bN 4])).to (by clear E1;(subst_vars;(try simp only [aW] at*);(try simp only [cF] at h);(try simp only [bX,cJ] at*);simp_all [wk,a7,cH,aD,show aC 17=4 from rfl,bD,bp,bA,a8,bw,bh,bO];done))
 have TJ:= @cZ 0 ab (by decide) (by decide) d0 d1 (w==64) false h4
 have Tx:= @bk 4 ab (by decide) (by decide) d0 d1
 generalize g14:bm 4 ab=UD at Tx
 exact (gr (d:= .aL [.bc (.fresh 1) 1 [ay 193,ay UD,ay (aaY.wrap aaY.u8 ai)],aq 0]) (E1++ [aw TJ,aw Tx,bN 3])).to (by clear E1;(subst_vars;(try simp only [aW] at*);(try simp only [cF] at h);(try simp only [bX,cJ] at*);simp_all [wk,a7,cH,aD,show aC 17=4 from rfl,bD,bp,bA,a8,bw,bh,bO];done))
theorem xk:k8 18:=by
 intro w ab ae aa af ai cc d0 d1 s0 s1 b0 b1 p0 p1 i0 i1 c0 c1 hm
 have c0:= @bf 18 w ab ae aa af ai cc
 rw [hm] at c0
 have c1:= @aH 18
 have c2:= @aH 18
 have c3:= @aH 18
 let E1:EL:=([aw c0,tF,aO]++Zx 15 tF++ [tT,tT,tF,aw c1,tF,tF,aw c2,tF,aw c3,tT])
 rcases cI (bW (w==64) 0 ab false) with h4|h4
 ·have c5:= @dH 0 ab (by decide) (by decide) d0 d1 (w==64) false h4
  generalize g7:da (w==64) 0 ab=r6 at c5
  have c8:= @bk 5 ab (by decide) (by decide) d0 d1
  generalize g10:bm 5 ab=r9 at c8
  exact (gr (d:= .aL [.bc (.fresh 1) 1 [ay r6,ay 193,ay r9,ay (aaY.wrap aaY.u8 ai)],aq 0]) (E1++ [aw c5,aw c8,bN 4])).to (by clear E1;(subst_vars;(try simp only [aW] at*);(try simp only [cF] at h);(try simp only [bX,cJ] at*);simp_all [wk,a7,cH,aD,show aC 18=4 from rfl,bD,bp,bA,a8,bw,bh,bO];done))
 have TJ:= @cZ 0 ab (by decide) (by decide) d0 d1 (w==64) false h4
 have Tx:= @bk 5 ab (by decide) (by decide) d0 d1
 generalize g14:bm 5 ab=UD at Tx
 exact (gr (d:= .aL [.bc (.fresh 1) 1 [ay 193,ay UD,ay (aaY.wrap aaY.u8 ai)],aq 0]) (E1++ [aw TJ,aw Tx,bN 3])).to (by clear E1;(subst_vars;(try simp only [aW] at*);(try simp only [cF] at h);(try simp only [bX,cJ] at*);simp_all [wk,a7,cH,aD,show aC 18=4 from rfl,bD,bp,bA,a8,bw,bh,bO];done))
theorem xj:k8 19:=by
 intro w ab ae aa af ai cc d0 d1 s0 s1 b0 b1 p0 p1 i0 i1 c0 c1 hm
 have c0:= @bf 19 w ab ae aa af ai cc
 rw [hm] at c0
 have c1:= @aH 19
 have c2:= @aH 19
 have c3:= @aH 19
 let E1:EL:=([aw c0,tF,aO]++Zx 20 tF++ [tT,tT,tF,aw c1,tF,tF,aw c2,tF,aw c3,tT])
 rcases cI (bW (w==64) 0 ab false) with h4|h4
 ·have c5:= @dH 0 ab (by decide) (by decide) d0 d1 (w==64) false h4
  generalize g7:da (w==64) 0 ab=r6 at c5
  have c8:= @bk 7 ab (by decide) (by decide) d0 d1
  generalize g10:bm 7 ab=r9 at c8
  exact (gr (d:= .aL [.bc (.fresh 1) 1 [ay r6,ay 193,ay r9,ay (aaY.wrap aaY.u8 ai)],aq 0]) (E1++ [aw c5,aw c8,bN 4])).to (by clear E1;(subst_vars;(try simp only [aW] at*);(try simp only [cF] at h);(try simp only [bX,cJ] at*);simp_all [wk,a7,cH,aD,show aC 19=4 from rfl,bD,bp,bA,a8,bw,bh,bO];done))
 have TJ:= @cZ 0 ab (by decide) (by decide) d0 d1 (w==64) false h4
 have Tx:= @bk 7 ab (by decide) (by decide) d0 d1
 generalize g14:bm 7 ab=UD at Tx
 exact (gr (d:= .aL [.bc (.fresh 1) 1 [ay 193,ay UD,ay (aaY.wrap aaY.u8 ai)],aq 0]) (E1++ [aw TJ,aw Tx,bN 3])).to (by clear E1;(subst_vars;(try simp only [aW] at*);(try simp only [cF] at h);(try simp only [bX,cJ] at*);simp_all [wk,a7,cH,aD,show aC 19=4 from rfl,bD,bp,bA,a8,bw,bh,bO];done))
theorem xi:k8 20:=by
 intro w ab ae aa af ai cc d0 d1 s0 s1 b0 b1 p0 p1 i0 i1 c0 c1 hm
 have c0:= @bf 20 w ab ae aa af ai cc
 rw [hm] at c0
 have c1:= @aH 20
 have c2:= @aH 20
 have c3:= @aH 20
 have c4:= @aH 20
 let E1:EL:=([aw c0,tF,aO]++Zx 13 tF++ [tT,tF,aw c1,tF,tF,aw c2,tF,aw c3,tF,aw c4,tT])
 rcases cI (bW (w==64) 0 ab false) with h5|h5
 ·have c6:= @dH 0 ab (by decide) (by decide) d0 d1 (w==64) false h5
  generalize g8:da (w==64) 0 ab=r7 at c6
  have c9:= @bk 4 ab (by decide) (by decide) d0 d1
  generalize g11:bm 4 ab=T2 at c9
  exact (gr (d:= .aL [.bc (.fresh 1) 1 [ay r7,ay 211,ay T2],aq 0]) (E1++ [aw c6,tT,tT,tT,tF,tF,aw c9,bN 3])).to (by clear E1;(subst_vars;(try simp only [aW] at*);(try simp only [cF] at h);(try simp only [bX,cJ] at*);simp_all [wk,a7,cH,aD,show aC 20=5 from rfl,bD,bp,bA,a8,bw,bh,bO];done))
 have Tx:= @cZ 0 ab (by decide) (by decide) d0 d1 (w==64) false h5
 have TF:= @bk 4 ab (by decide) (by decide) d0 d1
 generalize g15:bm 4 ab=T4 at TF
 exact (gr (d:= .aL [.bc (.fresh 1) 1 [ay 211,ay T4],aq 0]) (E1++ [aw Tx,tT,tT,tT,tF,tF,aw TF,bN 2])).to (by clear E1;(subst_vars;(try simp only [aW] at*);(try simp only [cF] at h);(try simp only [bX,cJ] at*);simp_all [wk,a7,cH,aD,show aC 20=5 from rfl,bD,bp,bA,a8,bw,bh,bO];done))
theorem xh:k8 21:=by
 intro w ab ae aa af ai cc d0 d1 s0 s1 b0 b1 p0 p1 i0 i1 c0 c1 hm
 have c0:= @bf 21 w ab ae aa af ai cc
 rw [hm] at c0
 have c1:= @aH 21
 have c2:= @aH 21
 have c3:= @aH 21
 have c4:= @aH 21
 let E1:EL:=([aw c0,tF,aO]++Zx 16 tF++ [tT,tF,aw c1,tF,tF,aw c2,tF,aw c3,tF,aw c4,tT])
 rcases cI (bW (w==64) 0 ab false) with h5|h5
 ·have c6:= @dH 0 ab (by decide) (by decide) d0 d1 (w==64) false h5
  generalize g8:da (w==64) 0 ab=r7 at c6
  have c9:= @bk 5 ab (by decide) (by decide) d0 d1
  generalize g11:bm 5 ab=T2 at c9
  exact (gr (d:= .aL [.bc (.fresh 1) 1 [ay r7,ay 211,ay T2],aq 0]) (E1++ [aw c6,tT,tT,tT,tF,tF,aw c9,bN 3])).to (by clear E1;(subst_vars;(try simp only [aW] at*);(try simp only [cF] at h);(try simp only [bX,cJ] at*);simp_all [wk,a7,cH,aD,show aC 21=5 from rfl,bD,bp,bA,a8,bw,bh,bO];done))
 have Tx:= @cZ 0 ab (by decide) (by decide) d0 d1 (w==64) false h5
 have TF:= @bk 5 ab (by decide) (by decide) d0 d1
 generalize g15:bm 5 ab=T4 at TF
 exact (gr (d:= .aL [.bc (.fresh 1) 1 [ay 211,ay T4],aq 0]) (E1++ [aw Tx,tT,tT,tT,tF,tF,aw TF,bN 2])).to (by clear E1;(subst_vars;(try simp only [aW] at*);(try simp only [cF] at h);(try simp only [bX,cJ] at*);simp_all [wk,a7,cH,aD,show aC 21=5 from rfl,bD,bp,bA,a8,bw,bh,bO];done))
theorem xg:k8 22:=by
 intro w ab ae aa af ai cc d0 d1 s0 s1 b0 b1 p0 p1 i0 i1 c0 c1 hm
 have c0:= @bf 22 w ab ae aa af ai cc
 rw [hm] at c0
 have c1:= @aH 22
 have c2:= @aH 22
 have c3:= @aH 22
 have c4:= @aH 22
 let E1:EL:=([aw c0,tF,aO]++Zx 21 tF++ [tT,tF,aw c1,tF,tF,aw c2,tF,aw c3,tF,aw c4,tT])
 rcases cI (bW (w==64) 0 ab false) with h5|h5
 ·have c6:= @dH 0 ab (by decide) (by decide) d0 d1 (w==64) false h5
  generalize g8:da (w==64) 0 ab=r7 at c6
  have c9:= @bk 7 ab (by decide) (by decide) d0 d1
  generalize g11:bm 7 ab=T2 at c9
  exact (gr (d:= .aL [.bc (.fresh 1) 1 [ay r7,ay 211,ay T2],aq 0]) (E1++ [aw c6,tT,tT,tT,tF,tF,aw c9,bN 3])).to (by clear E1;(subst_vars;(try simp only [aW] at*);(try simp only [cF] at h);(try simp only [bX,cJ] at*);simp_all [wk,a7,cH,aD,show aC 22=5 from rfl,bD,bp,bA,a8,bw,bh,bO];done))
 have Tx:= @cZ 0 ab (by decide) (by decide) d0 d1 (w==64) false h5
 have TF:= @bk 7 ab (by decide) (by decide) d0 d1
 generalize g15:bm 7 ab=T4 at TF
 exact (gr (d:= .aL [.bc (.fresh 1) 1 [ay 211,ay T4],aq 0]) (E1++ [aw Tx,tT,tT,tT,tF,tF,aw TF,bN 2])).to (by clear E1;(subst_vars;(try simp only [aW] at*);(try simp only [cF] at h);(try simp only [bX,cJ] at*);simp_all [wk,a7,cH,aD,show aC 22=5 from rfl,bD,bp,bA,a8,bw,bh,bO];done))
theorem xf:k8 23:=by
 intro w ab ae aa af ai cc d0 d1 s0 s1 b0 b1 p0 p1 i0 i1 c0 c1 hm
 have c0:= @bf 23 w ab ae aa af ai cc
 rw [hm] at c0
 have c1:= @aH 23
 have c2:= @aH 23
 have c3:= @aH 23
 have c4:= @aH 23
 let E1:EL:=([aw c0,tF,aO]++Zx 22 tF++ [tT,tF,aw c1,tF,tF,aw c2,tF,aw c3,tF,aw c4,tT])
 rcases cI (bW (w==64) 0 ab false) with h5|h5
 ·have c6:= @dH 0 ab (by decide) (by decide) d0 d1 (w==64) false h5
  generalize g8:da (w==64) 0 ab=r7 at c6
  have c9:= @bk 3 ab (by decide) (by decide) d0 d1
  generalize g11:bm 3 ab=T2 at c9
  exact (gr (d:= .aL [.bc (.fresh 1) 1 [ay r7,ay 247,ay T2],aq 0]) (E1++ [aw c6,tF,tF,tF,tT,tT,aw c9,bN 3])).to (by clear E1;(subst_vars;(try simp only [aW] at*);(try simp only [cF] at h);(try simp only [bX,cJ] at*);simp_all [wk,a7,cH,aD,show aC 23=5 from rfl,bD,bp,bA,a8,bw,bh,bO];done))
 have Tx:= @cZ 0 ab (by decide) (by decide) d0 d1 (w==64) false h5
 have TF:= @bk 3 ab (by decide) (by decide) d0 d1
 generalize g15:bm 3 ab=T4 at TF
 exact (gr (d:= .aL [.bc (.fresh 1) 1 [ay 247,ay T4],aq 0]) (E1++ [aw Tx,tF,tF,tF,tT,tT,aw TF,bN 2])).to (by clear E1;(subst_vars;(try simp only [aW] at*);(try simp only [cF] at h);(try simp only [bX,cJ] at*);simp_all [wk,a7,cH,aD,show aC 23=5 from rfl,bD,bp,bA,a8,bw,bh,bO];done))
theorem xe:k8 24:=by
 intro w ab ae aa af ai cc d0 d1 s0 s1 b0 b1 p0 p1 i0 i1 c0 c1 hm
 have c0:= @bf 24 w ab ae aa af ai cc
 rw [hm] at c0
 have c1:= @aH 24
 have c2:= @aH 24
 have c3:= @aH 24
 have c4:= @aH 24
 let E1:EL:=([aw c0,tF,aO]++Zx 18 tF++ [tT,tF,aw c1,tF,tF,aw c2,tF,aw c3,tF,aw c4,tT])
 rcases cI (bW (w==64) 0 ab false) with h5|h5
 ·have c6:= @dH 0 ab (by decide) (by decide) d0 d1 (w==64) false h5
  generalize g8:da (w==64) 0 ab=r7 at c6
  have c9:= @bk 6 ab (by decide) (by decide) d0 d1
  generalize g11:bm 6 ab=T2 at c9
  exact (gr (d:= .aL [.bc (.fresh 1) 1 [ay r7,ay 247,ay T2],aq 0]) (E1++ [aw c6,tT,tT,tT,tF,tT,aw c9,bN 3])).to (by clear E1;(subst_vars;(try simp only [aW] at*);(try simp only [cF] at h);(try simp only [bX,cJ] at*);simp_all [wk,a7,cH,aD,show aC 24=5 from rfl,bD,bp,bA,a8,bw,bh,bO];done))
 have Tx:= @cZ 0 ab (by decide) (by decide) d0 d1 (w==64) false h5
 have TF:= @bk 6 ab (by decide) (by decide) d0 d1
 generalize g15:bm 6 ab=T4 at TF
 exact (gr (d:= .aL [.bc (.fresh 1) 1 [ay 247,ay T4],aq 0]) (E1++ [aw Tx,tT,tT,tT,tF,tT,aw TF,bN 2])).to (by clear E1;(subst_vars;(try simp only [aW] at*);(try simp only [cF] at h);(try simp only [bX,cJ] at*);simp_all [wk,a7,cH,aD,show aC 24=5 from rfl,bD,bp,bA,a8,bw,bh,bO];done))
theorem xc (w ab ae aa af ai cc:Int) (d0:0≤ab) (d1:ab≤15) (s0:0≤ae) (s1:ae≤15) (b0:0≤aa) (b1:aa≤15) (p0: -2147483648≤af) (p1:af≤2147483647) (i0: -2147483648≤ai) (i1:ai≤2147483647) (c0:0≤cc) (c1:cc≤15) (hm:bL 26 w ab ae aa af ai cc=true):aQ Zy 42 ([xD 26 w ab ae aa af ai cc]) (.aL [bj 1 (bD (aD 26 w ab ae aa af ai cc)),aq 0]):=by
 have c0:= @bf 26 w ab ae aa af ai cc
 rw [hm] at c0
 have c1:= @aH 26
 have c2:= @aH 26
 have c3:= @aH 26
 have c4:= @aH 26
 let E1:EL:=([aw c0,tF,aO]++Zx 24 tF++ [aw c1,tF,tF,aw c2,tF,aw c3,tF,aw c4,tF,tF,tT])
 rcases cI (bW (w==64) ab aa false) with h5|h5
 ·have c6:= @dH ab aa d0 d1 b0 b1 (w==64) false h5
  generalize g8:da (w==64) ab aa=r7 at c6
  let E2:EL:=E1++ [aw c6]
  by_cases h9:w=8
  ·subst h9
   let E3:EL:=E2++ [tT,bN 3]
   rcases cI (decide (aa%8=4)) with UE|UE
   ·have TJ:= @gV ab aa af d0 d1 b0 b1 p0 p1 UE
    exact (gr (d:= .aL [.bc (.fresh 1) 1 [ay r7,ay 15,ay 182,ay (128+8*(ab%8)+aa%8),ay 36,ay (af%256),ay (af / 256%256),ay (af / 65536%256),ay (af / 16777216%256)],aq 0]) (E3++ [aw TJ,bN 9])).to (by clear E1 E2 E3;(subst_vars;(try simp only [aW] at*);(try simp only [cF] at h);(try simp only [bX,cJ] at*);simp_all [wk,a7,cH,aD,show aC 26=7 from rfl,bD,bp,bA,a8,bw,aX];done))
   have Tx:= @gR ab aa af d0 d1 b0 b1 p0 p1 UE
   exact (gr (d:= .aL [.bc (.fresh 1) 1 [ay r7,ay 15,ay 182,ay (128+8*(ab%8)+aa%8),ay (af%256),ay (af / 256%256),ay (af / 65536%256),ay (af / 16777216%256)],aq 0]) (E3++ [aw Tx,bN 8])).to (by clear E1 E2 E3;(subst_vars;(try simp only [aW] at*);(try simp only [cF] at h);(try simp only [bX,cJ] at*);simp_all [wk,a7,cH,aD,show aC 26=7 from rfl,bD,bp,bA,a8,bw,aX];done))
  by_cases h13:w=16
  ·subst h13
   let E4:EL:=E2++ [tC (aR h9),tT,bN 3]
   rcases cI (decide (aa%8=4)) with h14|h14
   ·have Ut:= @gV ab aa af d0 d1 b0 b1 p0 p1 h14
    exact (gr (d:= .aL [.bc (.fresh 1) 1 [ay r7,ay 15,ay 183,ay (128+8*(ab%8)+aa%8),ay 36,ay (af%256),ay (af / 256%256),ay (af / 65536%256),ay (af / 16777216%256)],aq 0]) (E4++ [aw Ut,bN 9])).to (by clear E1 E2 E4;(subst_vars;(try simp only [aW] at*);(try simp only [cF] at h);(try simp only [bX,cJ] at*);simp_all [wk,a7,cH,aD,show aC 26=7 from rfl,bD,bp,bA,a8,bw,aX];done))
   have TG:= @gR ab aa af d0 d1 b0 b1 p0 p1 h14
   exact (gr (d:= .aL [.bc (.fresh 1) 1 [ay r7,ay 15,ay 183,ay (128+8*(ab%8)+aa%8),ay (af%256),ay (af / 256%256),ay (af / 65536%256),ay (af / 16777216%256)],aq 0]) (E4++ [aw TG,bN 8])).to (by clear E1 E2 E4;(subst_vars;(try simp only [aW] at*);(try simp only [cF] at h);(try simp only [bX,cJ] at*);simp_all [wk,a7,cH,aD,show aC 26=7 from rfl,bD,bp,bA,a8,bw,aX];done))
  let E5:EL:=E2++ [tC (aR h9),tC (aR h13),bN 2]
  rcases cI (decide (aa%8=4)) with h17|h17
  ·have Vi:= @gV ab aa af d0 d1 b0 b1 p0 p1 h17
   exact (gr (d:= .aL [.bc (.fresh 1) 1 [ay r7,ay 139,ay (128+8*(ab%8)+aa%8),ay 36,ay (af%256),ay (af / 256%256),ay (af / 65536%256),ay (af / 16777216%256)],aq 0]) (E5++ [aw Vi,bN 8])).to (by clear E1 E2 E5;(subst_vars;(try simp only [aW] at*);(try simp only [cF] at h);(try simp only [bX,cJ] at*);simp_all [wk,a7,cH,aD,show aC 26=7 from rfl,bD,bp,bA,a8,bw,aX];done))
  have T9:= @gR ab aa af d0 d1 b0 b1 p0 p1 h17
  exact (gr (d:= .aL [.bc (.fresh 1) 1 [ay r7,ay 139,ay (128+8*(ab%8)+aa%8),ay (af%256),ay (af / 256%256),ay (af / 65536%256),ay (af / 16777216%256)],aq 0]) (E5++ [aw T9,bN 7])).to (by clear E1 E2 E5;(subst_vars;(try simp only [aW] at*);(try simp only [cF] at h);(try simp only [bX,cJ] at*);simp_all [wk,a7,cH,aD,show aC 26=7 from rfl,bD,bp,bA,a8,bw,aX];done))
 have Vq:= @cZ ab aa d0 d1 b0 b1 (w==64) false h5
 let E6:EL:=E1++ [aw Vq]
 by_cases h21:w=8
 ·subst h21
  let E7:EL:=E6++ [tT,bN 2]
  rcases cI (decide (aa%8=4)) with h22|h22
  ·have Ua:= @gV ab aa af d0 d1 b0 b1 p0 p1 h22
   exact (gr (d:= .aL [.bc (.fresh 1) 1 [ay 15,ay 182,ay (128+8*(ab%8)+aa%8),ay 36,ay (af%256),ay (af / 256%256),ay (af / 65536%256),ay (af / 16777216%256)],aq 0]) (E7++ [aw Ua,bN 8])).to (by clear E1 E6 E7;(subst_vars;(try simp only [aW] at*);(try simp only [cF] at h);(try simp only [bX,cJ] at*);simp_all [wk,a7,cH,aD,show aC 26=7 from rfl,bD,bp,bA,a8,bw,aX];done))
  have UG:= @gR ab aa af d0 d1 b0 b1 p0 p1 h22
  exact (gr (d:= .aL [.bc (.fresh 1) 1 [ay 15,ay 182,ay (128+8*(ab%8)+aa%8),ay (af%256),ay (af / 256%256),ay (af / 65536%256),ay (af / 16777216%256)],aq 0]) (E7++ [aw UG,bN 7])).to (by clear E1 E6 E7;(subst_vars;(try simp only [aW] at*);(try simp only [cF] at h);(try simp only [bX,cJ] at*);simp_all [wk,a7,cH,aD,show aC 26=7 from rfl,bD,bp,bA,a8,bw,aX];done))
 by_cases h25:w=16
 ·subst h25
  let E8:EL:=E6++ [tC (aR h21),tT,bN 2]
  rcases cI (decide (aa%8=4)) with h26|h26
  ·have Uj:= @gV ab aa af d0 d1 b0 b1 p0 p1 h26
   exact (gr (d:= .aL [.bc (.fresh 1) 1 [ay 15,ay 183,ay (128+8*(ab%8)+aa%8),ay 36,ay (af%256),ay (af / 256%256),ay (af / 65536%256),ay (af / 16777216%256)],aq 0]) (E8++ [aw Uj,bN 8])).to (by clear E1 E6 E8;(subst_vars;(try simp only [aW] at*);(try simp only [cF] at h);(try simp only [bX,cJ] at*);simp_all [wk,a7,cH,aD,show aC 26=7 from rfl,bD,bp,bA,a8,bw,aX];done))
  have Xj:= @gR ab aa af d0 d1 b0 b1 p0 p1 h26
  exact (gr (d:= .aL [.bc (.fresh 1) 1 [ay 15,ay 183,ay (128+8*(ab%8)+aa%8),ay (af%256),ay (af / 256%256),ay (af / 65536%256),ay (af / 16777216%256)],aq 0]) (E8++ [aw Xj,bN 7])).to (by clear E1 E6 E8;(subst_vars;(try simp only [aW] at*);(try simp only [cF] at h);(try simp only [bX,cJ] at*);simp_all [wk,a7,cH,aD,show aC 26=7 from rfl,bD,bp,bA,a8,bw,aX];done))
 let E9:EL:=E6++ [tC (aR h21),tC (aR h25),bN 1]
 rcases cI (decide (aa%8=4)) with h29|h29
 ·have UX:= @gV ab aa af d0 d1 b0 b1 p0 p1 h29
  exact (gr (d:= .aL [.bc (.fresh 1) 1 [ay 139,ay (128+8*(ab%8)+aa%8),ay 36,ay (af%256),ay (af / 256%256),ay (af / 65536%256),ay (af / 16777216%256)],aq 0]) (E9++ [aw UX,bN 7])).to (by clear E1 E6 E9;(subst_vars;(try simp only [aW] at*);(try simp only [cF] at h);(try simp only [bX,cJ] at*);simp_all [wk,a7,cH,aD,show aC 26=7 from rfl,bD,bp,bA,a8,bw,aX];done))
 have US:= @gR ab aa af d0 d1 b0 b1 p0 p1 h29
 exact (gr (d:= .aL [.bc (.fresh 1) 1 [ay 139,ay (128+8*(ab%8)+aa%8),ay (af%256),ay (af / 256%256),ay (af / 65536%256),ay (af / 16777216%256)],aq 0]) (E9++ [aw US,bN 6])).to (by clear E1 E6 E9;(subst_vars;(try simp only [aW] at*);(try simp only [cF] at h);(try simp only [bX,cJ] at*);simp_all [wk,a7,cH,aD,show aC 26=7 from rfl,bD,bp,bA,a8,bw,aX];done))
theorem xa (w ab ae aa af ai cc:Int) (d0:0≤ab) (d1:ab≤15) (s0:0≤ae) (s1:ae≤15) (b0:0≤aa) (b1:aa≤15) (p0: -2147483648≤af) (p1:af≤2147483647) (i0: -2147483648≤ai) (i1:ai≤2147483647) (c0:0≤cc) (c1:cc≤15) (hm:bL 27 w ab ae aa af ai cc=true):aQ Zy 42 ([xD 27 w ab ae aa af ai cc]) (.aL [bj 1 (bD (aD 27 w ab ae aa af ai cc)),aq 0]):=by
 have c0:= @bf 27 w ab ae aa af ai cc
 rw [hm] at c0
 have c1:= @aH 27
 have c2:= @aH 27
 have c3:= @aH 27
 have c4:= @aH 27
 let E1:EL:=([aw c0,tF,aO]++Zx 24 tF++ [aw c1,tF,tF,aw c2,tF,aw c3,tF,aw c4,tF,tF,tF,tT])
 by_cases h5:w=16
 ·subst h5
  let E2:EL:=E1++ [tT,bN 1]
  rcases cI (bW false ae aa false) with h6|h6
  ·have c7:= @dH ae aa s0 s1 b0 b1 false false h6
   generalize g9:da false ae aa=r8 at c7
   let E3:EL:=E2++ [aw c7,bN 2,tF,bN 3]
   rcases cI (decide (aa%8=4)) with UE|UE
   ·have TJ:= @gV ae aa af s0 s1 b0 b1 p0 p1 UE
    exact (gr (d:= .aL [.bc (.fresh (1:Nat)) (1:Nat) [ay 102,ay r8,ay 137,ay (128+8*(ae%8)+aa%8),ay 36,ay (af%256),ay (af / 256%256),ay (af / 65536%256),ay (af / 16777216%256)],aq 0]) (E3++ [aw TJ,bN 9])).to (by clear E1 E2 E3;((try simp only [gG]);subst_vars;(try simp only [aW] at*);(try simp only [cF] at h);(try simp only [bX,cJ] at*);simp_all [wk,a7,cH,aD,show aC 27=8 from rfl,bD,bp,bA,a8,bw,aX,dh];done))
   have Tx:= @gR ae aa af s0 s1 b0 b1 p0 p1 UE
   exact (gr (d:= .aL [.bc (.fresh (1:Nat)) (1:Nat) [ay 102,ay r8,ay 137,ay (128+8*(ae%8)+aa%8),ay (af%256),ay (af / 256%256),ay (af / 65536%256),ay (af / 16777216%256)],aq 0]) (E3++ [aw Tx,bN 8])).to (by clear E1 E2 E3;((try simp only [gG]);subst_vars;(try simp only [aW] at*);(try simp only [cF] at h);(try simp only [bX,cJ] at*);simp_all [wk,a7,cH,aD,show aC 27=8 from rfl,bD,bp,bA,a8,bw,aX,dh];done))
  have TF:= @cZ ae aa s0 s1 b0 b1 false false h6
  let E4:EL:=E2++ [aw TF,bN 1,tF,bN 2]
  rcases cI (decide (aa%8=4)) with h14|h14
  ·have Ut:= @gV ae aa af s0 s1 b0 b1 p0 p1 h14
   exact (gr (d:= .aL [.bc (.fresh (1:Nat)) (1:Nat) [ay 102,ay 137,ay (128+8*(ae%8)+aa%8),ay 36,ay (af%256),ay (af / 256%256),ay (af / 65536%256),ay (af / 16777216%256)],aq 0]) (E4++ [aw Ut,bN 8])).to (by clear E1 E2 E4;((try simp only [gG]);subst_vars;(try simp only [aW] at*);(try simp only [cF] at h);(try simp only [bX,cJ] at*);simp_all [wk,a7,cH,aD,show aC 27=8 from rfl,bD,bp,bA,a8,bw,aX,dh];done))
  have TG:= @gR ae aa af s0 s1 b0 b1 p0 p1 h14
  exact (gr (d:= .aL [.bc (.fresh (1:Nat)) (1:Nat) [ay 102,ay 137,ay (128+8*(ae%8)+aa%8),ay (af%256),ay (af / 256%256),ay (af / 65536%256),ay (af / 16777216%256)],aq 0]) (E4++ [aw TG,bN 7])).to (by clear E1 E2 E4;((try simp only [gG]);subst_vars;(try simp only [aW] at*);(try simp only [cF] at h);(try simp only [bX,cJ] at*);simp_all [wk,a7,cH,aD,show aC 27=8 from rfl,bD,bp,bA,a8,bw,aX,dh];done))
 let E5:EL:=E1++ [tC (aR h5)]
 rcases cI (bW (w==64) ae aa (w==8)) with h17|h17
 ·have Vi:= @dH ae aa s0 s1 b0 b1 (w==64) (w==8) h17
  generalize g20:da (w==64) ae aa=r19 at Vi
  let E6:EL:=E5++ [aw Vi,bN 1]
  by_cases h21:w=8
  ·subst h21
   let E7:EL:=E6++ [tT,bN 2]
   rcases cI (decide (aa%8=4)) with h22|h22
   ·have Ua:= @gV ae aa af s0 s1 b0 b1 p0 p1 h22
    exact (gr (d:= .aL [.bc (.fresh (1:Nat)) (1:Nat) [ay r19,ay 136,ay (128+8*(ae%8)+aa%8),ay 36,ay (af%256),ay (af / 256%256),ay (af / 65536%256),ay (af / 16777216%256)],aq 0]) (E7++ [aw Ua,bN 8])).to (by clear E1 E5 E6 E7;((try simp only [gG]);subst_vars;(try simp only [aW] at*);(try simp only [cF] at h);(try simp only [bX,cJ] at*);simp_all [wk,a7,cH,aD,show aC 27=8 from rfl,bD,bp,bA,a8,bw,aX,dh];done))
   have UG:= @gR ae aa af s0 s1 b0 b1 p0 p1 h22
   exact (gr (d:= .aL [.bc (.fresh (1:Nat)) (1:Nat) [ay r19,ay 136,ay (128+8*(ae%8)+aa%8),ay (af%256),ay (af / 256%256),ay (af / 65536%256),ay (af / 16777216%256)],aq 0]) (E7++ [aw UG,bN 7])).to (by clear E1 E5 E6 E7;((try simp only [gG]);subst_vars;(try simp only [aW] at*);(try simp only [cF] at h);(try simp only [bX,cJ] at*);simp_all [wk,a7,cH,aD,show aC 27=8 from rfl,bD,bp,bA,a8,bw,aX,dh];done))
  let E8:EL:=E6++ [tC (aR h21),bN 2]
  rcases cI (decide (aa%8=4)) with h25|h25
  ·have UQ:= @gV ae aa af s0 s1 b0 b1 p0 p1 h25
   exact (gr (d:= .aL [.bc (.fresh (1:Nat)) (1:Nat) [ay r19,ay 137,ay (128+8*(ae%8)+aa%8),ay 36,ay (af%256),ay (af / 256%256),ay (af / 65536%256),ay (af / 16777216%256)],aq 0]) (E8++ [aw UQ,bN 8])).to (by clear E1 E5 E6 E8;((try simp only [gG]);subst_vars;(try simp only [aW] at*);(try simp only [cF] at h);(try simp only [bX,cJ] at*);simp_all [wk,a7,cH,aD,show aC 27=8 from rfl,bD,bp,bA,a8,bw,aX,dh];done))
  have Uj:= @gR ae aa af s0 s1 b0 b1 p0 p1 h25
  exact (gr (d:= .aL [.bc (.fresh (1:Nat)) (1:Nat) [ay r19,ay 137,ay (128+8*(ae%8)+aa%8),ay (af%256),ay (af / 256%256),ay (af / 65536%256),ay (af / 16777216%256)],aq 0]) (E8++ [aw Uj,bN 7])).to (by clear E1 E5 E6 E8;((try simp only [gG]);subst_vars;(try simp only [aW] at*);(try simp only [cF] at h);(try simp only [bX,cJ] at*);simp_all [wk,a7,cH,aD,show aC 27=8 from rfl,bD,bp,bA,a8,bw,aX,dh];done))
 have Xj:= @cZ ae aa s0 s1 b0 b1 (w==64) (w==8) h17
 let E9:EL:=E5++ [aw Xj,bN 0]
 by_cases h29:w=8
 ·subst h29
  let E10:EL:=E9++ [tT,bN 1]
  rcases cI (decide (aa%8=4)) with h30|h30
  ·have US:= @gV ae aa af s0 s1 b0 b1 p0 p1 h30
   exact (gr (d:= .aL [.bc (.fresh (1:Nat)) (1:Nat) [ay 136,ay (128+8*(ae%8)+aa%8),ay 36,ay (af%256),ay (af / 256%256),ay (af / 65536%256),ay (af / 16777216%256)],aq 0]) (E10++ [aw US,bN 7])).to (by clear E1 E5 E9 E10;((try simp only [gG]);subst_vars;(try simp only [aW] at*);(try simp only [cF] at h);(try simp only [bX,cJ] at*);simp_all [wk,a7,cH,aD,show aC 27=8 from rfl,bD,bp,bA,a8,bw,aX,dh];done))
  have YG:= @gR ae aa af s0 s1 b0 b1 p0 p1 h30
  exact (gr (d:= .aL [.bc (.fresh (1:Nat)) (1:Nat) [ay 136,ay (128+8*(ae%8)+aa%8),ay (af%256),ay (af / 256%256),ay (af / 65536%256),ay (af / 16777216%256)],aq 0]) (E10++ [aw YG,bN 6])).to (by clear E1 E5 E9 E10;((try simp only [gG]);subst_vars;(try simp only [aW] at*);(try simp only [cF] at h);(try simp only [bX,cJ] at*);simp_all [wk,a7,cH,aD,show aC 27=8 from rfl,bD,bp,bA,a8,bw,aX,dh];done))
 let E11:EL:=E9++ [tC (aR h29),bN 1]
 rcases cI (decide (aa%8=4)) with h33|h33
 ·have Ys:= @gV ae aa af s0 s1 b0 b1 p0 p1 h33
  exact (gr (d:= .aL [.bc (.fresh (1:Nat)) (1:Nat) [ay 137,ay (128+8*(ae%8)+aa%8),ay 36,ay (af%256),ay (af / 256%256),ay (af / 65536%256),ay (af / 16777216%256)],aq 0]) (E11++ [aw Ys,bN 7])).to (by clear E1 E5 E9 E11;((try simp only [gG]);subst_vars;(try simp only [aW] at*);(try simp only [cF] at h);(try simp only [bX,cJ] at*);simp_all [wk,a7,cH,aD,show aC 27=8 from rfl,bD,bp,bA,a8,bw,aX,dh];done))
 have YC:= @gR ae aa af s0 s1 b0 b1 p0 p1 h33
 exact (gr (d:= .aL [.bc (.fresh (1:Nat)) (1:Nat) [ay 137,ay (128+8*(ae%8)+aa%8),ay (af%256),ay (af / 256%256),ay (af / 65536%256),ay (af / 16777216%256)],aq 0]) (E11++ [aw YC,bN 6])).to (by clear E1 E5 E9 E11;((try simp only [gG]);subst_vars;(try simp only [aW] at*);(try simp only [cF] at h);(try simp only [bX,cJ] at*);simp_all [wk,a7,cH,aD,show aC 27=8 from rfl,bD,bp,bA,a8,bw,aX,dh];done))
def rH (Tz:Int):Prop:= ∀(w ab ae aa af ai cc:Int) (d0:0≤ab) (d1:ab≤15) (s0:0≤ae) (s1:ae≤15) (b0:0≤aa) (b1:aa≤15) (p0: -2147483648≤af) (p1:af≤2147483647) (i0: -2147483648≤ai) (i1:ai≤2147483647) (c0:0≤cc) (c1:cc≤15) (hm:bL Tz w ab ae aa af ai cc=true),aQ Zy 42 ([xD Tz w ab ae aa af ai cc]) (.aL [bj 1 (bD (aD Tz w ab ae aa af ai cc)),aq 0])
theorem w9:rH 28:=by
 intro w ab ae aa af ai cc d0 d1 s0 s1 b0 b1 p0 p1 i0 i1 c0 c1 hm
 have c0:= @Proofs.YtbfpahigdpigpaaGreat.bf 28 w ab ae aa af ai cc
 rw [show (bL 28 w ab ae aa af ai cc)=true from hm] at c0
 have c1:= @Proofs.YtbfpahigdpigpaaGreat.aH 28
 have c2:= @Proofs.YtbfpahigdpigpaaGreat.aH 28
 have c3:= @Proofs.YtbfpahigdpigpaaGreat.aH 28
 have c4:= @Proofs.YtbfpahigdpigpaaGreat.aH 28
 let E1:EL:=([aw c0,tF,aO]++Zx 24 tF++ [aw c1,tF,tF,aw c2,tF,aw c3,tF,aw c4,tF,tF,tF,tF,aO,tT,tT,tT,tT])
 by_cases h5:w=8
 ·subst h5
  exact (gr (d:=D.aL [D.bc lP.tight 1 [D.int aaY.u8 235,D.int aaY.u8 (aaY.wrap aaY.u8 ai)],D.int aaY.i64 0]) (E1++ [tT])).to (by clear E1;((try simp only [gG]);subst_vars;(try simp only [aW] at*);(try simp only [cF] at h);(try simp only [bX,cJ] at*);simp_all [wk,a7,cH,aD,show aC 28=9 from rfl,bD,bp,bA,a8,bw,aX,dh];done))
 have c6:= @Proofs.YtbfpahigdpigpaaGreat.dY ai
 exact (gr (d:=D.aL [D.bc (lP.fresh (1:Nat)) (1:Nat) [D.int aaY.u8 233,D.int aaY.u8 (ai%256),D.int aaY.u8 (ai / 256%256),D.int aaY.u8 (ai / 65536%256),D.int aaY.u8 (ai / 16777216%256)],D.int aaY.i64 0]) (E1++ [tC (aR h5),tT,aw c6,bN 5])).to (by clear E1;((try simp only [gG]);subst_vars;(try simp only [aW] at*);(try simp only [cF] at h);(try simp only [bX,cJ] at*);simp_all [wk,a7,cH,aD,show aC 28=9 from rfl,bD,bp,bA,a8,bw,aX,dh];done))
theorem w8:rH 29:=by
 intro w ab ae aa af ai cc d0 d1 s0 s1 b0 b1 p0 p1 i0 i1 c0 c1 hm
 have c0:= @Proofs.YtbfpahigdpigpaaGreat.bf 29 w ab ae aa af ai cc
 rw [show (bL 29 w ab ae aa af ai cc)=true from hm] at c0
 have c1:= @Proofs.YtbfpahigdpigpaaGreat.aH 29
 have c2:= @Proofs.YtbfpahigdpigpaaGreat.aH 29
 have c3:= @Proofs.YtbfpahigdpigpaaGreat.aH 29
 have c4:= @Proofs.YtbfpahigdpigpaaGreat.aH 29
 let E1:EL:=([aw c0,tF,aO]++Zx 24 tF++([aw c1,tF,tF,aw c2,tF,aw c3,tF,aw c4,tF,tF,tF,tF,aO]++cr 10 960))
 by_cases h5:w=8
 ·subst h5
  exact (gr (d:=D.aL [D.bc lP.tight 1 [D.int aaY.u8 (aaY.wrap aaY.u8 (aaY.i64.wrap (112+aaY.wrap aaY.i64 cc))),D.int aaY.u8 (aaY.wrap aaY.u8 ai)],D.int aaY.i64 0]) (E1++ [tT])).to (by clear E1;((try simp only [gG]);subst_vars;(try simp only [aW] at*);(try simp only [cF] at h);(try simp only [bX,cJ] at*);simp_all [wk,a7,cH,aD,show aC 29=10 from rfl,bD,bp,bA,a8,bw,aX,dh];omega))
 have c6:= @Proofs.YtbfpahigdpigpaaGreat.dY ai
 exact (gr (d:=D.aL [D.bc (lP.fresh (1:Nat)) (1:Nat) [D.int aaY.u8 15,D.int aaY.u8 (aaY.wrap aaY.u8 (aaY.i64.wrap (128+aaY.wrap aaY.i64 cc))),D.int aaY.u8 (ai%256),D.int aaY.u8 (ai / 256%256),D.int aaY.u8 (ai / 65536%256),D.int aaY.u8 (ai / 16777216%256)],D.int aaY.i64 0]) (E1++ [tC (aR h5),tT,aw c6,bN 6])).to (by clear E1;((try simp only [gG]);subst_vars;(try simp only [aW] at*);(try simp only [cF] at h);(try simp only [bX,cJ] at*);simp_all [wk,a7,cH,aD,show aC 29=10 from rfl,bD,bp,bA,a8,bw,aX,dh];omega))
theorem w7:rH 30:=by
 intro w ab ae aa af ai cc d0 d1 s0 s1 b0 b1 p0 p1 i0 i1 c0 c1 hm
 have c0:= @Proofs.YtbfpahigdpigpaaGreat.bf 30 w ab ae aa af ai cc
 rw [show (bL 30 w ab ae aa af ai cc)=true from hm] at c0
 have c1:= @Proofs.YtbfpahigdpigpaaGreat.aH 30
 have c2:= @Proofs.YtbfpahigdpigpaaGreat.aH 30
 have c3:= @Proofs.YtbfpahigdpigpaaGreat.aH 30
 have c4:= @Proofs.YtbfpahigdpigpaaGreat.aH 30
 exact (gr (d:=D.aL [D.bc lP.tight 1 [D.int aaY.u8 195],D.int aaY.i64 0]) ([aw c0,tF,aO]++Zx 24 tF++ [aw c1,tF,tF,aw c2,tF,aw c3,tF,aw c4,tF,tF,tF,tF,aO]++Zx 12 tF++ [tT])).to (by ((try simp only [gG]);subst_vars;(try simp only [aW] at*);(try simp only [cF] at h);(try simp only [bX,cJ] at*);simp_all [wk,a7,cH,aD,show aC 30=11 from rfl,bD,bp,bA,a8,bw,aX,dh];done))
theorem w6:rH 31:=by
 intro w ab ae aa af ai cc d0 d1 s0 s1 b0 b1 p0 p1 i0 i1 c0 c1 hm
 have c0:= @Proofs.YtbfpahigdpigpaaGreat.bf 31 w ab ae aa af ai cc
 rw [show (bL 31 w ab ae aa af ai cc)=true from hm] at c0
 have c1:= @Proofs.YtbfpahigdpigpaaGreat.aH 31
 have c2:= @Proofs.YtbfpahigdpigpaaGreat.aH 31
 have c3:= @Proofs.YtbfpahigdpigpaaGreat.aH 31
 have c4:= @Proofs.YtbfpahigdpigpaaGreat.aH 31
 exact (gr (d:=D.aL [D.bc lP.tight 1 [D.int aaY.u8 15,D.int aaY.u8 5],D.int aaY.i64 0]) ([aw c0,tF,aO]++Zx 24 tF++ [aw c1,tF,tF,aw c2,tF,aw c3,tF,aw c4,tF,tF,tF,tF,aO]++Zx 13 tF)).to (by ((try simp only [gG]);subst_vars;(try simp only [aW] at*);(try simp only [cF] at h);(try simp only [bX,cJ] at*);simp_all [wk,a7,cH,aD,show aC 31=11 from rfl,bD,bp,bA,a8,bw,aX,dh];done))
theorem w5 (op w ab ae aa af ai cc:Int) (ho:op≤127) (hm:bL op w ab ae aa af ai cc=false):aQ Zy 42 ([xD op w ab ae aa af ai cc]) (.aL [bj 1 [],aq 2]):=by
 have c0:= @Proofs.YtbfpahigdpigpaaGreat.bf op w ab ae aa af ai cc
 rw [show (bL op w ab ae aa af ai cc)=false from hm] at c0
 exact (gr (d:=D.aL [D.bc lP.tight 0 [],D.int aaY.i64 2]) [aw c0,tT]).to (by simp [wk,a7,cH])
theorem Qx {w ab ae aa af ai cc:Int} (h:bL 1 w ab ae aa af ai cc=true):w=32∨w=64:=by
 have hs:=(dA h).2
 rw [show aC 1=3 from rfl] at hs
 exact ej (by simp [iK] at hs;exact hs.1)
theorem uq (op w ab ae aa af ai cc:Int) (hm:bL op w ab ae aa af ai cc=true):
  aQ Zy 42 [xD op w ab ae aa af ai cc] (.aL [bj 1 (bD (aD op w ab ae aa af ai cc)),aq 0]):=by
 obtain ⟨⟨d0,d1,s0,s1,b0,b1,p0,p1,i0,i1⟩,hs⟩:=dA hm
 obtain ⟨c0,c1⟩:=Fj hs
 rcases gY (Fi hm) with rfl|rfl|rfl|rfl|rfl|rfl|rfl|rfl|rfl|rfl|rfl|rfl|rfl|rfl|rfl|rfl|rfl|rfl|rfl|rfl|rfl|rfl|rfl|rfl|rfl|rfl|rfl|rfl|rfl|rfl|rfl|rfl
 ·exact Am _ _ _ _ _ _ _ d0 d1 s0 s1 b0 b1 p0 p1 i0 i1 c0 c1 hm
 ·exact Al _ _ _ _ _ _ _ d0 d1 s0 s1 b0 b1 p0 p1 i0 i1 c0 c1 (Qx hm) hm
 ·exact Ak _ _ _ _ _ _ _ d0 d1 s0 s1 b0 b1 p0 p1 i0 i1 c0 c1 hm
 ·exact Aj _ _ _ _ _ _ _ d0 d1 s0 s1 b0 b1 p0 p1 i0 i1 c0 c1 hm
 ·exact Ai _ _ _ _ _ _ _ d0 d1 s0 s1 b0 b1 p0 p1 i0 i1 c0 c1 hm
 ·exact Ah _ _ _ _ _ _ _ d0 d1 s0 s1 b0 b1 p0 p1 i0 i1 c0 c1 hm
 ·exact Ag _ _ _ _ _ _ _ d0 d1 s0 s1 b0 b1 p0 p1 i0 i1 c0 c1 hm
 ·exact Af _ _ _ _ _ _ _ d0 d1 s0 s1 b0 b1 p0 p1 i0 i1 c0 c1 hm
 ·exact Ae _ _ _ _ _ _ _ d0 d1 s0 s1 b0 b1 p0 p1 i0 i1 c0 c1 hm
 ·exact Ad _ _ _ _ _ _ _ d0 d1 s0 s1 b0 b1 p0 p1 i0 i1 c0 c1 hm
 ·exact xu _ _ _ _ _ _ _ d0 d1 s0 s1 b0 b1 p0 p1 i0 i1 c0 c1 hm
 ·exact xr _ _ _ _ _ _ _ d0 d1 s0 s1 b0 b1 p0 p1 i0 i1 c0 c1 hm
 ·exact xq _ _ _ _ _ _ _ d0 d1 s0 s1 b0 b1 p0 p1 i0 i1 c0 c1 hm
 ·exact xp _ _ _ _ _ _ _ d0 d1 s0 s1 b0 b1 p0 p1 i0 i1 c0 c1 hm
 ·exact xo _ _ _ _ _ _ _ d0 d1 s0 s1 b0 b1 p0 p1 i0 i1 c0 c1 hm
 ·exact xn _ _ _ _ _ _ _ d0 d1 s0 s1 b0 b1 p0 p1 i0 i1 c0 c1 hm
 ·exact xm _ _ _ _ _ _ _ d0 d1 s0 s1 b0 b1 p0 p1 i0 i1 c0 c1 hm
 ·exact xl _ _ _ _ _ _ _ d0 d1 s0 s1 b0 b1 p0 p1 i0 i1 c0 c1 hm
 ·exact xk _ _ _ _ _ _ _ d0 d1 s0 s1 b0 b1 p0 p1 i0 i1 c0 c1 hm
 ·exact xj _ _ _ _ _ _ _ d0 d1 s0 s1 b0 b1 p0 p1 i0 i1 c0 c1 hm
 ·exact xi _ _ _ _ _ _ _ d0 d1 s0 s1 b0 b1 p0 p1 i0 i1 c0 c1 hm
 ·exact xh _ _ _ _ _ _ _ d0 d1 s0 s1 b0 b1 p0 p1 i0 i1 c0 c1 hm
 ·exact xg _ _ _ _ _ _ _ d0 d1 s0 s1 b0 b1 p0 p1 i0 i1 c0 c1 hm
 ·exact xf _ _ _ _ _ _ _ d0 d1 s0 s1 b0 b1 p0 p1 i0 i1 c0 c1 hm
 ·exact xe _ _ _ _ _ _ _ d0 d1 s0 s1 b0 b1 p0 p1 i0 i1 c0 c1 hm
 ·exact xd _ _ _ _ _ _ _ d0 d1 s0 s1 b0 b1 p0 p1 i0 i1 c0 c1 hm
 ·exact xc _ _ _ _ _ _ _ d0 d1 s0 s1 b0 b1 p0 p1 i0 i1 c0 c1 hm
 ·exact xa _ _ _ _ _ _ _ d0 d1 s0 s1 b0 b1 p0 p1 i0 i1 c0 c1 hm
 ·exact w9 _ _ _ _ _ _ _ d0 d1 s0 s1 b0 b1 p0 p1 i0 i1 c0 c1 hm
 ·exact w8 _ _ _ _ _ _ _ d0 d1 s0 s1 b0 b1 p0 p1 i0 i1 c0 c1 hm
 ·exact w7 _ _ _ _ _ _ _ d0 d1 s0 s1 b0 b1 p0 p1 i0 i1 c0 c1 hm
 ·exact w6 _ _ _ _ _ _ _ d0 d1 s0 s1 b0 b1 p0 p1 i0 i1 c0 c1 hm
theorem nU (op w ab ae aa af ai cc:Int) (ho:op≤127):aQ Zy 42 [xD op w ab ae aa af ai cc] (.aL [bj 1 (mi op w ab ae aa af ai cc),aq (qm op w ab ae aa af ai cc)]):=by
 unfold mi qm
 cases h:bL op w ab ae aa af ai cc
 ·simp only [Bool.false_eq_true,if_false]
  exact w5 op w ab ae aa af ai cc ho h
 ·simp only [if_true]
  exact uq op w ab ae aa af ai cc h
theorem uK (w a b:Int) (hw:aP w=true):aQ Zy 93 ([ak 12,ak w,av a,av b]) (.aL [av (fB 12 w a b),aq 0]):=by
 have c0:= @gd w
 rw [show (aP w)=true from hw] at c0
 have c1:= @bu a w hw
 have c2:= @bu b w hw
 have c3:= @BJ (aJ a w) w hw
 have c4:= @bu (aaY.wrap aaY.u64 (Int.fdiv (aaY.i64.wrap (fg (aJ a w) w)) (2^min (Int.toNat (aaY.wrap aaY.u64 (↑(Zz (Zw (64:Nat) (aJ b w)&&&Zw (64:Nat) (aaY.wrap aaY.u64 (aaY.wrap aaY.i8 (w - 1))))):Int))) (64:Nat)))) w hw
 exact (L3 (d:= .aL [av (aJ (aaY.wrap aaY.u64 (Int.fdiv (aaY.i64.wrap (fg (aJ a w) w)) (2^min (Int.toNat (aaY.wrap aaY.u64 (↑(Zz (Zw (64:Nat) (aJ b w)&&&Zw (64:Nat) (aaY.wrap aaY.u64 (aaY.wrap aaY.i8 (w - 1))))):Int))) (64:Nat)))) w),aq 0]) ([tT,tT,tF,tT,tT,aw c0,tT,tF,tF,aw c1,aw c2]++Zx 10 tF++ [tT,aw c3,tT,aw c4])).to (by first|((simp only [wk,a7,eJ];repeat' (first|rfl|exact True.intro|apply And.intro));done)|(simp [wk,a7,fB,ua,u64, *];done))
theorem cV (op w ab ae aa af ai cc:Int) (ho:op≤127):aQ Zy 90 ([xD op w ab ae aa af ai cc]) (aq (ct op w ab ae aa af ai cc)):=by
 have c0:= @nU op w ab ae aa af ai cc ho
 exact (SK (d:= .int .i64 (↑(List.length (mi op w ab ae aa af ai cc)):Int)) [aw c0]).to (by simp [wk,ct])
theorem B6 (m:au) (w ab ae aa af ai cc ld:Int) (d0:0≤ab) (d1:ab≤15) (s0:0≤ae) (s1:ae≤15) (b0:0≤aa) (b1:aa≤15) (hm:bL 2 w ab ae aa af ai cc=true) (hw:aP w=true):aQ Zy 57 ([m.d,xD 2 w ab ae aa af ai cc,av ld]) (.aL [(gF (m.at (u64 (m.pc+u64 (ct 2 w ab ae aa af ai cc)))) ⟨2,w,ab,ae,aa,af,ai,cc⟩ ld).1.d,aq 0]):=by
 have c0:= @bf 2 w ab ae aa af ai cc
 rw [show (bL 2 w ab ae aa af ai cc)=true from hm] at c0
 have c1:= @cV 2 w ab ae aa af ai cc (by decide)
 have c2:= @aH 2
 have c3:= @Ac w (rg (au.rl m) ab) (rg (au.rl m) ae) hw
 have c4:= @dW
 have c5:= @EI w (rg (au.rl m) ab) (rg (au.rl m) ae) hw
 exact (lR (d:= .aL [(gF (m.at (u64 (m.pc+u64 (ct 2 w ab ae aa af ai cc)))) ⟨2,w,ab,ae,aa,af,ai,cc⟩ ld).1.d,aq 0]) ([aw c0,tF,aw c1,aO,tT,tT,tT,.cM _ true (cz d0 d1),.get _ _ _ (@bl m ab ((fT m (dp m 2 w ab ae aa af ai cc) [])) d0 d1),aO,aw c2,tF,tF,tF,.cM _ true (cz s0 s1),.get _ _ _ (@bl m ae ((fT m (dp m 2 w ab ae aa af ai cc) [])) s0 s1),.aV [(0,aA (au.cw m (dp m 2 w ab ae aa af ai cc) [])),(1,aA [ak 2,ak w,ak ab,ak ae,ak aa,aq af,aq ai,ak cc]),(2,aA zC)],aw c3,aO,aw c4,tT,aw c5]++Zx 13 tT++ [.cM _ true (cz d0 d1),.eU _ _ _ _ (@bV m ab (fB 0 w (rg (au.rl m) ab) (rg (au.rl m) ae)) ([ax true,ax (yA w (rg (au.rl m) ab) (rg (au.rl m) ae)),ax (aJ (u64 (rg (au.rl m) ab+rg (au.rl m) ae)) w==0),ax (fL (u64 (rg (au.rl m) ab+rg (au.rl m) ae)) w),ax (yz w (rg (au.rl m) ab) (rg (au.rl m) ae)),av (dp m 2 w ab ae aa af ai cc)]) d0 d1)]) (by kernel_rfl))
def oG (Tz:Int):Prop:= ∀(m:au) (w ab ae aa af ai cc ld:Int) (d0:0≤ab) (d1:ab≤15) (s0:0≤ae) (s1:ae≤15) (b0:0≤aa) (b1:aa≤15) (hm:bL Tz w ab ae aa af ai cc=true) (hw:aP w=true),aQ Zy 57 ([m.d,xD Tz w ab ae aa af ai cc,av ld]) (.aL [(gF (m.at (u64 (m.pc+u64 (ct Tz w ab ae aa af ai cc)))) ⟨Tz,w,ab,ae,aa,af,ai,cc⟩ ld).1.d,aq 0])
theorem B5:oG 3:=by
 intro m w ab ae aa af ai cc ld d0 d1 s0 s1 b0 b1 hm hw
 have c0:= @bf 3 w ab ae aa af ai cc
 rw [hm] at c0
 have c1:= @cV 3 w ab ae aa af ai cc (by decide)
 have c2:= @aH 3
 have c3:= @Ab w (rg (au.rl m) ab) (rg (au.rl m) ae) hw
 have c4:= @dW
 have c5:= @mS w (fB 4 w (rg (au.rl m) ab) (rg (au.rl m) ae)) hw
 exact (lR (d:= .aL [(gF (m.at (u64 (m.pc+u64 (ct 3 w ab ae aa af ai cc)))) ⟨3,w,ab,ae,aa,af,ai,cc⟩ ld).1.d,aq 0]) ([aw c0,tF,aw c1,aO,tF,tF,tT,tT,tT,.cM _ true (cz d0 d1),.get _ _ _ (@bl m ab ((fT m (dp m 3 w ab ae aa af ai cc) [])) d0 d1),aO,aw c2,tF,tF,tF,.cM _ true (cz s0 s1),.get _ _ _ (@bl m ae ((fT m (dp m 3 w ab ae aa af ai cc) [])) s0 s1),.aV [(0,aA (au.cw m (dp m 3 w ab ae aa af ai cc) [])),(1,aA [ak 3,ak w,ak ab,ak ae,ak aa,aq af,aq ai,ak cc]),(2,aA zC)],aw c3,aO,aw c4,tF,tF,tT,tT,aw c5]++Zx 13 tT++ [.cM _ true (cz d0 d1),.eU _ _ _ _ (@bV m ab (fB 4 w (rg (au.rl m) ab) (rg (au.rl m) ae)) ([ax true,ax false,ax (aJ (fB 4 w (rg (au.rl m) ab) (rg (au.rl m) ae)) w==0),ax (fL (fB 4 w (rg (au.rl m) ab) (rg (au.rl m) ae)) w),ax false,av (dp m 3 w ab ae aa af ai cc)]) d0 d1)]) (by kernel_rfl))
theorem B4:oG 4:=by
 intro m w ab ae aa af ai cc ld d0 d1 s0 s1 b0 b1 hm hw
 have c0:= @bf 4 w ab ae aa af ai cc
 rw [hm] at c0
 have c1:= @cV 4 w ab ae aa af ai cc (by decide)
 have c2:= @aH 4
 have c3:= @pb w (rg (au.rl m) ab) (rg (au.rl m) ae) hw
 have c4:= @dW
 have c5:= @mS w (fB 5 w (rg (au.rl m) ab) (rg (au.rl m) ae)) hw
 exact (lR (d:= .aL [(gF (m.at (u64 (m.pc+u64 (ct 4 w ab ae aa af ai cc)))) ⟨4,w,ab,ae,aa,af,ai,cc⟩ ld).1.d,aq 0]) ([aw c0,tF,aw c1,aO,tF,tF,tF,tF,tT,tT,tT,.cM _ true (cz d0 d1),.get _ _ _ (@bl m ab ((fT m (dp m 4 w ab ae aa af ai cc) [])) d0 d1),aO,aw c2,tF,tF,tF,.cM _ true (cz s0 s1),.get _ _ _ (@bl m ae ((fT m (dp m 4 w ab ae aa af ai cc) [])) s0 s1),.aV [(0,aA (au.cw m (dp m 4 w ab ae aa af ai cc) [])),(1,aA [ak 4,ak w,ak ab,ak ae,ak aa,aq af,aq ai,ak cc]),(2,aA zC)],aw c3,aO,aw c4,tF,tF,tF,tT,tT,aw c5]++Zx 13 tT++ [.cM _ true (cz d0 d1),.eU _ _ _ _ (@bV m ab (fB 5 w (rg (au.rl m) ab) (rg (au.rl m) ae)) ([ax true,ax false,ax (aJ (fB 5 w (rg (au.rl m) ab) (rg (au.rl m) ae)) w==0),ax (fL (fB 5 w (rg (au.rl m) ab) (rg (au.rl m) ae)) w),ax false,av (dp m 4 w ab ae aa af ai cc)]) d0 d1)]) (by kernel_rfl))
theorem B3:oG 5:=by
 intro m w ab ae aa af ai cc ld d0 d1 s0 s1 b0 b1 hm hw
 have c0:= @bf 5 w ab ae aa af ai cc
 rw [hm] at c0
 have c1:= @cV 5 w ab ae aa af ai cc (by decide)
 have c2:= @aH 5
 have c3:= @pe w (rg (au.rl m) ab) (rg (au.rl m) ae) hw
 have c4:= @dW
 have c5:= @oW w (rg (au.rl m) ab) (rg (au.rl m) ae) hw
 exact (lR (d:= .aL [(gF (m.at (u64 (m.pc+u64 (ct 5 w ab ae aa af ai cc)))) ⟨5,w,ab,ae,aa,af,ai,cc⟩ ld).1.d,aq 0]) ([aw c0,tF,aw c1,aO]++Zx 8 tF++ [tT,tT,tT,.cM _ true (cz d0 d1),.get _ _ _ (@bl m ab ((fT m (dp m 5 w ab ae aa af ai cc) [])) d0 d1),aO,aw c2,tF,tF,tF,.cM _ true (cz s0 s1),.get _ _ _ (@bl m ae ((fT m (dp m 5 w ab ae aa af ai cc) [])) s0 s1),.aV [(0,aA (au.cw m (dp m 5 w ab ae aa af ai cc) [])),(1,aA [ak 5,ak w,ak ab,ak ae,ak aa,aq af,aq ai,ak cc]),(2,aA zC)],aw c3,aO,aw c4,tF,tT,aw c5]++Zx 13 tT++ [.cM _ true (cz d0 d1),.eU _ _ _ _ (@bV m ab (fB 1 w (rg (au.rl m) ab) (rg (au.rl m) ae)) ([ax true,ax (rY w (rg (au.rl m) ab) (rg (au.rl m) ae)),ax (aJ (u64 (rg (au.rl m) ab - rg (au.rl m) ae)) w==0),ax (fL (u64 (rg (au.rl m) ab - rg (au.rl m) ae)) w),ax (rX w (rg (au.rl m) ab) (rg (au.rl m) ae)),av (dp m 5 w ab ae aa af ai cc)]) d0 d1)]) (by kernel_rfl))
theorem B2:oG 6:=by
 intro m w ab ae aa af ai cc ld d0 d1 s0 s1 b0 b1 hm hw
 have c0:= @bf 6 w ab ae aa af ai cc
 rw [hm] at c0
 have c1:= @cV 6 w ab ae aa af ai cc (by decide)
 have c2:= @aH 6
 have c3:= @uL w (rg (au.rl m) ab) (rg (au.rl m) ae) hw
 have c4:= @dW
 have c5:= @mS w (fB 10 w (rg (au.rl m) ab) (rg (au.rl m) ae)) hw
 exact (lR (d:= .aL [(gF (m.at (u64 (m.pc+u64 (ct 6 w ab ae aa af ai cc)))) ⟨6,w,ab,ae,aa,af,ai,cc⟩ ld).1.d,aq 0]) ([aw c0,tF,aw c1,aO]++Zx 12 tF++ [tT,tT,tT,.cM _ true (cz d0 d1),.get _ _ _ (@bl m ab ((fT m (dp m 6 w ab ae aa af ai cc) [])) d0 d1),aO,aw c2,tF,tF,tF,.cM _ true (cz s0 s1),.get _ _ _ (@bl m ae ((fT m (dp m 6 w ab ae aa af ai cc) [])) s0 s1),.aV [(0,aA (au.cw m (dp m 6 w ab ae aa af ai cc) [])),(1,aA [ak 6,ak w,ak ab,ak ae,ak aa,aq af,aq ai,ak cc]),(2,aA zC)],aw c3,aO,aw c4,tF,tF,tF,tF,tT,aw c5]++Zx 13 tT++ [.cM _ true (cz d0 d1),.eU _ _ _ _ (@bV m ab (fB 10 w (rg (au.rl m) ab) (rg (au.rl m) ae)) ([ax true,ax false,ax (aJ (fB 10 w (rg (au.rl m) ab) (rg (au.rl m) ae)) w==0),ax (fL (fB 10 w (rg (au.rl m) ab) (rg (au.rl m) ae)) w),ax false,av (dp m 6 w ab ae aa af ai cc)]) d0 d1)]) (by kernel_rfl))
theorem B1:oG 7:=by
 intro m w ab ae aa af ai cc ld d0 d1 s0 s1 b0 b1 hm hw
 have c0:= @bf 7 w ab ae aa af ai cc
 rw [hm] at c0
 have c1:= @cV 7 w ab ae aa af ai cc (by decide)
 have c2:= @aH 7
 have c3:= @pe w (rg (au.rl m) ab) (rg (au.rl m) ae) hw
 have c4:= @dW
 have c5:= @oW w (rg (au.rl m) ab) (rg (au.rl m) ae) hw
 exact (lR (d:= .aL [(gF (m.at (u64 (m.pc+u64 (ct 7 w ab ae aa af ai cc)))) ⟨7,w,ab,ae,aa,af,ai,cc⟩ ld).1.d,aq 0]) ([aw c0,tF,aw c1,aO]++Zx 10 tF++ [tT,tT,tT,.cM _ true (cz d0 d1),.get _ _ _ (@bl m ab ((fT m (dp m 7 w ab ae aa af ai cc) [])) d0 d1),aO,aw c2,tF,tF,tF,.cM _ true (cz s0 s1),.get _ _ _ (@bl m ae ((fT m (dp m 7 w ab ae aa af ai cc) [])) s0 s1),.aV [(0,aA (au.cw m (dp m 7 w ab ae aa af ai cc) [])),(1,aA [ak 7,ak w,ak ab,ak ae,ak aa,aq af,aq ai,ak cc]),(2,aA zC)],aw c3,aO,aw c4,tF,tT,aw c5]++Zx 13 tF) (by kernel_rfl))
theorem B0:oG 8:=by
 intro m w ab ae aa af ai cc ld d0 d1 s0 s1 b0 b1 hm hw
 have c0:= @bf 8 w ab ae aa af ai cc
 rw [hm] at c0
 have c1:= @cV 8 w ab ae aa af ai cc (by decide)
 have c2:= @aH 8
 have c3:= @pb w (rg (au.rl m) ab) (rg (au.rl m) ae) hw
 have c4:= @dW
 have c5:= @mS w (fB 5 w (rg (au.rl m) ab) (rg (au.rl m) ae)) hw
 exact (lR (d:= .aL [(gF (m.at (u64 (m.pc+u64 (ct 8 w ab ae aa af ai cc)))) ⟨8,w,ab,ae,aa,af,ai,cc⟩ ld).1.d,aq 0]) (([aw c0,tF,aw c1,aO]++cr 9 448++ [.cM _ true (cz d0 d1),.get _ _ _ (@bl m ab ((fT m (dp m 8 w ab ae aa af ai cc) [])) d0 d1),aO,aw c2,tF,tF,tF,.cM _ true (cz s0 s1),.get _ _ _ (@bl m ae ((fT m (dp m 8 w ab ae aa af ai cc) [])) s0 s1),.aV [(0,aA (au.cw m (dp m 8 w ab ae aa af ai cc) [])),(1,aA [ak 8,ak w,ak ab,ak ae,ak aa,aq af,aq ai,ak cc]),(2,aA zC)],aw c3,aO,aw c4,tF,tF,tF,tT,tT,aw c5])++Zx 8 tT++ [tF,tF,tF,tF,tF]) (by kernel_rfl))
theorem zO:oG 12:=by
 intro m w ab ae aa af ai cc ld d0 d1 s0 s1 b0 b1 hm hw
 have c0:= @bf 12 w ab ae aa af ai cc
 rw [hm] at c0
 have c1:= @cV 12 w ab ae aa af ai cc (by decide)
 have c2:= @aH 12
 have c3:= @pe w (rg (au.rl m) ab) (aaY.wrap aaY.u64 ai) hw
 have c4:= @dW
 have c5:= @oW w (rg (au.rl m) ab) (aaY.wrap aaY.u64 ai) hw
 exact (lR (d:= .aL [(gF (m.at (u64 (m.pc+u64 (ct 12 w ab ae aa af ai cc)))) ⟨12,w,ab,ae,aa,af,ai,cc⟩ ld).1.d,aq 0]) ([aw c0,tF,aw c1,aO]++Zx 9 tF++ [tT,tT,tT,.cM _ true (cz d0 d1),.get _ _ _ (@bl m ab ((fT m (dp m 12 w ab ae aa af ai cc) [])) d0 d1),aO,aw c2,tT,tT,.aV [(0,aA (au.cw m (dp m 12 w ab ae aa af ai cc) [])),(1,aA [ak 12,ak w,ak ab,ak ae,ak aa,aq af,aq ai,ak cc]),(2,aA zC)],aw c3,aO,aw c4,tF,tT,aw c5]++Zx 13 tT++ [.cM _ true (cz d0 d1),.eU _ _ _ _ (@bV m ab (fB 1 w (rg (au.rl m) ab) (aaY.wrap aaY.u64 ai)) ([ax true,ax (rY w (rg (au.rl m) ab) (aaY.wrap aaY.u64 ai)),ax (aJ (u64 (rg (au.rl m) ab - aaY.wrap aaY.u64 ai)) w==0),ax (fL (u64 (rg (au.rl m) ab - aaY.wrap aaY.u64 ai)) w),ax (rX w (rg (au.rl m) ab) (aaY.wrap aaY.u64 ai)),av (dp m 12 w ab ae aa af ai cc)]) d0 d1)]) (by kernel_rfl))
end Go.Proofs.YtbfpahigdpigpaaGreat
