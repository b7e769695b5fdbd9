import Derived.Test.YtbfpahigdpigpaaGreatV08
import Derived.Test.YtbfpahigdpigpaaGreatV13
import Derived.Test.YtbfpahigdpigpaaGreatV14
import Derived.Test.YtbfpahigdpigpaaGreatV15
import Derived.Test.YtbfpahigdpigpaaGreatV16
open BitVec renaming ofInt→Zw
open List renaming replicate→Zx,length→ZA,getD_eq_getElem?_getD→ZF,range→ZL
open Go.Proofs.Tryz renaming prog→Zy
open Bool renaming and_eq_true→ZD,or_eq_true→ZV,not_eq_true'→Z8,not_eq_false'→aai
open Int renaming not_lt→ZH,toNat→ZJ,fdiv_eq_ediv_of_nonneg→Z9
open And renaming intro→ZI
open True renaming intro→ZX
open Go renaming IntKind→aaY
/- Contracts and plain laws that a statement's proof leans on (texts merged:R1c,R1d,ZEe,R1f,ZESM,DAD,DMA0,DMA,DMB,DMC,DN1,DMD,XQ1,XQ1A,XQ2,XQ2A,XQN). -/
set_option linter.unusedVariables false
set_option linter.unusedSimpArgs false
set_option maxRecDepth 100000
set_option maxHeartbeats 8000000
namespace Go.Proofs.YtbfpahigdpigpaaGreat
open Go Go.Ev
def oE (Tz:Int):Prop:= ∀(m:au) (w ab ae aa af ai cc ld:Int) (d0:0≤ab) (d1:ab≤15) (s0:0≤ae) (s1:ae≤15) (b0:0≤aa) (b1:aa≤15) (hm:bL Tz w ab ae aa af ai cc=true) (hw:aP w=true),aQ Zy 57 ([m.d,xD Tz w ab ae aa af ai cc,av ld]) (.aL [(gF (m.at (u64 (m.pc+u64 (ct Tz w ab ae aa af ai cc)))) ⟨Tz,w,ab,ae,aa,af,ai,cc⟩ ld).1.d,aq 0])
theorem zJ:oE 17:=by
 intro m w ab ae aa af ai cc ld d0 d1 s0 s1 b0 b1 hm hw
 have c0:= @bf 17 w ab ae aa af ai cc
 rw [hm] at c0
 have c1:= @cV 17 w ab ae aa af ai cc (by decide)
 have c2:= @aH 17
 have c3:= @Aa w (rg (au.rl m) ab) (aaY.wrap aaY.u64 ai) hw
 have c4:= @dW
 exact (lR (d:= .aL [(gF (m.at (u64 (m.pc+u64 (ct 17 w ab ae aa af ai cc)))) ⟨17,w,ab,ae,aa,af,ai,cc⟩ ld).1.d,aq 0]) ([aw c0,tF,aw c1,aO]++Zx 15 tF++ [tT,tT,tT,.cM _ true (cz d0 d1),.get _ _ _ (@bl m ab ((fT m (dp m 17 w ab ae aa af ai cc) [])) d0 d1),aO,aw c2,tF,tT,.aV [(0,aA (au.cw m (dp m 17 w ab ae aa af ai cc) [])),(1,aA [ak 17,ak w,ak ab,ak ae,ak aa,aq af,aq ai,ak cc]),(2,aA zC)],aw c3,aO,aw c4,tF,tF,tF,tF,tF]++Zx 13 tT++ [.cM _ true (cz d0 d1),.eU _ _ _ _ (@bV m ab (fB 6 w (rg (au.rl m) ab) (aaY.wrap aaY.u64 ai)) ([ax false,ax false,ax false,ax false,ax false,av (dp m 17 w ab ae aa af ai cc)]) d0 d1)]) (by kernel_rfl))
theorem zI:oE 18:=by
 intro m w ab ae aa af ai cc ld d0 d1 s0 s1 b0 b1 hm hw
 have c0:= @bf 18 w ab ae aa af ai cc
 rw [hm] at c0
 have c1:= @cV 18 w ab ae aa af ai cc (by decide)
 have c2:= @aH 18
 have c3:= @z7 w (rg (au.rl m) ab) (aaY.wrap aaY.u64 ai) hw
 have c4:= @dW
 exact (lR (d:= .aL [(gF (m.at (u64 (m.pc+u64 (ct 18 w ab ae aa af ai cc)))) ⟨18,w,ab,ae,aa,af,ai,cc⟩ ld).1.d,aq 0]) ([aw c0,tF,aw c1,aO]++Zx 17 tF++ [tT,tT,tT,.cM _ true (cz d0 d1),.get _ _ _ (@bl m ab ((fT m (dp m 18 w ab ae aa af ai cc) [])) d0 d1),aO,aw c2,tF,tT,.aV [(0,aA (au.cw m (dp m 18 w ab ae aa af ai cc) [])),(1,aA [ak 18,ak w,ak ab,ak ae,ak aa,aq af,aq ai,ak cc]),(2,aA zC)],aw c3,aO,aw c4,tF,tF,tF,tF,tF]++Zx 13 tT++ [.cM _ true (cz d0 d1),.eU _ _ _ _ (@bV m ab (fB 7 w (rg (au.rl m) ab) (aaY.wrap aaY.u64 ai)) ([ax false,ax false,ax false,ax false,ax false,av (dp m 18 w ab ae aa af ai cc)]) d0 d1)]) (by kernel_rfl))
theorem zH:oE 19:=by
 intro m w ab ae aa af ai cc ld d0 d1 s0 s1 b0 b1 hm hw
 have c0:= @bf 19 w ab ae aa af ai cc
 rw [hm] at c0
 have c1:= @cV 19 w ab ae aa af ai cc (by decide)
 have c2:= @aH 19
 have c3:= @uK w (rg (au.rl m) ab) (aaY.wrap aaY.u64 ai) hw
 have c4:= @dW
 exact (lR (d:= .aL [(gF (m.at (u64 (m.pc+u64 (ct 19 w ab ae aa af ai cc)))) ⟨19,w,ab,ae,aa,af,ai,cc⟩ ld).1.d,aq 0]) ([aw c0,tF,aw c1,aO]++Zx 19 tF++ [tT,tT,tT,.cM _ true (cz d0 d1),.get _ _ _ (@bl m ab ((fT m (dp m 19 w ab ae aa af ai cc) [])) d0 d1),aO,aw c2,tF,tT,.aV [(0,aA (au.cw m (dp m 19 w ab ae aa af ai cc) [])),(1,aA [ak 19,ak w,ak ab,ak ae,ak aa,aq af,aq ai,ak cc]),(2,aA zC)],aw c3,aO,aw c4,tF,tF,tF,tF,tF]++Zx 13 tT++ [.cM _ true (cz d0 d1),.eU _ _ _ _ (@bV m ab (fB 12 w (rg (au.rl m) ab) (aaY.wrap aaY.u64 ai)) ([ax false,ax false,ax false,ax false,ax false,av (dp m 19 w ab ae aa af ai cc)]) d0 d1)]) (by kernel_rfl))
theorem zG:oE 20:=by
 intro m w ab ae aa af ai cc ld d0 d1 s0 s1 b0 b1 hm hw
 have c0:= @bf 20 w ab ae aa af ai cc
 rw [hm] at c0
 have c1:= @cV 20 w ab ae aa af ai cc (by decide)
 have c2:= @aH 20
 have c3:= @Aa w (rg (au.rl m) ab) (au.q1 m) hw
 have c4:= @dW
 exact (lR (d:= .aL [(gF (m.at (u64 (m.pc+u64 (ct 20 w ab ae aa af ai cc)))) ⟨20,w,ab,ae,aa,af,ai,cc⟩ ld).1.d,aq 0]) ([aw c0,tF,aw c1,aO]++Zx 16 tF++ [tT,tT,.cM _ true (cz d0 d1),.get _ _ _ (@bl m ab ((fT m (dp m 20 w ab ae aa af ai cc) [])) d0 d1),aO,aw c2,tF,tF,tT,.aV [(0,aA (au.cw m (dp m 20 w ab ae aa af ai cc) [])),(1,aA [ak 20,ak w,ak ab,ak ae,ak aa,aq af,aq ai,ak cc]),(2,aA zC)],aw c3,aO,aw c4,tF,tF,tF,tF,tF]++Zx 13 tT++ [.cM _ true (cz d0 d1),.eU _ _ _ _ (@bV m ab (fB 6 w (rg (au.rl m) ab) (au.q1 m)) ([ax false,ax false,ax false,ax false,ax false,av (dp m 20 w ab ae aa af ai cc)]) d0 d1)]) (by kernel_rfl))
theorem zF:oE 21:=by
 intro m w ab ae aa af ai cc ld d0 d1 s0 s1 b0 b1 hm hw
 have c0:= @bf 21 w ab ae aa af ai cc
 rw [hm] at c0
 have c1:= @cV 21 w ab ae aa af ai cc (by decide)
 have c2:= @aH 21
 have c3:= @z7 w (rg (au.rl m) ab) (au.q1 m) hw
 have c4:= @dW
 exact (lR (d:= .aL [(gF (m.at (u64 (m.pc+u64 (ct 21 w ab ae aa af ai cc)))) ⟨21,w,ab,ae,aa,af,ai,cc⟩ ld).1.d,aq 0]) ([aw c0,tF,aw c1,aO]++Zx 18 tF++ [tT,tT,.cM _ true (cz d0 d1),.get _ _ _ (@bl m ab ((fT m (dp m 21 w ab ae aa af ai cc) [])) d0 d1),aO,aw c2,tF,tF,tT,.aV [(0,aA (au.cw m (dp m 21 w ab ae aa af ai cc) [])),(1,aA [ak 21,ak w,ak ab,ak ae,ak aa,aq af,aq ai,ak cc]),(2,aA zC)],aw c3,aO,aw c4,tF,tF,tF,tF,tF]++Zx 13 tT++ [.cM _ true (cz d0 d1),.eU _ _ _ _ (@bV m ab (fB 7 w (rg (au.rl m) ab) (au.q1 m)) ([ax false,ax false,ax false,ax false,ax false,av (dp m 21 w ab ae aa af ai cc)]) d0 d1)]) (by kernel_rfl))
theorem zE:oE 22:=by
 intro m w ab ae aa af ai cc ld d0 d1 s0 s1 b0 b1 hm hw
 have c0:= @bf 22 w ab ae aa af ai cc
 rw [hm] at c0
 have c1:= @cV 22 w ab ae aa af ai cc (by decide)
 have c2:= @aH 22
 have c3:= @uK w (rg (au.rl m) ab) (au.q1 m) hw
 have c4:= @dW
 exact (lR (d:= .aL [(gF (m.at (u64 (m.pc+u64 (ct 22 w ab ae aa af ai cc)))) ⟨22,w,ab,ae,aa,af,ai,cc⟩ ld).1.d,aq 0]) ([aw c0,tF,aw c1,aO]++Zx 20 tF++ [tT,tT,.cM _ true (cz d0 d1),.get _ _ _ (@bl m ab ((fT m (dp m 22 w ab ae aa af ai cc) [])) d0 d1),aO,aw c2,tF,tF,tT,.aV [(0,aA (au.cw m (dp m 22 w ab ae aa af ai cc) [])),(1,aA [ak 22,ak w,ak ab,ak ae,ak aa,aq af,aq ai,ak cc]),(2,aA zC)],aw c3,aO,aw c4,tF,tF,tF,tF,tF]++Zx 13 tT++ [.cM _ true (cz d0 d1),.eU _ _ _ _ (@bV m ab (fB 12 w (rg (au.rl m) ab) (au.q1 m)) ([ax false,ax false,ax false,ax false,ax false,av (dp m 22 w ab ae aa af ai cc)]) d0 d1)]) (by kernel_rfl))
theorem zD:oE 23:=by
 intro m w ab ae aa af ai cc ld d0 d1 s0 s1 b0 b1 hm hw
 have c0:= @bf 23 w ab ae aa af ai cc
 rw [hm] at c0
 have c1:= @cV 23 w ab ae aa af ai cc (by decide)
 have c2:= @JU w (rg (au.rl m) ab) 0 hw
 have c3:= @oW w 0 (rg (au.rl m) ab) hw
 exact (lR (d:= .aL [(gF (m.at (u64 (m.pc+u64 (ct 23 w ab ae aa af ai cc)))) ⟨23,w,ab,ae,aa,af,ai,cc⟩ ld).1.d,aq 0]) ([aw c0,tF,aw c1,aO]++Zx 24 tF++ [tT,.cM _ true (cz d0 d1),.get _ _ _ (@bl m ab ((fT m (dp m 23 w ab ae aa af ai cc) [])) d0 d1),aw c2,aw c3,.cM _ true (cz d0 d1),.eU _ _ _ _ (@bV m ab (fB 8 w (rg (au.rl m) ab) 0) ((fT m (dp m 23 w ab ae aa af ai cc) [])) d0 d1)]) (by kernel_rfl))
theorem B8 (m:au) (w ab ae aa af ai cc ld:Int) (d0:0≤ab) (d1:ab≤15) (s0:0≤ae) (s1:ae≤15) (b0:0≤aa) (b1:aa≤15) (hm:bL 0 w ab ae aa af ai cc=true) (hw:aP w=true):aQ Zy 57 ([m.d,xD 0 w ab ae aa af ai cc,av ld]) (.aL [(gF (m.at (u64 (m.pc+u64 (ct 0 w ab ae aa af ai cc)))) ⟨0,w,ab,ae,aa,af,ai,cc⟩ ld).1.d,aq 0]):=by
 have c0:= @bf 0 w ab ae aa af ai cc
 rw [show (bL 0 w ab ae aa af ai cc)=true from hm] at c0
 have c1:= @cV 0 w ab ae aa af ai cc (by decide)
 have c2:= @bu (rg (au.rl m) ae) w hw
 exact (lR (d:= .aL [(gF (m.at (u64 (m.pc+u64 (ct 0 w ab ae aa af ai cc)))) ⟨0,w,ab,ae,aa,af,ai,cc⟩ ld).1.d,aq 0]) ([aw c0,tF,aw c1,aO]++Zx 22 tF++ [tT,.cM _ true (cz s0 s1),.get _ _ _ (@bl m ae ((fT m (dp m 0 w ab ae aa af ai cc) [])) s0 s1),aw c2,.cM _ true (cz d0 d1),.eU _ _ _ _ (@bV m ab (aJ (rg (au.rl m) ae) w) ((fT m (dp m 0 w ab ae aa af ai cc) [])) d0 d1)]) (by kernel_rfl))
theorem B7 (m:au) (w ab ae aa af ai cc ld:Int) (d0:0≤ab) (d1:ab≤15) (s0:0≤ae) (s1:ae≤15) (b0:0≤aa) (b1:aa≤15) (hm:bL 1 w ab ae aa af ai cc=true) (hw:aP w=true):aQ Zy 57 ([m.d,xD 1 w ab ae aa af ai cc,av ld]) (.aL [(gF (m.at (u64 (m.pc+u64 (ct 1 w ab ae aa af ai cc)))) ⟨1,w,ab,ae,aa,af,ai,cc⟩ ld).1.d,aq 0]):=by
 have c0:= @bf 1 w ab ae aa af ai cc
 rw [show (bL 1 w ab ae aa af ai cc)=true from hm] at c0
 have c1:= @cV 1 w ab ae aa af ai cc (by decide)
 have c2:= @bu (aaY.wrap aaY.u64 ai) w hw
 exact (lR (d:= .aL [(gF (m.at (u64 (m.pc+u64 (ct 1 w ab ae aa af ai cc)))) ⟨1,w,ab,ae,aa,af,ai,cc⟩ ld).1.d,aq 0]) ([aw c0,tF,aw c1,aO]++Zx 23 tF++ [tT,aw c2,.cM _ true (cz d0 d1),.eU _ _ _ _ (@bV m ab (aJ (aaY.wrap aaY.u64 ai) w) ((fT m (dp m 1 w ab ae aa af ai cc) [])) d0 d1)]) (by kernel_rfl))
theorem zy (m:au) (w ab ae aa af ai cc ld:Int) (d0:0≤ab) (d1:ab≤15) (s0:0≤ae) (s1:ae≤15) (b0:0≤aa) (b1:aa≤15) (hm:bL 26 w ab ae aa af ai cc=true) (hw:aU w=true):aQ Zy 57 ([m.d,xD 26 w ab ae aa af ai cc,av ld]) (.aL [(gF (m.at (u64 (m.pc+u64 (ct 26 w ab ae aa af ai cc)))) ⟨26,w,ab,ae,aa,af,ai,cc⟩ ld).1.d,aq 0]):=by
 have c0:= @bf 26 w ab ae aa af ai cc
 rw [show (bL 26 w ab ae aa af ai cc)=true from hm] at c0
 have c1:= @cV 26 w ab ae aa af ai cc (by decide)
 have c2:= @wY ld w hw
 exact (lR (d:= .aL [(gF (m.at (u64 (m.pc+u64 (ct 26 w ab ae aa af ai cc)))) ⟨26,w,ab,ae,aa,af,ai,cc⟩ ld).1.d,aq 0]) ([aw c0,tF,aw c1,aO]++Zx 28 tF++ [tT,aw c2,.cM _ true (cz d0 d1),.eU _ _ _ _ (@bV m ab (aJ ld w) ((fT m (dp m 26 w ab ae aa af ai cc) [])) d0 d1)]) (by kernel_rfl))
def yE (Tz:Int):Prop:= ∀(m:au) (w ab ae aa af ai cc ld:Int) (d0:0≤ab) (d1:ab≤15) (s0:0≤ae) (s1:ae≤15) (b0:0≤aa) (b1:aa≤15) (hm:bL Tz w ab ae aa af ai cc=true),aQ Zy 57 ([m.d,xD Tz w ab ae aa af ai cc,av ld]) (.aL [(gF (m.at (u64 (m.pc+u64 (ct Tz w ab ae aa af ai cc)))) ⟨Tz,w,ab,ae,aa,af,ai,cc⟩ ld).1.d,aq 0])
theorem zx:yE 27:=by
 intro m w ab ae aa af ai cc ld d0 d1 s0 s1 b0 b1 hm
 have c0:= @bf 27 w ab ae aa af ai cc
 rw [show (bL 27 w ab ae aa af ai cc)=true from hm] at c0
 have c1:= @cV 27 w ab ae aa af ai cc (by decide)
 exact (lR (d:= .aL [(gF (m.at (u64 (m.pc+u64 (ct 27 w ab ae aa af ai cc)))) ⟨27,w,ab,ae,aa,af,ai,cc⟩ ld).1.d,aq 0]) ([aw c0,tF,aw c1,aO]++Zx 32 tF) (by kernel_rfl))
theorem zw:yE 28:=by
 intro m w ab ae aa af ai cc ld d0 d1 s0 s1 b0 b1 hm
 have c0:= @bf 28 w ab ae aa af ai cc
 rw [show (bL 28 w ab ae aa af ai cc)=true from hm] at c0
 have c1:= @cV 28 w ab ae aa af ai cc (by decide)
 exact (lR (d:= .aL [(gF (m.at (u64 (m.pc+u64 (ct 28 w ab ae aa af ai cc)))) ⟨28,w,ab,ae,aa,af,ai,cc⟩ ld).1.d,aq 0]) ([aw c0,tF,aw c1,aO]++Zx 29 tF++ [tT]) (by kernel_rfl))
theorem zt:yE 30:=by
 intro m w ab ae aa af ai cc ld d0 d1 s0 s1 b0 b1 hm
 have c0:= @bf 30 w ab ae aa af ai cc
 rw [show (bL 30 w ab ae aa af ai cc)=true from hm] at c0
 have c1:= @cV 30 w ab ae aa af ai cc (by decide)
 exact (lR (d:= .aL [(gF (m.at (u64 (m.pc+u64 (ct 30 w ab ae aa af ai cc)))) ⟨30,w,ab,ae,aa,af,ai,cc⟩ ld).1.d,aq 0]) ([aw c0,tF,aw c1,aO]++Zx 30 tF++ [tT]) (by kernel_rfl))
theorem zs:yE 31:=by
 intro m w ab ae aa af ai cc ld d0 d1 s0 s1 b0 b1 hm
 have c0:= @bf 31 w ab ae aa af ai cc
 rw [show (bL 31 w ab ae aa af ai cc)=true from hm] at c0
 have c1:= @cV 31 w ab ae aa af ai cc (by decide)
 exact (lR (d:= .aL [(gF (m.at (u64 (m.pc+u64 (ct 31 w ab ae aa af ai cc)))) ⟨31,w,ab,ae,aa,af,ai,cc⟩ ld).1.d,aq 0]) ([aw c0,tF,aw c1,aO]++Zx 31 tF++ [tT]) (by kernel_rfl))
theorem zA (q0 q1 q2 q3 q4 q5 q6 q7 q8 q9 de dr dw du dt dn TE:Int) (fk fc fz fs fo:Bool) (w ab ae aa af ai cc ld:Int) (d0:0≤ab) (d1:ab≤15) (s0:0≤ae) (s1:ae≤15) (b0:0≤aa) (b1:aa≤15) (hm:bL 24 w ab ae aa af ai cc=true) (hw:aP w=true) (hd:(aJ (rg [q0,q1,q2,q3,q4,q5,q6,q7,q8,q9,de,dr,dw,du,dt,dn] ab) w==0)=false) (hz:(aJ q2 w==0)=true):aQ Zy 57 ([.agg [av q0,av q1,av q2,av q3,av q4,av q5,av q6,av q7,av q8,av q9,av de,av dr,av dw,av du,av dt,av dn,ax fk,ax fc,ax fz,ax fs,ax fo,av (TE)],xD 24 w ab ae aa af ai cc,av ld]) (.aL [.agg [av (u64 ((aJ q0 w).tdiv (aJ (rg [q0,q1,q2,q3,q4,q5,q6,q7,q8,q9,de,dr,dw,du,dt,dn] ab) w))),av q1,av ((aJ q0 w).tmod (aJ (rg [q0,q1,q2,q3,q4,q5,q6,q7,q8,q9,de,dr,dw,du,dt,dn] ab) w)),av q3,av q4,av q5,av q6,av q7,av q8,av q9,av de,av dr,av dw,av du,av dt,av dn,ax false,ax false,ax false,ax false,ax false,av (u64 (TE+u64 (ct 24 w ab ae aa af ai cc)))],aq 0]):=by
 have c0:= @bf 24 w ab ae aa af ai cc
 rw [hm] at c0
 have c1:= @cV 24 w ab ae aa af ai cc (by decide)
 have c2:= @bu (rg [q0,q1,q2,q3,q4,q5,q6,q7,q8,q9,de,dr,dw,du,dt,dn] ab) w hw
 have c3:= @bu q2 w hw
 have c4:= @bu q0 w hw
 have c5:= @dW
 exact (lR (d:= .aL [.agg [av (aaY.wrap aaY.u64 (Int.tdiv (aJ q0 w) (aJ (rg [q0,q1,q2,q3,q4,q5,q6,q7,q8,q9,de,dr,dw,du,dt,dn] ab) w))),av q1,av (Int.tmod (aJ q0 w) (aJ (rg [q0,q1,q2,q3,q4,q5,q6,q7,q8,q9,de,dr,dw,du,dt,dn] ab) w)),av q3,av q4,av q5,av q6,av q7,av q8,av q9,av de,av dr,av dw,av du,av dt,av dn,ax false,ax false,ax false,ax false,ax false,av (aaY.wrap aaY.u64 (TE+aaY.wrap aaY.u64 (ct 24 w ab ae aa af ai cc)))],aq 0]) ([aw c0,tF,aw c1,aO]++Zx 25 tF++ [tT,.cM (decide (0≤ab∧ab<(↑(16:Nat):Int))) true (by (simp only [cO] at*;omega)),.get _ _ _ (@jm q0 q1 q2 q3 q4 q5 q6 q7 q8 q9 de dr dw du dt dn ab ([ax fk,ax fc,ax fz,ax fs,ax fo,av (aaY.wrap aaY.u64 (TE+aaY.wrap aaY.u64 (ct 24 w ab ae aa af ai cc)))]) d0 d1),aw c2,aw c3,tC (eF (nt (cD 0 true (eq_of_beq hz)))),tC (eF (nt (cD 0 true (eq_of_beq hz)))),tC (nt (cD 0 true (eq_of_beq hz))),tC hd,aw c4,tC (v:=true) (Ra hd),tC (v:=true) (Ra hd),aw c5])).to (by first|((simp only [wk,a7,eJ];repeat' (first|rfl|exact ZX|apply ZI));done)|(simp [wk,a7,u64,];done))
theorem wU (q0 q1 q2 q3 q4 q5 q6 q7 q8 q9 de dr dw du dt dn TE:Int) (fk fc fz fs fo:Bool) (w ab ae aa af ai cc ld:Int) (d0:0≤ab) (d1:ab≤15) (s0:0≤ae) (s1:ae≤15) (b0:0≤aa) (b1:aa≤15) (hm:bL 24 w ab ae aa af ai cc=true) (hw:aP w=true) (hd:(aJ (rg [q0,q1,q2,q3,q4,q5,q6,q7,q8,q9,de,dr,dw,du,dt,dn] ab) w==0)=true):aQ Zy 57 ([.agg [av q0,av q1,av q2,av q3,av q4,av q5,av q6,av q7,av q8,av q9,av de,av dr,av dw,av du,av dt,av dn,ax fk,ax fc,ax fz,ax fs,ax fo,av (TE)],xD 24 w ab ae aa af ai cc,av ld]) (.aL [.agg [av (0),av (0),av (0),av (0),av (0),av (0),av (0),av (0),av (0),av (0),av (0),av (0),av (0),av (0),av (0),av (0),ax false,ax false,ax false,ax false,ax false,av (0)],aq 20]):=by
 have c0:= @bf 24 w ab ae aa af ai cc
 rw [hm] at c0
 have c1:= @cV 24 w ab ae aa af ai cc (by decide)
 have c2:= @bu (rg [q0,q1,q2,q3,q4,q5,q6,q7,q8,q9,de,dr,dw,du,dt,dn] ab) w hw
 have c3:= @bu q2 w hw
 let E1:EL:=([aw c0,tF,aw c1,aO]++Zx 25 tF++ [tT,.cM (decide (0≤ab∧ab<(↑(16:Nat):Int))) true (by (simp only [cO] at*;omega)),.get _ _ _ (@jm q0 q1 q2 q3 q4 q5 q6 q7 q8 q9 de dr dw du dt dn ab ([ax fk,ax fc,ax fz,ax fs,ax fo,av (aaY.wrap aaY.u64 (TE+aaY.wrap aaY.u64 (ct 24 w ab ae aa af ai cc)))]) d0 d1),aw c2,aw c3])
 by_cases h4:aJ q2 w=0
 ·exact (lR (d:= .aL [.agg [av 0,av 0,av 0,av 0,av 0,av 0,av 0,av 0,av 0,av 0,av 0,av 0,av 0,av 0,av 0,av 0,ax false,ax false,ax false,ax false,ax false,av 0],aq 20]) (E1++ [tC (eF (nt (cD 0 true h4))),tC (eF (nt (cD 0 true h4))),tC (nt (cD 0 true h4)),tC (cD 0 true (eq_of_beq hd))])).to (by clear E1;first|((simp only [wk,a7,eJ];repeat' (first|rfl|exact ZX|apply ZI));done)|(simp [wk,a7,u64,h4];done))
 exact (lR (d:= .aL [.agg [av 0,av 0,av 0,av 0,av 0,av 0,av 0,av 0,av 0,av 0,av 0,av 0,av 0,av 0,av 0,av 0,ax false,ax false,ax false,ax false,ax false,av 0],aq 20]) (E1++ [tC (eF (nt (aR h4))),tC (eF (nt (aR h4))),tC (nt (aR h4)),tT])).to (by clear E1;first|((simp only [wk,a7,eJ];repeat' (first|rfl|exact ZX|apply ZI));done)|(simp [wk,a7,u64,h4];done))
theorem wT (q0 q1 q2 q3 q4 q5 q6 q7 q8 q9 de dr dw du dt dn TE:Int) (fk fc fz fs fo:Bool) (w ab ae aa af ai cc ld:Int) (d0:0≤ab) (d1:ab≤15) (s0:0≤ae) (s1:ae≤15) (b0:0≤aa) (b1:aa≤15) (hm:bL 24 w ab ae aa af ai cc=true) (hw:aP w=true) (hd:(aJ (rg [q0,q1,q2,q3,q4,q5,q6,q7,q8,q9,de,dr,dw,du,dt,dn] ab) w==0)=false) (hz:(aJ q2 w==0)=false):aQ Zy 57 ([.agg [av q0,av q1,av q2,av q3,av q4,av q5,av q6,av q7,av q8,av q9,av de,av dr,av dw,av du,av dt,av dn,ax fk,ax fc,ax fz,ax fs,ax fo,av (TE)],xD 24 w ab ae aa af ai cc,av ld]) (.aL [.agg [av (0),av (0),av (0),av (0),av (0),av (0),av (0),av (0),av (0),av (0),av (0),av (0),av (0),av (0),av (0),av (0),ax false,ax false,ax false,ax false,ax false,av (0)],aq 20]):=by
 have c0:= @bf 24 w ab ae aa af ai cc
 rw [hm] at c0
 have c1:= @cV 24 w ab ae aa af ai cc (by decide)
 have c2:= @bu (rg [q0,q1,q2,q3,q4,q5,q6,q7,q8,q9,de,dr,dw,du,dt,dn] ab) w hw
 have c3:= @bu q2 w hw
 exact (lR (d:= .aL [.agg [av 0,av 0,av 0,av 0,av 0,av 0,av 0,av 0,av 0,av 0,av 0,av 0,av 0,av 0,av 0,av 0,ax false,ax false,ax false,ax false,ax false,av 0],aq 20]) ([aw c0,tF,aw c1,aO]++Zx 25 tF++ [tT,.cM (decide (0≤ab∧ab<(↑(16:Nat):Int))) true (by (simp only [cO] at*;omega)),.get _ _ _ (@jm q0 q1 q2 q3 q4 q5 q6 q7 q8 q9 de dr dw du dt dn ab ([ax fk,ax fc,ax fz,ax fs,ax fo,av (aaY.wrap aaY.u64 (TE+aaY.wrap aaY.u64 (ct 24 w ab ae aa af ai cc)))]) d0 d1),aw c2,aw c3,tC (eF (nt hz)),tC (eF (nt hz)),tC (nt hz),tT])).to (by first|((simp only [wk,a7,eJ];repeat' (first|rfl|exact ZX|apply ZI));done)|(simp [wk,a7,u64,];done))
theorem zz (q0 q1 q2 q3 q4 q5 q6 q7 q8 q9 de dr dw du dt dn TE:Int) (fc fz fs fo:Bool) (w ab ae aa af ai cc ld:Int) (d0:0≤ab) (d1:ab≤15) (s0:0≤ae) (s1:ae≤15) (b0:0≤aa) (b1:aa≤15) (hm:bL 25 w ab ae aa af ai cc=true) (hw:aP w=true) (T3:cT cc=true):aQ Zy 57 ([.agg [av q0,av q1,av q2,av q3,av q4,av q5,av q6,av q7,av q8,av q9,av de,av dr,av dw,av du,av dt,av dn,ax true,ax fc,ax fz,ax fs,ax fo,av (TE)],xD 25 w ab ae aa af ai cc,av ld]) (.aL [.agg (sC ab (aJ (if eC cc fc fz fs fo then rg [q0,q1,q2,q3,q4,q5,q6,q7,q8,q9,de,dr,dw,du,dt,dn] ae else rg [q0,q1,q2,q3,q4,q5,q6,q7,q8,q9,de,dr,dw,du,dt,dn] ab) w) q0 q1 q2 q3 q4 q5 q6 q7 q8 q9 de dr dw du dt dn++ [ax true,ax fc,ax fz,ax fs,ax fo,av (u64 (TE+u64 (ct 25 w ab ae aa af ai cc)))]),aq 0]):=by
 have c0:= @bf 25 w ab ae aa af ai cc
 rw [hm] at c0
 have c1:= @cV 25 w ab ae aa af ai cc (by decide)
 have c2:= @qs cc fc fz fs fo T3
 let E1:EL:=([aw c0,tF,aw c1,aO]++Zx 26 tF++ [tT,tT,aw c2,tF,tF,tF,tF,tT,.cM (decide (0≤ab∧ab<(↑(16:Nat):Int))) true (by (simp only [cO] at*;omega)),.get _ _ _ (@jm q0 q1 q2 q3 q4 q5 q6 q7 q8 q9 de dr dw du dt dn ab ([ax true,ax fc,ax fz,ax fs,ax fo,av (aaY.wrap aaY.u64 (TE+aaY.wrap aaY.u64 (ct 25 w ab ae aa af ai cc)))]) d0 d1)])
 rcases cI (eC cc fc fz fs fo) with h3|h3
 ·have c4:= @bu (rg [q0,q1,q2,q3,q4,q5,q6,q7,q8,q9,de,dr,dw,du,dt,dn] ae) w hw
  exact (lR (d:= .aL [.agg (sC ab (aJ (rg [q0,q1,q2,q3,q4,q5,q6,q7,q8,q9,de,dr,dw,du,dt,dn] ae) w) q0 q1 q2 q3 q4 q5 q6 q7 q8 q9 de dr dw du dt dn++ [ax true,ax fc,ax fz,ax fs,ax fo,av (aaY.wrap aaY.u64 (TE+aaY.wrap aaY.u64 (ct 25 w ab ae aa af ai cc)))]),aq 0]) (E1++ [tC h3,.cM (decide (0≤ae∧ae<(↑(16:Nat):Int))) true (by (simp only [cO] at*;omega)),.get _ _ _ (@jm q0 q1 q2 q3 q4 q5 q6 q7 q8 q9 de dr dw du dt dn ae ([ax true,ax fc,ax fz,ax fs,ax fo,av (aaY.wrap aaY.u64 (TE+aaY.wrap aaY.u64 (ct 25 w ab ae aa af ai cc)))]) s0 s1),aw c4,.cM (decide (0≤ab∧ab<(↑(16:Nat):Int))) true (by (simp only [cO] at*;omega)),.eU _ _ _ _ (@pf q0 q1 q2 q3 q4 q5 q6 q7 q8 q9 de dr dw du dt dn ab (aJ (rg [q0,q1,q2,q3,q4,q5,q6,q7,q8,q9,de,dr,dw,du,dt,dn] ae) w) ([ax true,ax fc,ax fz,ax fs,ax fo,av (aaY.wrap aaY.u64 (TE+aaY.wrap aaY.u64 (ct 25 w ab ae aa af ai cc)))]) d0 d1)])).to (by clear E1;first|((simp only [wk,a7,eJ];repeat' (first|rfl|exact ZX|apply ZI));done)|(simp [wk,a7,u64,h3];done))
 have c5:= @bu (rg [q0,q1,q2,q3,q4,q5,q6,q7,q8,q9,de,dr,dw,du,dt,dn] ab) w hw
 exact (lR (d:= .aL [.agg (sC ab (aJ (rg [q0,q1,q2,q3,q4,q5,q6,q7,q8,q9,de,dr,dw,du,dt,dn] ab) w) q0 q1 q2 q3 q4 q5 q6 q7 q8 q9 de dr dw du dt dn++ [ax true,ax fc,ax fz,ax fs,ax fo,av (aaY.wrap aaY.u64 (TE+aaY.wrap aaY.u64 (ct 25 w ab ae aa af ai cc)))]),aq 0]) (E1++ [tC h3,aw c5,.cM (decide (0≤ab∧ab<(↑(16:Nat):Int))) true (by (simp only [cO] at*;omega)),.eU _ _ _ _ (@pf q0 q1 q2 q3 q4 q5 q6 q7 q8 q9 de dr dw du dt dn ab (aJ (rg [q0,q1,q2,q3,q4,q5,q6,q7,q8,q9,de,dr,dw,du,dt,dn] ab) w) ([ax true,ax fc,ax fz,ax fs,ax fo,av (aaY.wrap aaY.u64 (TE+aaY.wrap aaY.u64 (ct 25 w ab ae aa af ai cc)))]) d0 d1)])).to (by clear E1;first|((simp only [wk,a7,eJ];repeat' (first|rfl|exact ZX|apply ZI));done)|(simp [wk,a7,u64,h3];done))
theorem wR (q0 q1 q2 q3 q4 q5 q6 q7 q8 q9 de dr dw du dt dn TE:Int) (fc fz fs fo:Bool) (w ab ae aa af ai cc ld:Int) (d0:0≤ab) (d1:ab≤15) (s0:0≤ae) (s1:ae≤15) (b0:0≤aa) (b1:aa≤15) (hm:bL 25 w ab ae aa af ai cc=true) (hw:aP w=true) (T3:cT cc=true):aQ Zy 57 ([.agg [av q0,av q1,av q2,av q3,av q4,av q5,av q6,av q7,av q8,av q9,av de,av dr,av dw,av du,av dt,av dn,ax false,ax fc,ax fz,ax fs,ax fo,av (TE)],xD 25 w ab ae aa af ai cc,av ld]) (.aL [.agg [av (0),av (0),av (0),av (0),av (0),av (0),av (0),av (0),av (0),av (0),av (0),av (0),av (0),av (0),av (0),av (0),ax false,ax false,ax false,ax false,ax false,av (0)],aq 20]):=by
 have c0:= @bf 25 w ab ae aa af ai cc
 rw [hm] at c0
 have c1:= @cV 25 w ab ae aa af ai cc (by decide)
 have c2:= @qt cc fc fz fs fo T3
 exact (lR (d:= .aL [.agg [av 0,av 0,av 0,av 0,av 0,av 0,av 0,av 0,av 0,av 0,av 0,av 0,av 0,av 0,av 0,av 0,ax false,ax false,ax false,ax false,ax false,av 0],aq 20]) ([aw c0,tF,aw c1,aO]++Zx 26 tF++ [tT,tT,aw c2,tT])).to (by first|((simp only [wk,a7,eJ];repeat' (first|rfl|exact ZX|apply ZI));done)|(simp [wk,a7,u64,];done))
theorem zu (q0 q1 q2 q3 q4 q5 q6 q7 q8 q9 de dr dw du dt dn TE:Int) (fc fz fs fo:Bool) (w ab ae aa af ai cc ld:Int) (d0:0≤ab) (d1:ab≤15) (s0:0≤ae) (s1:ae≤15) (b0:0≤aa) (b1:aa≤15) (hm:bL 29 w ab ae aa af ai cc=true) (T3:cT cc=true):aQ Zy 57 ([.agg [av q0,av q1,av q2,av q3,av q4,av q5,av q6,av q7,av q8,av q9,av de,av dr,av dw,av du,av dt,av dn,ax true,ax fc,ax fz,ax fs,ax fo,av (TE)],xD 29 w ab ae aa af ai cc,av ld]) (.aL [.agg [av q0,av q1,av q2,av q3,av q4,av q5,av q6,av q7,av q8,av q9,av de,av dr,av dw,av du,av dt,av dn,ax true,ax fc,ax fz,ax fs,ax fo,av (if eC cc fc fz fs fo then u64 (u64 (TE+u64 (ct 29 w ab ae aa af ai cc))+u64 ai) else u64 (TE+u64 (ct 29 w ab ae aa af ai cc)))],aq 0]):=by
 have c0:= @bf 29 w ab ae aa af ai cc
 rw [hm] at c0
 have c1:= @cV 29 w ab ae aa af ai cc (by decide)
 have c2:= @qs cc fc fz fs fo T3
 let E1:EL:=([aw c0,tF,aw c1,aO]++Zx 27 tF++ [tT,aw c2,tF,tT,tT])
 rcases cI (eC cc fc fz fs fo) with h3|h3
 ·exact (lR (d:= .aL [.agg [av q0,av q1,av q2,av q3,av q4,av q5,av q6,av q7,av q8,av q9,av de,av dr,av dw,av du,av dt,av dn,ax true,ax fc,ax fz,ax fs,ax fo,av (aaY.wrap aaY.u64 (aaY.wrap aaY.u64 (TE+aaY.wrap aaY.u64 (ct 29 w ab ae aa af ai cc))+aaY.wrap aaY.u64 ai))],aq 0]) (E1++ [tC h3,tF])).to (by clear E1;first|((simp only [wk,a7,eJ];repeat' (first|rfl|exact ZX|apply ZI));done)|(simp [wk,a7,u64,h3];done))
 exact (lR (d:= .aL [.agg [av q0,av q1,av q2,av q3,av q4,av q5,av q6,av q7,av q8,av q9,av de,av dr,av dw,av du,av dt,av dn,ax true,ax fc,ax fz,ax fs,ax fo,av (aaY.wrap aaY.u64 (TE+aaY.wrap aaY.u64 (ct 29 w ab ae aa af ai cc)))],aq 0]) (E1++ [tC h3,tF])).to (by clear E1;first|((simp only [wk,a7,eJ];repeat' (first|rfl|exact ZX|apply ZI));done)|(simp [wk,a7,u64,h3];done))
theorem wQ (q0 q1 q2 q3 q4 q5 q6 q7 q8 q9 de dr dw du dt dn TE:Int) (fc fz fs fo:Bool) (w ab ae aa af ai cc ld:Int) (d0:0≤ab) (d1:ab≤15) (s0:0≤ae) (s1:ae≤15) (b0:0≤aa) (b1:aa≤15) (hm:bL 29 w ab ae aa af ai cc=true) (T3:cT cc=true):aQ Zy 57 ([.agg [av q0,av q1,av q2,av q3,av q4,av q5,av q6,av q7,av q8,av q9,av de,av dr,av dw,av du,av dt,av dn,ax false,ax fc,ax fz,ax fs,ax fo,av (TE)],xD 29 w ab ae aa af ai cc,av ld]) (.aL [.agg [av (0),av (0),av (0),av (0),av (0),av (0),av (0),av (0),av (0),av (0),av (0),av (0),av (0),av (0),av (0),av (0),ax false,ax false,ax false,ax false,ax false,av (0)],aq 20]):=by
 have c0:= @bf 29 w ab ae aa af ai cc
 rw [hm] at c0
 have c1:= @cV 29 w ab ae aa af ai cc (by decide)
 have c2:= @qt cc fc fz fs fo T3
 exact (lR (d:= .aL [.agg [av 0,av 0,av 0,av 0,av 0,av 0,av 0,av 0,av 0,av 0,av 0,av 0,av 0,av 0,av 0,av 0,ax false,ax false,ax false,ax false,ax false,av 0],aq 20]) ([aw c0,tF,aw c1,aO]++Zx 27 tF++ [tT,aw c2,tT])).to (by first|((simp only [wk,a7,eJ];repeat' (first|rfl|exact ZX|apply ZI));done)|(simp [wk,a7,u64,];done))
theorem zr (q0 q1 q2 q3 q4 q5 q6 q7 q8 q9 de dr dw du dt dn TE:Int) (fk fc fz fs fo:Bool) (op w ab ae aa af ai cc ld:Int)(ho:op≤127) (hm:bL op w ab ae aa af ai cc=false):aQ Zy 57 ([.agg [av q0,av q1,av q2,av q3,av q4,av q5,av q6,av q7,av q8,av q9,av de,av dr,av dw,av du,av dt,av dn,ax fk,ax fc,ax fz,ax fs,ax fo,av (TE)],xD op w ab ae aa af ai cc,av ld]) (.aL [.agg [av (0),av (0),av (0),av (0),av (0),av (0),av (0),av (0),av (0),av (0),av (0),av (0),av (0),av (0),av (0),av (0),ax false,ax false,ax false,ax false,ax false,av (0)],aq 2]):=by
 have c0:= @bf op w ab ae aa af ai cc
 rw [hm] at c0
 exact (lR (d:= .aL [.agg [av 0,av 0,av 0,av 0,av 0,av 0,av 0,av 0,av 0,av 0,av 0,av 0,av 0,av 0,av 0,av 0,ax false,ax false,ax false,ax false,ax false,av 0],aq 2]) [aw c0,tT]).to (by first|((simp only [wk,a7,eJ];repeat' (first|rfl|exact ZX|apply ZI));done)|(simp [wk,a7,u64,];done))
def oD (Tz:Int):Prop:= ∀(m:au) (w ab ae aa af ai cc ld:Int) (d0:0≤ab) (d1:ab≤15) (s0:0≤ae) (s1:ae≤15) (b0:0≤aa) (b1:aa≤15) (hm:bL Tz w ab ae aa af ai cc=true) (hw:aP w=true),aQ Zy 57 ([m.d,xD Tz w ab ae aa af ai cc,av ld]) (.aL [(gF (m.at (u64 (m.pc+u64 (ct Tz w ab ae aa af ai cc)))) ⟨Tz,w,ab,ae,aa,af,ai,cc⟩ ld).1.d,aq 0])
theorem BZ:oD 9:=by
 intro m w ab ae aa af ai cc ld d0 d1 s0 s1 b0 b1 hm hw
 have c0:= @bf 9 w ab ae aa af ai cc
 rw [hm] at c0
 have c1:= @cV 9 w ab ae aa af ai cc (by decide)
 have c2:= @aH 9
 have c3:= @Ac w (rg (au.rl m) ab) (aaY.wrap aaY.u64 ai) hw
 have c4:= @dW
 have c5:= @EI w (rg (au.rl m) ab) (aaY.wrap aaY.u64 ai) hw
 exact (lR (d:= .aL [(gF (m.at (u64 (m.pc+u64 (ct 9 w ab ae aa af ai cc)))) ⟨9,w,ab,ae,aa,af,ai,cc⟩ ld).1.d,aq 0]) ([aw c0,tF,aw c1,aO,tF,tT,tT,.cM _ true (cz d0 d1),.get _ _ _ (@bl m ab ((fT m (dp m 9 w ab ae aa af ai cc) [])) d0 d1),aO,aw c2,tT,tT,.aV [(0,aA (au.cw m (dp m 9 w ab ae aa af ai cc) [])),(1,aA [ak 9,ak w,ak ab,ak ae,ak aa,aq af,aq ai,ak cc]),(2,aA zC)],aw c3,aO,aw c4,tT,aw c5]++Zx 13 tT++ [.cM _ true (cz d0 d1),.eU _ _ _ _ (@bV m ab (fB 0 w (rg (au.rl m) ab) (aaY.wrap aaY.u64 ai)) ([ax true,ax (yA w (rg (au.rl m) ab) (aaY.wrap aaY.u64 ai)),ax (aJ (u64 (rg (au.rl m) ab+aaY.wrap aaY.u64 ai)) w==0),ax (fL (u64 (rg (au.rl m) ab+aaY.wrap aaY.u64 ai)) w),ax (yz w (rg (au.rl m) ab) (aaY.wrap aaY.u64 ai)),av (dp m 9 w ab ae aa af ai cc)]) d0 d1)]) (by kernel_rfl))
theorem zQ:oD 10:=by
 intro m w ab ae aa af ai cc ld d0 d1 s0 s1 b0 b1 hm hw
 have c0:= @bf 10 w ab ae aa af ai cc
 rw [hm] at c0
 have c1:= @cV 10 w ab ae aa af ai cc (by decide)
 have c2:= @aH 10
 have c3:= @Ab w (rg (au.rl m) ab) (aaY.wrap aaY.u64 ai) hw
 have c4:= @dW
 have c5:= @mS w (fB 4 w (rg (au.rl m) ab) (aaY.wrap aaY.u64 ai)) hw
 exact (lR (d:= .aL [(gF (m.at (u64 (m.pc+u64 (ct 10 w ab ae aa af ai cc)))) ⟨10,w,ab,ae,aa,af,ai,cc⟩ ld).1.d,aq 0]) ([aw c0,tF,aw c1,aO,tF,tF,tF,tT,tT,.cM _ true (cz d0 d1),.get _ _ _ (@bl m ab ((fT m (dp m 10 w ab ae aa af ai cc) [])) d0 d1),aO,aw c2,tT,tT,.aV [(0,aA (au.cw m (dp m 10 w ab ae aa af ai cc) [])),(1,aA [ak 10,ak w,ak ab,ak ae,ak aa,aq af,aq ai,ak cc]),(2,aA zC)],aw c3,aO,aw c4,tF,tF,tT,tT,aw c5]++Zx 13 tT++ [.cM _ true (cz d0 d1),.eU _ _ _ _ (@bV m ab (fB 4 w (rg (au.rl m) ab) (aaY.wrap aaY.u64 ai)) ([ax true,ax false,ax (aJ (fB 4 w (rg (au.rl m) ab) (aaY.wrap aaY.u64 ai)) w==0),ax (fL (fB 4 w (rg (au.rl m) ab) (aaY.wrap aaY.u64 ai)) w),ax false,av (dp m 10 w ab ae aa af ai cc)]) d0 d1)]) (by kernel_rfl))
theorem zP:oD 11:=by
 intro m w ab ae aa af ai cc ld d0 d1 s0 s1 b0 b1 hm hw
 have c0:= @bf 11 w ab ae aa af ai cc
 rw [hm] at c0
 have c1:= @cV 11 w ab ae aa af ai cc (by decide)
 have c2:= @aH 11
 have c3:= @pb w (rg (au.rl m) ab) (aaY.wrap aaY.u64 ai) hw
 have c4:= @dW
 have c5:= @mS w (fB 5 w (rg (au.rl m) ab) (aaY.wrap aaY.u64 ai)) hw
 exact (lR (d:= .aL [(gF (m.at (u64 (m.pc+u64 (ct 11 w ab ae aa af ai cc)))) ⟨11,w,ab,ae,aa,af,ai,cc⟩ ld).1.d,aq 0]) (([aw c0,tF,aw c1,aO]++cr 8 224++ [.cM _ true (cz d0 d1),.get _ _ _ (@bl m ab ((fT m (dp m 11 w ab ae aa af ai cc) [])) d0 d1),aO,aw c2,tT,tT,.aV [(0,aA (au.cw m (dp m 11 w ab ae aa af ai cc) [])),(1,aA [ak 11,ak w,ak ab,ak ae,ak aa,aq af,aq ai,ak cc]),(2,aA zC)],aw c3,aO,aw c4,tF,tF,tF,tT,tT,aw c5])++Zx 13 tT++ [.cM _ true (cz d0 d1),.eU _ _ _ _ (@bV m ab (fB 5 w (rg (au.rl m) ab) (aaY.wrap aaY.u64 ai)) ([ax true,ax false,ax (aJ (fB 5 w (rg (au.rl m) ab) (aaY.wrap aaY.u64 ai)) w==0),ax (fL (fB 5 w (rg (au.rl m) ab) (aaY.wrap aaY.u64 ai)) w),ax false,av (dp m 11 w ab ae aa af ai cc)]) d0 d1)]) (by kernel_rfl))
theorem zN:oD 13:=by
 intro m w ab ae aa af ai cc ld d0 d1 s0 s1 b0 b1 hm hw
 have c0:= @bf 13 w ab ae aa af ai cc
 rw [hm] at c0
 have c1:= @cV 13 w ab ae aa af ai cc (by decide)
 have c2:= @aH 13
 have c3:= @uL w (rg (au.rl m) ab) (aaY.wrap aaY.u64 ai) hw
 have c4:= @dW
 have c5:= @mS w (fB 10 w (rg (au.rl m) ab) (aaY.wrap aaY.u64 ai)) hw
 exact (lR (d:= .aL [(gF (m.at (u64 (m.pc+u64 (ct 13 w ab ae aa af ai cc)))) ⟨13,w,ab,ae,aa,af,ai,cc⟩ ld).1.d,aq 0]) ([aw c0,tF,aw c1,aO]++Zx 13 tF++ [tT,tT,.cM _ true (cz d0 d1),.get _ _ _ (@bl m ab ((fT m (dp m 13 w ab ae aa af ai cc) [])) d0 d1),aO,aw c2,tT,tT,.aV [(0,aA (au.cw m (dp m 13 w ab ae aa af ai cc) [])),(1,aA [ak 13,ak w,ak ab,ak ae,ak aa,aq af,aq ai,ak cc]),(2,aA zC)],aw c3,aO,aw c4,tF,tF,tF,tF,tT,aw c5]++Zx 13 tT++ [.cM _ true (cz d0 d1),.eU _ _ _ _ (@bV m ab (fB 10 w (rg (au.rl m) ab) (aaY.wrap aaY.u64 ai)) ([ax true,ax false,ax (aJ (fB 10 w (rg (au.rl m) ab) (aaY.wrap aaY.u64 ai)) w==0),ax (fL (fB 10 w (rg (au.rl m) ab) (aaY.wrap aaY.u64 ai)) w),ax false,av (dp m 13 w ab ae aa af ai cc)]) d0 d1)]) (by kernel_rfl))
theorem zM:oD 14:=by
 intro m w ab ae aa af ai cc ld d0 d1 s0 s1 b0 b1 hm hw
 have c0:= @bf 14 w ab ae aa af ai cc
 rw [hm] at c0
 have c1:= @cV 14 w ab ae aa af ai cc (by decide)
 have c2:= @aH 14
 have c3:= @pe w (rg (au.rl m) ab) (aaY.wrap aaY.u64 ai) hw
 have c4:= @dW
 have c5:= @oW w (rg (au.rl m) ab) (aaY.wrap aaY.u64 ai) hw
 exact (lR (d:= .aL [(gF (m.at (u64 (m.pc+u64 (ct 14 w ab ae aa af ai cc)))) ⟨14,w,ab,ae,aa,af,ai,cc⟩ ld).1.d,aq 0]) ([aw c0,tF,aw c1,aO]++Zx 11 tF++ [tT,tT,.cM _ true (cz d0 d1),.get _ _ _ (@bl m ab ((fT m (dp m 14 w ab ae aa af ai cc) [])) d0 d1),aO,aw c2,tT,tT,.aV [(0,aA (au.cw m (dp m 14 w ab ae aa af ai cc) [])),(1,aA [ak 14,ak w,ak ab,ak ae,ak aa,aq af,aq ai,ak cc]),(2,aA zC)],aw c3,aO,aw c4,tF,tT,aw c5,tT,tT,tT,tT]++Zx 9 tF) (by kernel_rfl))
theorem zL:oD 15:=by
 intro m w ab ae aa af ai cc ld d0 d1 s0 s1 b0 b1 hm hw
 have c0:= @bf 15 w ab ae aa af ai cc
 rw [hm] at c0
 have c1:= @cV 15 w ab ae aa af ai cc (by decide)
 have c2:= @aH 15
 have c3:= @pb w (rg (au.rl m) ab) (aaY.wrap aaY.u64 ai) hw
 have c4:= @dW
 have c5:= @mS w (fB 5 w (rg (au.rl m) ab) (aaY.wrap aaY.u64 ai)) hw
 exact (lR (d:= .aL [(gF (m.at (u64 (m.pc+u64 (ct 15 w ab ae aa af ai cc)))) ⟨15,w,ab,ae,aa,af,ai,cc⟩ ld).1.d,aq 0]) (([aw c0,tF,aw c1,aO]++cr 9 384++ [.cM _ true (cz d0 d1),.get _ _ _ (@bl m ab ((fT m (dp m 15 w ab ae aa af ai cc) [])) d0 d1),aO,aw c2,tT,tT,.aV [(0,aA (au.cw m (dp m 15 w ab ae aa af ai cc) [])),(1,aA [ak 15,ak w,ak ab,ak ae,ak aa,aq af,aq ai,ak cc]),(2,aA zC)],aw c3,aO,aw c4,tF,tF,tF,tT,tT,aw c5])++Zx 12 tT++ [tF]) (by kernel_rfl))
theorem zK:oD 16:=by
 intro m w ab ae aa af ai cc ld d0 d1 s0 s1 b0 b1 hm hw
 have c0:= @bf 16 w ab ae aa af ai cc
 rw [hm] at c0
 have c1:= @cV 16 w ab ae aa af ai cc (by decide)
 have c2:= @aH 16
 have c3:= @JV w (rg (au.rl m) ab) (rg (au.rl m) ae) hw
 have c4:= @dW
 exact (lR (d:= .aL [(gF (m.at (u64 (m.pc+u64 (ct 16 w ab ae aa af ai cc)))) ⟨16,w,ab,ae,aa,af,ai,cc⟩ ld).1.d,aq 0]) ([aw c0,tF,aw c1,aO]++Zx 14 tF++ [tT,tT,.cM _ true (cz d0 d1),.get _ _ _ (@bl m ab ((fT m (dp m 16 w ab ae aa af ai cc) [])) d0 d1),aO,aw c2,tF,tF,tF,.cM _ true (cz s0 s1),.get _ _ _ (@bl m ae ((fT m (dp m 16 w ab ae aa af ai cc) [])) s0 s1),.aV [(0,aA (au.cw m (dp m 16 w ab ae aa af ai cc) [])),(1,aA [ak 16,ak w,ak ab,ak ae,ak aa,aq af,aq ai,ak cc]),(2,aA zC)],aw c3,aO,aw c4,tF,tF,tF,tF,tF]++Zx 13 tT++ [.cM _ true (cz d0 d1),.eU _ _ _ _ (@bV m ab (fB 2 w (rg (au.rl m) ab) (rg (au.rl m) ae)) ([ax false,ax false,ax false,ax false,ax false,av (dp m 16 w ab ae aa af ai cc)]) d0 d1)]) (by kernel_rfl))
theorem BX (m:au) (x:XS) (ld:Int) (ho:x.op≤127):aQ Zy 57 [m.d,x.d,av ld] (.aL [(fm m x ld).1.d,aq (fm m x ld).2]):=by
 cases hm:x.may
 ·rw [A3 hm]
  obtain ⟨q0,q1,q2,q3,q4,q5,q6,q7,q8,q9,de,dr,dw,du,dt,dn,fk,fc,fz,fs,fo,pc⟩:=m
  obtain ⟨op,w,ab,ae,aa,af,ai,cc⟩:=x
  exact zr q0 q1 q2 q3 q4 q5 q6 q7 q8 q9 de dr dw du dt dn pc fk fc fz fs fo op w ab ae aa af ai cc ld ho hm
 ·rw [qi hm]
  obtain ⟨op,w,ab,ae,aa,af,ai,cc⟩:=x
  replace hm:bL op w ab ae aa af ai cc=true:=hm
  have U3:aC op≠0:=by
   intro e
   have hs:=(dA hm).2
   rw [e] at hs
   simp [iK] at hs
  obtain ⟨⟨d0,d1,s0,s1,b0,b1,_⟩,hs⟩:=dA hm
  rcases gY U3 with rfl|rfl|rfl|rfl|rfl|rfl|rfl|rfl|rfl|rfl|rfl|rfl|rfl|rfl|rfl|rfl|rfl|rfl|rfl|rfl|rfl|rfl|rfl|rfl|rfl|rfl|rfl|rfl|rfl|rfl|rfl|rfl
  ·exact B8 m _ _ _ _ _ _ _ _ d0 d1 s0 s1 b0 b1 hm (bH hs (by decide))
  ·exact B7 m _ _ _ _ _ _ _ _ d0 d1 s0 s1 b0 b1 hm (bH hs (by decide))
  ·exact B6 m _ _ _ _ _ _ _ _ d0 d1 s0 s1 b0 b1 hm (bH hs (by decide))
  ·exact B5 m _ _ _ _ _ _ _ _ d0 d1 s0 s1 b0 b1 hm (bH hs (by decide))
  ·exact B4 m _ _ _ _ _ _ _ _ d0 d1 s0 s1 b0 b1 hm (bH hs (by decide))
  ·exact B3 m _ _ _ _ _ _ _ _ d0 d1 s0 s1 b0 b1 hm (bH hs (by decide))
  ·exact B2 m _ _ _ _ _ _ _ _ d0 d1 s0 s1 b0 b1 hm (bH hs (by decide))
  ·exact B1 m _ _ _ _ _ _ _ _ d0 d1 s0 s1 b0 b1 hm (bH hs (by decide))
  ·exact B0 m _ _ _ _ _ _ _ _ d0 d1 s0 s1 b0 b1 hm (bH hs (by decide))
  ·exact BZ m _ _ _ _ _ _ _ _ d0 d1 s0 s1 b0 b1 hm (bH hs (by decide))
  ·exact zQ m _ _ _ _ _ _ _ _ d0 d1 s0 s1 b0 b1 hm (bH hs (by decide))
  ·exact zP m _ _ _ _ _ _ _ _ d0 d1 s0 s1 b0 b1 hm (bH hs (by decide))
  ·exact zO m _ _ _ _ _ _ _ _ d0 d1 s0 s1 b0 b1 hm (bH hs (by decide))
  ·exact zN m _ _ _ _ _ _ _ _ d0 d1 s0 s1 b0 b1 hm (bH hs (by decide))
  ·exact zM m _ _ _ _ _ _ _ _ d0 d1 s0 s1 b0 b1 hm (bH hs (by decide))
  ·exact zL m _ _ _ _ _ _ _ _ d0 d1 s0 s1 b0 b1 hm (bH hs (by decide))
  ·exact zK m _ _ _ _ _ _ _ _ d0 d1 s0 s1 b0 b1 hm (bH hs (by decide))
  ·exact zJ m _ _ _ _ _ _ _ _ d0 d1 s0 s1 b0 b1 hm (bH hs (by decide))
  ·exact zI m _ _ _ _ _ _ _ _ d0 d1 s0 s1 b0 b1 hm (bH hs (by decide))
  ·exact zH m _ _ _ _ _ _ _ _ d0 d1 s0 s1 b0 b1 hm (bH hs (by decide))
  ·exact zG m _ _ _ _ _ _ _ _ d0 d1 s0 s1 b0 b1 hm (bH hs (by decide))
  ·exact zF m _ _ _ _ _ _ _ _ d0 d1 s0 s1 b0 b1 hm (bH hs (by decide))
  ·exact zE m _ _ _ _ _ _ _ _ d0 d1 s0 s1 b0 b1 hm (bH hs (by decide))
  ·exact zD m _ _ _ _ _ _ _ _ d0 d1 s0 s1 b0 b1 hm (bH hs (by decide))
  ·obtain ⟨q0,q1,q2,q3,q4,q5,q6,q7,q8,q9,de,dr,dw,du,dt,dn,fk,fc,fz,fs,fo,pc⟩:=m
   cases hd:(aJ (rg [q0,q1,q2,q3,q4,q5,q6,q7,q8,q9,de,dr,dw,du,dt,dn] ab) w==0)
   ·cases hz:(aJ q2 w==0)
    ·have e:gF ((⟨q0,q1,q2,q3,q4,q5,q6,q7,q8,q9,de,dr,dw,du,dt,dn,fk,fc,fz,fs,fo,pc⟩:au).at (u64 (pc+u64 (XS.len ⟨24,w,ab,ae,aa,af,ai,cc⟩)))) ⟨24,w,ab,ae,aa,af,ai,cc⟩ ld=(.zero,20):=by
      show (match (aJ (rg [q0,q1,q2,q3,q4,q5,q6,q7,q8,q9,de,dr,dw,du,dt,dn] ab) w==0:Bool) with|true=>((au.zero,20):au×Int)|false=>match (aJ q2 w==0:Bool) with|false=>(.zero,20)|true=>_)=_
      rw [hd,hz]
     rw [e]
     exact wT q0 q1 q2 q3 q4 q5 q6 q7 q8 q9 de dr dw du dt dn pc fk fc fz fs fo w ab ae aa af ai cc ld d0 d1 s0 s1 b0 b1 hm (bH hs (by decide)) hd hz
    ·have e:gF ((⟨q0,q1,q2,q3,q4,q5,q6,q7,q8,q9,de,dr,dw,du,dt,dn,fk,fc,fz,fs,fo,pc⟩:au).at (u64 (pc+u64 (XS.len ⟨24,w,ab,ae,aa,af,ai,cc⟩)))) ⟨24,w,ab,ae,aa,af,ai,cc⟩ ld=(⟨u64 ((aJ q0 w).tdiv (aJ (rg [q0,q1,q2,q3,q4,q5,q6,q7,q8,q9,de,dr,dw,du,dt,dn] ab) w)),q1,(aJ q0 w).tmod (aJ (rg [q0,q1,q2,q3,q4,q5,q6,q7,q8,q9,de,dr,dw,du,dt,dn] ab) w),q3,q4,q5,q6,q7,q8,q9,de,dr,dw,du,dt,dn,false,false,false,false,false,u64 (pc+u64 (XS.len ⟨24,w,ab,ae,aa,af,ai,cc⟩))⟩,0):=by
      show (match (aJ (rg [q0,q1,q2,q3,q4,q5,q6,q7,q8,q9,de,dr,dw,du,dt,dn] ab) w==0:Bool) with|true=>((au.zero,20):au×Int)|false=>match (aJ q2 w==0:Bool) with|false=>(.zero,20)|true=>_)=_
      rw [hd,hz]
      rfl
     rw [e]
     exact zA q0 q1 q2 q3 q4 q5 q6 q7 q8 q9 de dr dw du dt dn pc fk fc fz fs fo w ab ae aa af ai cc ld d0 d1 s0 s1 b0 b1 hm (bH hs (by decide)) hd hz
   ·have e:gF ((⟨q0,q1,q2,q3,q4,q5,q6,q7,q8,q9,de,dr,dw,du,dt,dn,fk,fc,fz,fs,fo,pc⟩:au).at (u64 (pc+u64 (XS.len ⟨24,w,ab,ae,aa,af,ai,cc⟩)))) ⟨24,w,ab,ae,aa,af,ai,cc⟩ ld=(.zero,20):=by
     show (match (aJ (rg [q0,q1,q2,q3,q4,q5,q6,q7,q8,q9,de,dr,dw,du,dt,dn] ab) w==0:Bool) with|true=>((au.zero,20):au×Int)|false=>match (aJ q2 w==0:Bool) with|false=>(.zero,20)|true=>_)=_
     rw [hd]
    rw [e]
    exact wU q0 q1 q2 q3 q4 q5 q6 q7 q8 q9 de dr dw du dt dn pc fk fc fz fs fo w ab ae aa af ai cc ld d0 d1 s0 s1 b0 b1 hm (bH hs (by decide)) hd
  ·obtain ⟨q0,q1,q2,q3,q4,q5,q6,q7,q8,q9,de,dr,dw,du,dt,dn,fk,fc,fz,fs,fo,pc⟩:=m
   cases fk
   ·exact wR q0 q1 q2 q3 q4 q5 q6 q7 q8 q9 de dr dw du dt dn pc fc fz fs fo w ab ae aa af ai cc ld d0 d1 s0 s1 b0 b1 hm (bH hs (by decide)) (xP hs)
   ·exact zz q0 q1 q2 q3 q4 q5 q6 q7 q8 q9 de dr dw du dt dn pc fc fz fs fo w ab ae aa af ai cc ld d0 d1 s0 s1 b0 b1 hm (bH hs (by decide)) (xP hs)
  ·exact zy m _ _ _ _ _ _ _ _ d0 d1 s0 s1 b0 b1 hm (by rw [show aC 26=7 from rfl] at hs;simp [iK] at hs;exact hs.1)
  ·exact zx m _ _ _ _ _ _ _ _ d0 d1 s0 s1 b0 b1 hm
  ·exact zw m _ _ _ _ _ _ _ _ d0 d1 s0 s1 b0 b1 hm
  ·obtain ⟨q0,q1,q2,q3,q4,q5,q6,q7,q8,q9,de,dr,dw,du,dt,dn,fk,fc,fz,fs,fo,pc⟩:=m
   cases fk
   ·exact wQ q0 q1 q2 q3 q4 q5 q6 q7 q8 q9 de dr dw du dt dn pc fc fz fs fo w ab ae aa af ai cc ld d0 d1 s0 s1 b0 b1 hm (rj hs)
   ·exact zu q0 q1 q2 q3 q4 q5 q6 q7 q8 q9 de dr dw du dt dn pc fc fz fs fo w ab ae aa af ai cc ld d0 d1 s0 s1 b0 b1 hm (rj hs)
  ·exact zt m _ _ _ _ _ _ _ _ d0 d1 s0 s1 b0 b1 hm
  ·obtain ⟨q0,q1,q2,q3,q4,q5,q6,q7,q8,q9,de,dr,dw,du,dt,dn,fk,fc,fz,fs,fo,pc⟩:=m
   exact zs ⟨q0,q1,q2,q3,q4,q5,q6,q7,q8,q9,de,dr,dw,du,dt,dn,fk,fc,fz,fs,fo,pc⟩ w ab ae aa af ai cc ld d0 d1 s0 s1 b0 b1 hm
theorem Gy (m:au) (w ab ae aa af ai Tl:Int) (d0:0≤ab) (d1:ab≤15) (s0:0≤ae) (s1:ae≤15) (b0:0≤aa) (b1:aa≤15) (w0:0≤w) (w1:w≤64) (hm:bL 26 w ab ae aa af ai Tl=true):aQ Zy 52 ([.agg (eV m),xD 26 w ab ae aa af ai Tl]) (.aL [av (u64 (rg m.rl aa+u64 af)),aq (w / 8),ax true]):=by
 have c0:= @bf ((26:Int)) (w) (ab) (ae) (aa) (af) (ai) (Tl)
 exact (aQ.aj (d:= .aL [av (aaY.wrap aaY.u64 (rg (au.rl m) aa+aaY.wrap aaY.u64 af)),aq (aaY.i64.wrap (Int.tdiv (aaY.wrap aaY.i64 w) (8:Int))),ax true]) mixed Tryz.func52 (by kernel_rfl) [aw c0,tC (nt hm),tT,tT,.cM (decide ((0:Int)≤aa∧aa<(↑(16:Nat):Int))) true (by ((try simp only [dh,bw,aX,bZ,bX,cJ,cF,lO,gp,bne_eq_false_iff_eq,Z8,aai,ZD,ZV] at*);omega)),.get _ _ _ (@bl (m) (aa) ([ax (au.fk m),ax (au.fc m),ax (au.fz m),ax (au.fs m),ax (au.fo m),av (au.pc m)]) b0 b1)]).to (by simp only [wk,a7,eJ,D.int.injEq,ee];refine ⟨rfl,?_⟩;first|rfl|(rw [aX,Rc];omega)|(rw [show aaY.i64.wrap w=w by rw [aX];omega,Int.tdiv_eq_ediv_of_nonneg w0,aX];omega))
theorem Gx (m:au) (w ab ae aa af ai Tl:Int) (d0:0≤ab) (d1:ab≤15) (s0:0≤ae) (s1:ae≤15) (b0:0≤aa) (b1:aa≤15) (w0:0≤w) (w1:w≤64) (hm:bL 27 w ab ae aa af ai Tl=true):aQ Zy 52 ([.agg (eV m),xD 27 w ab ae aa af ai Tl]) (.aL [av (u64 (rg m.rl aa+u64 af)),aq (w / 8),ax true]):=by
 have c0:= @bf ((27:Int)) (w) (ab) (ae) (aa) (af) (ai) (Tl)
 exact (aQ.aj (d:= .aL [av (aaY.wrap aaY.u64 (rg (au.rl m) aa+aaY.wrap aaY.u64 af)),aq (aaY.i64.wrap (Int.tdiv (aaY.wrap aaY.i64 w) (8:Int))),ax true]) mixed Tryz.func52 (by kernel_rfl) [aw c0,tC (nt hm),tF,tT,.cM (decide ((0:Int)≤aa∧aa<(↑(16:Nat):Int))) true (by ((try simp only [dh,bw,aX,bZ,bX,cJ,cF,lO,gp,bne_eq_false_iff_eq,Z8,aai,ZD,ZV] at*);omega)),.get _ _ _ (@bl (m) (aa) ([ax (au.fk m),ax (au.fc m),ax (au.fz m),ax (au.fs m),ax (au.fo m),av (au.pc m)]) b0 b1)]).to (by simp only [wk,a7,eJ,D.int.injEq,ee];refine ⟨rfl,?_⟩;first|rfl|(rw [aX,Rc];omega)|(rw [show aaY.i64.wrap w=w by rw [aX];omega,Int.tdiv_eq_ediv_of_nonneg w0,aX];omega))
theorem Gw (m:au) (w ab ae aa af ai Tl:Int) (d0:0≤ab) (d1:ab≤15) (s0:0≤ae) (s1:ae≤15) (b0:0≤aa) (b1:aa≤15) (hm:bL 30 w ab ae aa af ai Tl=true):aQ Zy 52 ([.agg (eV m),xD 30 w ab ae aa af ai Tl]) (.aL [av m.q4,aq 8,ax true]):=by
 have c0:= @bf ((30:Int)) (w) (ab) (ae) (aa) (af) (ai) (Tl)
 exact (aQ.aj (d:= .aL [av (au.q4 m),aq 8,ax true]) mixed Tryz.func52 (by kernel_rfl) [aw c0,tC (nt hm),tF,tF,tT]).to (by first|((simp only [wk,a7,eJ];repeat' (first|rfl|exact ZX|apply ZI));done)|(simp [wk,a7,u64,];done))
theorem An (m:au) (op w ab ae aa af ai Tl:Int) (ho:op≤127) (n1:(op==26)=false) (n2:(op==27)=false) (n3:(op==30)=false) (hm:bL op w ab ae aa af ai Tl=true):aQ Zy 52 ([.agg (eV m),xD op w ab ae aa af ai Tl]) (.aL [av 0,aq 0,ax false]):=by
 have c0:= @bf (op) (w) (ab) (ae) (aa) (af) (ai) (Tl)
 exact (aQ.aj (d:= .aL [av 0,aq 0,ax false]) mixed Tryz.func52 (by kernel_rfl) [aw c0,tC (nt hm),tC n1,tC n2,tC n3]).to (by first|((simp only [wk,a7,eJ];repeat' (first|rfl|exact ZX|apply ZI));done)|(simp [wk,a7,u64,];done))
theorem Gh (m:au) (w ab ae aa af ai Tl:Int) (d0:0≤ab) (d1:ab≤15) (s0:0≤ae) (s1:ae≤15) (b0:0≤aa) (b1:aa≤15) (w0:aU w=true) (hm:bL 27 w ab ae aa af ai Tl=true):aQ Zy 55 ([.agg (eV m),xD 27 w ab ae aa af ai Tl]) (av (aJ (rg m.rl ae) w)):=by
 have c0:= @bf ((27:Int)) (w) (ab) (ae) (aa) (af) (ai) (Tl)
 have c1:= @wY (rg (au.rl m) ae) (w) w0
 exact (aQ.aj (d:= .int .u64 (aJ (rg (au.rl m) ae) w)) mixed Tryz.func55 (by kernel_rfl) [aw c0,tC (eF (nt hm)),tC (eF (nt hm)),tC (eF (nt hm)),tC (nt hm),tF,.cM (decide ((0:Int)≤ae∧ae<(↑(16:Nat):Int))) true (by ((try simp only [dh,bw,aX,bZ,bX,cJ,cF,lO,gp,bne_eq_false_iff_eq,Z8,aai,ZD,ZV] at*);omega)),.get _ _ _ (@bl (m) (ae) ([ax (au.fk m),ax (au.fc m),ax (au.fz m),ax (au.fs m),ax (au.fo m),av (au.pc m)]) s0 s1),aw c1]).to (by first|((simp only [wk,a7,eJ];repeat' (first|rfl|exact ZX|apply ZI));done)|(simp [wk,a7,u64,];done))
theorem Mo (m:au):aQ Zy 85 ([.agg (eV m)]) (.aL [aq (kL m.q0),ax (qO m.q0)]):=by
 rcases Bool.eq_false_or_eq_true (decide (au.q0 m<(16:Int))) with h0|h0
 ·exact (aQ.aj (d:= .aL [aq (aaY.i64.wrap (au.q0 m)),ax true]) mixed Tryz.func85 (by kernel_rfl) [tC (bK 16 h0)]).to (by first|exact xK h0|exact xL h0)
 ·exact (aQ.aj (d:= .aL [aq 0,ax false]) mixed Tryz.func85 (by kernel_rfl) [tC (bK 16 h0)]).to (by first|exact xK h0|exact xL h0)
theorem Gj (num:Int) (h0:0≤num) (h1:num≤15):aQ Zy 128 ([aq num]) (aq (Int.tmod num 6)):=(aQ.aj (d:= .int .i64 (Int.tmod num (6:Int))) mixed Tryz.func128 (by kernel_rfl) [tC (eF (bM (ZH.2 h0))),tC (eF (bM (ZH.2 h0))),tC (bM (ZH.2 h0)),tC (bK 16 (cq (Int.lt_add_one_of_le h1)))]).to (by simp [wk,a7,cH])
theorem wu (num:Int) (h0:num<0):aQ Zy 128 ([aq num]) (aq 0):=(aQ.aj (d:= .int .i64 0) mixed Tryz.func128 (by kernel_rfl) [tC (eF (cq h0)),tC (eF (cq h0)),tC (cq h0),tT]).to (by simp [wk,a7,cH])
theorem wv (num:Int) (h0:15<num):aQ Zy 128 ([aq num]) (aq 0):=(aQ.aj (d:= .int .i64 0) mixed Tryz.func128 (by kernel_rfl) [tC (eF (lz 0 (bM (by omega:¬num<16)))),tC (eF (lz 0 (bM (by omega:¬num<16)))),tC (lz 0 (bM (by omega:¬num<16))),tC (bK 16 (bM (by omega:¬num<16)))]).to (by simp [wk,a7,cH])
theorem Cn (m:au) (v:Int) (hn:aQ Zy 85 [.agg (eV m)] (.aL [aq v,ax true])) (ha:aQ Zy 128 [aq v] (aq 0)):aQ Zy 86 ([.agg (eV m)]) (bj 1 []):=(aQ.aj (d:= .bc .no 1 []) mixed Tryz.func86 (by kernel_rfl) [aw hn,tF,aw ha,tT]).to (by simp [wk,a7,cH])
theorem Cm (m:au) (v:Int) (hn:aQ Zy 85 [.agg (eV m)] (.aL [aq v,ax true])) (ha:aQ Zy 128 [aq v] (aq 1)):aQ Zy 86 ([.agg (eV m)]) (bj 1 [av m.q7]):=(aQ.aj (d:= .bc .no 1 [av (au.q7 m)]) mixed Tryz.func86 (by kernel_rfl) [aw hn,tF,aw ha,tT]).to (by simp [wk,a7,cH])
theorem Cl (m:au) (v:Int) (hn:aQ Zy 85 [.agg (eV m)] (.aL [aq v,ax true])) (ha:aQ Zy 128 [aq v] (aq 2)):aQ Zy 86 ([.agg (eV m)]) (bj 1 [av m.q7,av m.q6]):=(aQ.aj (d:= .bc .no 1 [av (au.q7 m),av (au.q6 m)]) mixed Tryz.func86 (by kernel_rfl) [aw hn,tF,aw ha,tT]).to (by simp [wk,a7,cH])
theorem Ck (m:au) (v:Int) (hn:aQ Zy 85 [.agg (eV m)] (.aL [aq v,ax true])) (ha:aQ Zy 128 [aq v] (aq 3)):aQ Zy 86 ([.agg (eV m)]) (bj 1 [av m.q7,av m.q6,av m.q2]):=(aQ.aj (d:= .bc .no 1 [av (au.q7 m),av (au.q6 m),av (au.q2 m)]) mixed Tryz.func86 (by kernel_rfl) [aw hn,tF,aw ha,tT]).to (by simp [wk,a7,cH])
theorem Cj (m:au) (v:Int) (hn:aQ Zy 85 [.agg (eV m)] (.aL [aq v,ax true])) (ha:aQ Zy 128 [aq v] (aq 4)):aQ Zy 86 ([.agg (eV m)]) (bj 1 [av m.q7,av m.q6,av m.q2,av m.de]):=(aQ.aj (d:= .bc .no 1 [av (au.q7 m),av (au.q6 m),av (au.q2 m),av (au.de m)]) mixed Tryz.func86 (by kernel_rfl) [aw hn,tF,aw ha,tT]).to (by simp [wk,a7,cH])
theorem Ci (m:au) (v:Int) (hn:aQ Zy 85 [.agg (eV m)] (.aL [aq v,ax true])) (ha:aQ Zy 128 [aq v] (aq 5)):aQ Zy 86 ([.agg (eV m)]) (bj 1 [av m.q7,av m.q6,av m.q2,av m.de,av m.q8]):=(aQ.aj (d:= .bc .no 1 [av (au.q7 m),av (au.q6 m),av (au.q2 m),av (au.de m),av (au.q8 m)]) mixed Tryz.func86 (by kernel_rfl) [aw hn,tF,aw ha,tT]).to (by simp [wk,a7,cH])
abbrev dC (q:D) (cb:List Int):List D:= [bj 1 (bD cb),q,.dz 3 1 64,.dz 5 1 264]
abbrev dS (y0 y1:Ob) (q:D) (cb fr st:List Int):List Ob:= [y0,y1,aY,aA (bD fr),aA (dC q cb),aA (bD st)]
abbrev Bs (q:D) (y1:Ob) (cx:List Int):Prop:=(q= .dz 1 1 cx.length∧y1= .box (bD cx))∨(q= .bc .no 1 (bD cx)∧cx= [])
section
variable (y0 y1:Ob) (q:D) (cb cx fr st:List Int) (hq:Bs q y1 cx) (hc:cb.length≤16384) (hx:cx.length≤256) (hf:fr.length=64) (hs:st.length=264) (a n:Int) (hn:n=1∨n=2∨n=4∨n=8)
include hq
theorem rM {d:D} {B:Int} {L:Nat} (n0:1≤n) (hl:L≤16384) (hd:(d= .bc .no 1 (bD cb)∧(bD cb).length=L)∨(d=q∧cx.length=L)∨(d= .dz 3 1 64∧L=64)∨(d= .dz 5 1 264∧L=264)):
  ∃k:Int,(je B L a n=true→k=(mG B a:Int))∧ao Zy 84 [av a,aq n,av B,d] (dS y0 y1 q cb fr st) (.aL [aq k,ax (je B L a n)]) (dS y0 y1 q cb fr st):=by
 have hB:0≤aaY.u64.wrap (a - B):=by rw [bZ];omega
 have hw:aaY.u64.wrap (L:Int)=(L:Int):=by rw [bZ];omega
 by_cases p:a<B
 ·have k0:decide (a<B)=true:=cq p
  rw [show je B L a n=false from bM (by omega)]
  refine ⟨0,(fun h=>by cases h),?_⟩
  rcases hd with ⟨rfl,rfl⟩|⟨rfl,rfl⟩|⟨rfl,rfl⟩|⟨rfl,rfl⟩<;>rcases hq with ⟨rfl,rfl⟩|⟨rfl,rfl⟩<;>exact ao.aj (aV:=ZL 6) mixed (Zx 7 (tC (eF k0))++ [tC k0,tT]) (by kernel_rfl)
 have k0:decide (a<B)=false:=bM p
 have hk:∀v,decide (aaY.u64.wrap (a - B)≥(L:Int))=v→decide (aaY.u64.wrap (a - B)≥aaY.u64.wrap (L:Int))=v:=fun v h=>by rw [hw];exact h
 by_cases p1:aaY.u64.wrap (a - B)≥(L:Int)
 ·rw [show je B L a n=false from bM (by omega)]
  refine ⟨0,(fun h=>by cases h),?_⟩
  have k1:=hk _ (cq p1)
  rcases hd with ⟨rfl,rfl⟩|⟨rfl,rfl⟩|⟨rfl,rfl⟩|⟨rfl,rfl⟩<;>rcases hq with ⟨rfl,rfl⟩|⟨rfl,rfl⟩<;>exact ao.aj (aV:=ZL 6) mixed (Zx 7 (tC (eF k0))++ [tC k0,tC k1]) (by kernel_rfl)
 have k1:=hk _ (bM p1)
 have XV:aaY.i64.wrap (aaY.u64.wrap (a - B))=(mG B a:Int):=by unfold mG;rw [aX];omega
 refine ⟨_,fun _=>rfl,?_⟩
 have e:D.aL [aq (aaY.i64.wrap (aaY.u64.wrap (a - B))),ax (decide (aaY.i64.wrap ((L:Int) - aaY.i64.wrap (aaY.u64.wrap (a - B)))≥n))]= .aL [aq (mG B a:Int),ax (je B L a n)]:=by
  rw [XV]
  congr 4
  unfold je mG
  refine decide_eq_decide.2 ?_
  rw [aX];omega
 refine ao.cast ?_ e rfl
 clear e XV
 rcases hd with ⟨rfl,rfl⟩|⟨rfl,rfl⟩|⟨rfl,rfl⟩|⟨rfl,rfl⟩<;>rcases hq with ⟨rfl,rfl⟩|⟨rfl,rfl⟩<;>exact ao.aj (aV:=ZL 6) mixed (Zx 7 (tC (eF k0))++ [tC k0,tC k1]) (by kernel_rfl)
theorem Ln (w:Bool) (n0:1≤n) (hc:cb.length≤16384) (hx:cx.length≤256):∃(d:D) (k:Int) (ok:Bool),ao Zy 88 [.ptr false 4 0,av a,aq n,ax w] (dS y0 y1 q cb fr st) (.aL [d,aq k,ax ok]) (dS y0 y1 q cb fr st)∧
  ((je 1048576 cb.length a n=true∧d= .bc .no 1 (bD cb)∧k=(mG 1048576 a:Int)∧ok= !w)∨
  (je 1048576 cb.length a n=false∧je 2097152 cx.length a n=true∧d=q∧k=(mG 2097152 a:Int)∧ok=true)∨
  (je 1048576 cb.length a n=false∧je 2097152 cx.length a n=false∧je 3145728 64 a n=true∧d= .dz 3 1 64∧k=(mG 3145728 a:Int)∧ok=true)∨
  (je 1048576 cb.length a n=false∧je 2097152 cx.length a n=false∧je 3145728 64 a n=false∧je 4194304 264 a n=true∧d= .dz 5 1 264∧k=(mG 4194304 a:Int)∧ok=true)∨
  (je 1048576 cb.length a n=false∧je 2097152 cx.length a n=false∧je 3145728 64 a n=false∧je 4194304 264 a n=false∧d= .dz 5 1 264∧ok=false)):=by
 obtain ⟨k0,e0,h0⟩:=rM y0 y1 q cb cx fr st hq a n (B:=1048576) n0 (by rw [aG];exact hc) (.inl ⟨rfl,rfl⟩)
 obtain ⟨k1,e1,h1⟩:=rM y0 y1 q cb cx fr st hq a n (B:=2097152) n0 (by omega) (.inr (.inl ⟨rfl,rfl⟩))
 obtain ⟨k2,e2,h2⟩:=rM y0 y1 q cb cx fr st hq a n (B:=3145728) (L:=64) n0 (by omega) (.inr (.inr (.inl ⟨rfl,rfl⟩)))
 obtain ⟨k3,e3,h3⟩:=rM y0 y1 q cb cx fr st hq a n (B:=4194304) (L:=264) n0 (by omega) (.inr (.inr (.inr ⟨rfl,rfl⟩)))
 rw [aG] at h0 e0
 cases i0:je 1048576 cb.length a n with
 |true=>
  rw [i0] at h0
  cases e0 i0
  exact ⟨_,_,_,by rcases hq with ⟨rfl,rfl⟩|⟨rfl,rfl⟩<;>exact ao.aj (aV:=ZL 6) mixed [.aI _ _ _ _ _ h0,tT] (by kernel_rfl),.inl ⟨rfl,rfl,rfl,rfl⟩⟩
 |false=>
 rw [i0] at h0
 cases i1:je 2097152 cx.length a n with
 |true=>
  rw [i1] at h1
  cases e1 i1
  exact ⟨_,_,_,by rcases hq with ⟨rfl,rfl⟩|⟨rfl,rfl⟩<;>exact ao.aj (aV:=ZL 6) mixed [.aI _ _ _ _ _ h0,tF,.aI _ _ _ _ _ h1,tT] (by kernel_rfl),.inr (.inl ⟨rfl,rfl,rfl,rfl,rfl⟩)⟩
 |false=>
 rw [i1] at h1
 cases i2:je 3145728 64 a n with
 |true=>
  rw [i2] at h2
  cases e2 i2
  exact ⟨_,_,_,by rcases hq with ⟨rfl,rfl⟩|⟨rfl,rfl⟩<;>exact ao.aj (aV:=ZL 6) mixed [.aI _ _ _ _ _ h0,tF,.aI _ _ _ _ _ h1,tF,.aI _ _ _ _ _ h2,tT] (by kernel_rfl),.inr (.inr (.inl ⟨rfl,rfl,rfl,rfl,rfl,rfl⟩))⟩
 |false=>
 rw [i2] at h2
 refine ⟨.dz 5 1 264,k3,je 4194304 264 a n,by rcases hq with ⟨rfl,rfl⟩|⟨rfl,rfl⟩<;>exact ao.aj (aV:=ZL 6) mixed [.aI _ _ _ _ _ h0,tF,.aI _ _ _ _ _ h1,tF,.aI _ _ _ _ _ h2,tF,.aI _ _ _ _ _ h3] (by kernel_rfl),?_⟩
 cases i3:je 4194304 264 a n with
 |true=>exact .inr (.inr (.inr (.inl ⟨rfl,rfl,rfl,rfl,rfl,e3 i3,rfl⟩)))
 |false=>exact .inr (.inr (.inr (.inr ⟨rfl,rfl,rfl,rfl,rfl,rfl⟩)))
end
def NV (w:Int):Nat→Int
  |0=>w
  |j+1=>(NV w j).fdiv 256
theorem Jq (w:Int):∀j,NV w j=w.fdiv (256^j)
 |0=>by simp [NV]
 |j+1=>by
  rw [NV,Jq w j,Z9 _ (by decide),Z9 _ (Int.pow_nonneg (by decide)),Z9 _ (Int.pow_nonneg (by decide)),Int.ediv_ediv_of_nonneg (Int.pow_nonneg (by decide)),Int.pow_succ]
def NS (cs:List D) (k:Nat) (w:Int):Nat→List D
  |0=>cs
  |j+1=>(NS cs k w j).set (ZJ (aaY.i64.wrap ((k:Int)+(j:Int)))*1) (.int .u8 (aaY.u8.wrap (aaY.u64.wrap ((Zw 64 (NV w j)&&&Zw 64 255).toNat:Int))))
theorem Bu (l:List Int) (k:Nat) (w:Int):∀j,k+j≤16384→NS (bD l) k w j=bD (FN l k w j)
 |0,_=>rfl
 |j+1,h=>by
  have e1:ZJ (aaY.i64.wrap ((k:Int)+(j:Int)))*1=k+j*1:=by rw [aX];omega
  have e2:((Zw 64 (NV w j)&&&Zw 64 255).toNat:Int)=NV w j%256:=and_ones 64 8 (by omega) _
  rw [NS,Bu l k w j (by omega),FN,e1,e2,Jq]
  have e3:aaY.u8.wrap (aaY.u64.wrap (w.fdiv (256^j)%256))=aaY.u8.wrap (w.fdiv (256^j)):=by
   generalize w.fdiv (256^j)=z
   rw [bZ,bw,bw];omega
  rw [e3]
  simp [bD,List.map_set]
theorem OT (l:List Int) (k:Nat) (w:Int) (j:Nat) (h:k+j<l.length) (hl:l.length≤16384):nY (NS (bD l) k w j) (ZJ (aaY.i64.wrap ((k:Int)+(j:Int)))*1) [ay (aaY.u8.wrap (aaY.u64.wrap ((Zw 64 (NV w j)&&&Zw 64 255).toNat:Int)))] (NS (bD l) k w (j+1)):=by
 rw [NS]
 exact EK (by rw [Bu l k w j (by omega),aG,oI,aX];omega)
abbrev iN (n:Int):Nat:=if n=1 then 0 else if n=2 then 1 else if n=4 then 2 else 3
abbrev fZ {P:Program} {g:FuncId} {x y z d:D} {n:Int} {s s':List Ob} (h:ao P g [x,y,aq n,z] s d s'):List (Ev P):=tF:: .inl::((Zx (iN n) [tT,tT,tF]++Zx (3 - iN n) [tF,tF,tT]).flatten++ [tF,.aI _ _ _ _ _ h])
def dE {P:Program} (f:Nat→List (Ev P)):Nat→List (Ev P)
  |0=> [tF]
  |j+1=>tT::(f j++dE f j)
abbrev gZ {P:Program} {g:FuncId} {x y z d:D} {n:Int} {s s':List Ob} (h:ao P g [x,y,aq n,z] s d s') {r:List D} {i:Nat→Nat} {c:Nat→D} {b:Nat→Bool} (t:∀j,j<n.toNat→b j=true) (q:∀j,j<n.toNat→r[i j]? =some (c j)):List (Ev P):=
  fZ h++tF:: .go 64::dE (fun j=>if e:j<n.toNat then [.cM _ true (t j e),.get _ _ _ (q j e)] else []) n.toNat
abbrev SG {P:Program} {g:FuncId} {x y z d:D} {n:Int} {s s':List Ob} (h:ao P g [x,y,aq n,z] s d s') {r:Nat→List D} {i:Nat→Nat} {c:Nat→D} {b:Nat→Bool} (t:∀j,j<n.toNat→b j=true) (q:∀j,j<n.toNat→nY (r j) (i j) [c j] (r (j+1))):List (Ev P):=
  fZ h++tF:: .go 64::((ZL n.toNat).flatMap (fun j=>tT::if e:j<n.toNat then [.cM _ true (t j e),.eU _ _ _ _ (q j e),.raw] else [])++ [tF])
section
variable (y0 y1:Ob) (q:D) (cb cx fr st:List Int) (hq:Bs q y1 cx) (hc:cb.length≤16384) (hx:cx.length≤256) (hf:fr.length=64) (hs:st.length=264) (a n:Int) (hn:n=1∨n=2∨n=4∨n=8)
theorem Sy {l:List Int} {k:Nat} (hk:k+n.toNat≤l.length) (hl:l.length≤16384):∀j,j<n.toNat→(bD l)[ZJ (aaY.i64.wrap ((k:Int)+(j:Int)))*1]? =some (ay (l.getD (k+j) 0)):=fun j h=>by
 rw [show ZJ (aaY.i64.wrap ((k:Int)+(j:Int)))*1=k+j*1 by rw [aX];omega]
 exact FG j (by omega)
include hn
theorem P6 (k:Nat) (hk:k+n.toNat≤cb.length) (hc:cb.length≤16384) (hq:Bs q y1 cx) (hA:ao Zy 88 [.ptr false 4 0,av a,aq n,ax false] (dS y0 y1 q cb fr st) (.aL [bj 1 (bD cb),aq k,ax true]) (dS y0 y1 q cb fr st)):
  ao Zy 56 [.ptr false 4 0,av a,aq n] (dS y0 y1 q cb fr st) (.aL [av (L2 cb k n.toNat),aq 0]) (dS y0 y1 q cb fr st):=by
 rw [L2,oM n.toNat k cb hk]
 have g:∀j,j<n.toNat→(bD cb)[ZJ (aaY.i64.wrap ((k:Int)+(j:Int)))]? =some (ay (cb.getD (k+j) 0)):=fun j h=>(Nat.mul_one _▸Sy n hk hc j h:)
 have t:∀j,j<n.toNat→decide (0≤aaY.i64.wrap ((k:Int)+(j:Int)))=true:=fun j h=>by rw [aX];exact cq (by omega)
 rcases hq with ⟨rfl,rfl⟩|⟨rfl,rfl⟩<;>rcases hn with rfl|rfl|rfl|rfl<;>exact ao.aj (aV:=ZL 6) mixed (gZ hA t g) (by kernel_rfl)
theorem J0 {d:D} {l:List Int} {L:Nat} (hL:l.length=L) (hl:L≤264) (k:Nat) (hk:k+n.toNat≤L) (hd:(d= .dz 1 1 L∧l=cx∧q= .dz 1 1 L∧y1= .box (bD cx))∨(Bs q y1 cx∧d= .dz 3 1 L∧l=fr∧L=64)∨(Bs q y1 cx∧d= .dz 5 1 L∧l=st∧L=264)) (hA:ao Zy 88 [.ptr false 4 0,av a,aq n,ax false] (dS y0 y1 q cb fr st) (.aL [d,aq k,ax true]) (dS y0 y1 q cb fr st)):
  ao Zy 56 [.ptr false 4 0,av a,aq n] (dS y0 y1 q cb fr st) (.aL [av (L2 l k n.toNat),aq 0]) (dS y0 y1 q cb fr st):=by
 rw [L2,oM n.toNat k l (by omega)]
 have g:=Sy n (l:=l) (k:=k) (by omega) (by omega)
 have t:∀j,j<n.toNat→decide (0≤aaY.i64.wrap ((k:Int)+(j:Int))∧aaY.i64.wrap ((k:Int)+(j:Int))<(L:Int))=true:=fun j h=>by rw [aX];exact cq (by omega)
 clear hL
 rcases hd with ⟨rfl,rfl,rfl,rfl⟩|⟨⟨rfl,rfl⟩|⟨rfl,rfl⟩,rfl,rfl,rfl⟩|⟨⟨rfl,rfl⟩|⟨rfl,rfl⟩,rfl,rfl,rfl⟩<;>rcases hn with rfl|rfl|rfl|rfl<;>exact ao.aj (aV:=ZL 6) mixed (gZ hA t g) (by kernel_rfl)
theorem IZ (w:Int) {d:D} {l:List Int} {L:Nat} {S:List Ob} (hL:l.length=L) (hl:L≤264) (k:Nat) (hk:k+n.toNat≤L) (hd:(d= .dz 1 1 L∧l=cx∧q= .dz 1 1 L∧y1= .box (bD cx)∧S=dS y0 (aA (bD (FN l k w n.toNat))) q cb fr st)∨(Bs q y1 cx∧d= .dz 3 1 L∧l=fr∧L=64∧S=dS y0 y1 q cb (FN l k w n.toNat) st)∨(Bs q y1 cx∧d= .dz 5 1 L∧l=st∧L=264∧S=dS y0 y1 q cb fr (FN l k w n.toNat))) (hA:ao Zy 88 [.ptr false 4 0,av a,aq n,ax true] (dS y0 y1 q cb fr st) (.aL [d,aq k,ax true]) (dS y0 y1 q cb fr st)):
  ao Zy 54 [.ptr false 4 0,av a,aq n,av w] (dS y0 y1 q cb fr st) (aq 0) S:=by
 have p:∀j,j<n.toNat→nY (NS (bD l) k w j) _ _ (NS (bD l) k w (j+1)):=fun j h=>OT l k w j (by omega) (by omega)
 have t:∀j,j<n.toNat→decide (0≤aaY.i64.wrap ((k:Int)+(j:Int))∧aaY.i64.wrap ((k:Int)+(j:Int))<(L:Int))=true:=fun j h=>by rw [aX];exact cq (by omega)
 have e:=Bu l k w n.toNat (by omega)
 unfold dS at hd
 rw [← e] at hd
 clear hL e
 rcases hd with ⟨rfl,rfl,rfl,rfl,rfl⟩|⟨⟨rfl,rfl⟩|⟨rfl,rfl⟩,rfl,rfl,rfl,rfl⟩|⟨⟨rfl,rfl⟩|⟨rfl,rfl⟩,rfl,rfl,rfl,rfl⟩<;>rcases hn with rfl|rfl|rfl|rfl<;>exact ao.aj (aV:=ZL 6) mixed (SG hA t p) (by kernel_rfl)
end
def yX (q:D) (y1:Ob) (c:List Int):Ob:=match q with| .dz _ _ _=> .box (bD c)|_=>y1
theorem J6 {q:D} {y1:Ob} {cx:List Int} (h:Bs q y1 cx) {B a n:Int} (hn:1≤n) (i:je B cx.length a n=true):q= .dz 1 1 cx.length∧y1= .box (bD cx):=by
 rcases h with h|⟨_,rfl⟩
 ·exact h
 ·have:=N6 i
  have h0:0≤aaY.u64.wrap (a - B):=by rw [bZ];omega
  simp only [List.length_nil] at this
  omega
section
variable (y0 y1:Ob) (q:D) (cb cx fr st:List Int) (hq:Bs q y1 cx) (hc:cb.length≤16384) (hx:cx.length≤256) (hf:fr.length=64) (hs:st.length=264) (a n:Int) (hn:n=1∨n=2∨n=4∨n=8)
include hn hq hc hx hf hs
theorem Nw:ao Zy 56 [.ptr false 4 0,av a,aq n] (dS y0 y1 q cb fr st) (match jW cb cx fr st a n with|some z=> .aL [av z,aq 0]|none=> .aL [av 0,aq 20]) (dS y0 y1 q cb fr st):=by
 obtain ⟨d,k,ok,hA,h⟩:=Ln y0 y1 q cb cx fr st hq a n false (by omega) hc hx
 unfold jW
 rcases h with ⟨i0,rfl,rfl,rfl⟩|⟨i0,i1,rfl,rfl,rfl⟩|⟨i0,i1,i2,rfl,rfl,rfl⟩|⟨i0,i1,i2,i3,rfl,rfl,rfl⟩|⟨i0,i1,i2,i3,rfl,rfl⟩
 ·rw [if_pos i0]
  exact P6 y0 y1 q cb cx fr st a n hn _ (of_le i0 (by omega)) hc hq hA
 ·rw [if_neg (by rw [i0];simp),if_pos i1]
  obtain ⟨rfl,rfl⟩:=J6 hq (by omega) i1
  exact J0 y0 _ _ cb cx fr st a n hn rfl (by omega) _ (of_le i1 (by omega)) (.inl ⟨rfl,rfl,rfl,rfl⟩) hA
 ·rw [if_neg (by rw [i0];simp),if_neg (by rw [i1];simp),if_pos i2]
  exact J0 y0 _ _ cb cx fr st a n hn hf (by omega) _ (of_le i2 (by omega)) (.inr (.inl ⟨hq,rfl,rfl,rfl⟩)) hA
 ·rw [if_neg (by rw [i0];simp),if_neg (by rw [i1];simp),if_neg (by rw [i2];simp),if_pos i3]
  exact J0 y0 _ _ cb cx fr st a n hn hs (by omega) _ (of_le i3 (by omega)) (.inr (.inr ⟨hq,rfl,rfl,rfl⟩)) hA
 ·rw [if_neg (by rw [i0];simp),if_neg (by rw [i1];simp),if_neg (by rw [i2];simp),if_neg (by rw [i3];simp)]
  rcases hq with ⟨rfl,rfl⟩|⟨rfl,rfl⟩<;>rcases hn with rfl|rfl|rfl|rfl<;>exact ao.aj (aV:=ZL 6) mixed (fZ hA++ [tT]) (by kernel_rfl)
theorem Ls (w:Int):ao Zy 54 [.ptr false 4 0,av a,aq n,av w] (dS y0 y1 q cb fr st) (match iH cx fr st a n w with|some _=> .int .i64 0|none=> .int .i64 20) (match iH cx fr st a n w with|some r=>dS y0 (yX q y1 r.1) q cb r.2.1 r.2.2|none=>dS y0 y1 q cb fr st):=by
 obtain ⟨d,k,ok,hA,h⟩:=Ln y0 y1 q cb cx fr st hq a n true (by omega) hc hx
 have yq:∀c,Bs q y1 c→yX q y1 c=y1:=fun c h=>by rcases h with ⟨rfl,rfl⟩|⟨rfl,_⟩<;>rfl
 have no:(d= .bc .no 1 (bD cb)∨d= .dz 5 1 264)→ok=false→ao Zy 54 [.ptr false 4 0,av a,aq n,av w] (dS y0 y1 q cb fr st) (aq 20) (dS y0 y1 q cb fr st):=fun hd e=>by
  subst e
  clear h
  rcases hd with rfl|rfl<;>rcases hq with ⟨rfl,rfl⟩|⟨rfl,rfl⟩<;>rcases hn with rfl|rfl|rfl|rfl<;>exact ao.aj (aV:=ZL 6) mixed (fZ hA++ [tT]) (by kernel_rfl)
 unfold iH
 rcases h with ⟨i0,rfl,rfl,rfl⟩|⟨i0,i1,rfl,rfl,rfl⟩|⟨i0,i1,i2,rfl,rfl,rfl⟩|⟨i0,i1,i2,i3,rfl,rfl,rfl⟩|⟨i0,i1,i2,i3,rfl,rfl⟩
 ·have y0:=N6 i0
  rw [bZ] at y0
  rw [if_neg (fun i=>by have y:=N6 i;rw [bZ] at y;omega),if_neg (fun i=>by have y:=N6 i;rw [bZ] at y;omega),if_neg (fun i=>by have y:=N6 i;rw [bZ] at y;omega)]
  exact no (.inl rfl) rfl
 ·rw [if_pos i1]
  obtain ⟨rfl,rfl⟩:=J6 hq (by omega) i1
  exact IZ y0 _ _ cb cx fr st a n hn w rfl (by omega) _ (of_le i1 (by omega)) (.inl ⟨rfl,rfl,rfl,rfl,rfl⟩) hA
 ·rw [if_neg (by rw [i1];simp),if_pos i2]
  simp only [yq cx hq]
  exact IZ y0 _ _ cb cx fr st a n hn w hf (by omega) _ (of_le i2 (by omega)) (.inr (.inl ⟨hq,rfl,rfl,rfl,rfl⟩)) hA
 ·rw [if_neg (by rw [i1];simp),if_neg (by rw [i2];simp),if_pos i3]
  simp only [yq cx hq]
  exact IZ y0 _ _ cb cx fr st a n hn w hs (by omega) _ (of_le i3 (by omega)) (.inr (.inr ⟨hq,rfl,rfl,rfl,rfl⟩)) hA
 ·rw [if_neg (by rw [i1];simp),if_neg (by rw [i2];simp),if_neg (by rw [i3];simp)]
  exact no (.inr rfl) rfl
end
theorem nq (l:List Int) (hc:db (bD l)=some (bD l)) (bb:(bD l).all isByte=true) (hl:(bD l).length≤16384):aQ Zy 50 ([bj 1 (bD l)]) (bj 1 (bD l)):=(aQ.aj (d:= .bc (.fresh 1) 1 (bD l)) mixed Tryz.func50 (by kernel_rfl) [.len ((0:Nat)+ZA (bD l)) ((2147483648:Nat)) (by first|decide|omega|(simp;omega))]).to (by simp [wk,a7,cH])
theorem Gb (l:List Int) (hc:db (bD l)=some (bD l)) (bb:(bD l).all isByte=true) (hl:(bD l).length≤16384) (h0:Nat.blt 0 (bD l).length=true):ao Zy 50 ([bj 1 (bD l)]) ([]) (.dz 0 1 (bD l).length) ([aA (bD l)]):=(ao.aj (aV:= [0]) (d:= .dz 0 1 (ZA (bD l))) (s':= [aA (bD l)]) mixed [.go 0,.len (ZA (bD l)) ((2147483648:Nat)) (by first|decide|omega|(simp;omega)),.L9 _ _ hc,tC (v:=true) h0,.raw]).cast (by rfl) (by rfl)
theorem QN {P:Program} {f:FuncId} {args:List D} {s s':List Ob} {d:D} (h:ao P f args s d s'):ao P f args s d.bn s':=
 ⟨h.Ij,h.len,fun w0 M own w vs a b c=>Calls.mono (h.run w0 M own w vs a b c) fun _ _ ⟨v,M',Tj,q1,q2,q3,q4,q5⟩=>⟨v,M',Tj,q1,q2,q3,q4,q5.bn⟩⟩
section
variable (y0 y1:Ob) (q:D) (cb cx fr st:List Int) (hq:Bs q y1 cx) (hx:cx.length≤256)
include hq hx
theorem A9 (hc:cb.length≤16384) (a:Int):ao Zy 51 [.ptr false 4 0,av a] (dS y0 y1 q cb fr st) (if je 1048576 cb.length a 1=true then .aL [bj 1 (bD (cb.drop (mG 1048576 a))),aq 0] else .aL [.bc .tight 0 [],aq 20]) (dS y0 y1 q cb fr st++if je 1048576 cb.length a 1=true then [aY] else []):=by
 obtain ⟨k,e,h⟩:=rM y0 y1 q cb cx fr st hq a 1 (B:=1048576) (by decide) (by rw [aG];exact hc) (.inl ⟨rfl,rfl⟩)
 rw [aG] at h e
 cases i:je 1048576 cb.length a 1 with
 |false=>
  rw [i] at h
  rcases hq with ⟨rfl,rfl⟩|⟨rfl,rfl⟩<;>exact ao.aj (aV:=ZL 6) mixed [tF,.aI _ _ _ _ _ h,tT] (by kernel_rfl)
 |true=>
  rw [i] at h
  cases e i
  have le:=of_le i (by decide)
  have hS:=nq (cb.drop (mG 1048576 a)) (eR _) (cL _) (by rw [aG,List.length_drop];omega)
  rw [show bD (cb.drop (mG 1048576 a))=List.drop (mG 1048576 a) (bD cb) from List.map_drop ..] at hS ⊢
  have t:decide ((0:Int)≤(mG 1048576 a:Int)∧(mG 1048576 a:Int)≤((bD cb).length:Int))=true:=by rw [aG];exact cq (by omega)
  rcases hq with ⟨rfl,rfl⟩|⟨rfl,rfl⟩<;>exact ao.aj (aV:=ZL 6) mixed [tF,.aI _ _ _ _ _ h,tF,.cM _ true t,aw hS] (by kernel_rfl)
theorem PB:ao Zy 30 [.ptr false 4 0] (dS y0 y1 q cb fr st) (bj 1 (bD cx)) (dS y0 y1 q cb fr st++ [aY]):=by
 rcases hq with ⟨rfl,rfl⟩|⟨rfl,rfl⟩
 ·have hl:(bD cx).length=cx.length:=aG cx
  have h:ao Zy 30 [.ptr false 4 0] (dS y0 (aA (bD cx)) (.dz 1 1 cx.length) cb fr st) (.bc (.tok 6 0) 1 (bD cx)) (dS y0 (aA (bD cx)) (.dz 1 1 cx.length) cb fr st++ [aY]):=(ao.aj (aV:=ZL 6) mixed [tF,aO,.len cx.length 2147483648 (by omega),.go 2,.fU _ _ _ _ (@AM (bD cx) (cx.length*1) (by omega)),tC (v:=true) (cL cx)] (by kernel_rfl))
  exact QN h
 ·have hS:=nq [] (eR _) (cL _) (by simp [bD])
  exact ao.aj (aV:=ZL 6) mixed [tF,aw hS] (by kernel_rfl)
end
theorem J5 (X0 X2:List D) (b:List Int) (k:Nat) (bad w:Bool) (rr mm:Int) (l1:((bD b).length:Int)≤1000) (h:(k:Int)<((bD b).length:Int)) (v:Int) (hv:(bD b)[ZJ (aaY.i64.wrap (aaY.i64.wrap ((k:Int)+1) - 1))]? =some (ay v)):ao Zy 38 ([.ptr false 1 0]) ([aA X0,aA [bj 1 (bD b),aq ((k:Int)),ax bad,ax w,ak rr,ak mm],aA X2]) (aq (aaY.i64.wrap v)) ([aA X0,aA [bj 1 (bD b),aq (aaY.i64.wrap ((k:Int)+1)),ax bad,ax w,ak rr,ak mm],aA X2]):=(ao.aj (aV:= [0,1,2]) (d:= .int .i64 (aaY.wrap aaY.i64 v)) (s':= [aA X0,aA [bj 1 (bD b),aq (aaY.i64.wrap ((↑k:Int)+(1:Int))),ax bad,ax w,ak rr,ak mm],aA X2]) mixed [tC (by ((try simp only [aG,dh,bw,aX,bZ,bX,cJ,cF,lO,gp,bne_eq_false_iff_eq,Z8,aai,ZD,ZV] at*);(try unfold dK at*);omega):(decide ((↑k:Int)≥(↑(ZA (bD b)):Int)))=false),.cM (decide ((0:Int)≤aaY.i64.wrap (aaY.i64.wrap ((↑k:Int)+(1:Int)) - (1:Int)))) true (by ((try simp only [aG,dh,bw,aX,bZ,bX,cJ,cF,lO,gp,bne_eq_false_iff_eq,Z8,aai,ZD,ZV] at*);(try unfold dK at*);omega)),.get _ _ _ hv]).cast (by rfl) (by rfl)
theorem Gv (X0 X2:List D) (b:List Int) (k:Nat) (bad w:Bool) (rr mm:Int) (l1:((bD b).length:Int)≤1000) (h:((bD b).length:Int)≤(k:Int)):ao Zy 38 ([.ptr false 1 0]) ([aA X0,aA [bj 1 (bD b),aq ((k:Int)),ax bad,ax w,ak rr,ak mm],aA X2]) (aq 0) ([aA X0,aA [bj 1 (bD b),aq ((k:Int)),ax true,ax w,ak rr,ak mm],aA X2]):=(ao.aj (aV:= [0,1,2]) (d:= .int .i64 0) (s':= [aA X0,aA [bj 1 (bD b),aq (↑k:Int),ax true,ax w,ak rr,ak mm],aA X2]) mixed [tC (by ((try simp only [aG,dh,bw,aX,bZ,bX,cJ,cF,lO,gp,bne_eq_false_iff_eq,Z8,aai,ZD,ZV] at*);(try unfold dK at*);omega):(decide ((↑k:Int)≥(↑(ZA (bD b)):Int)))=true)]).cast (by rfl) (by rfl)
abbrev Bq (X0 X2:List D) (b:List Int) (k:Nat) (bad w:Bool) (rr mm:Int):List Ob:= [aA X0,aA [bj 1 (bD b),aq (k:Int),ax bad,ax w,ak rr,ak mm],aA X2]
theorem dV {b:List Int} (hb:dx b) (k:Nat):0≤aM b k∧aM b k≤255:=by
 unfold aM
 rw [ZF]
 cases e:b[k]? with
 |none=>simp
 |some v=>simpa using hb v (List.mem_of_getElem? e)
theorem bI (X0 X2:List D) (b:List Int) (hb:dx b) (hl:b.length≤1000) (k:Nat) (bad w:Bool) (rr mm:Int):ao Zy 38 [.ptr false 1 0] (Bq X0 X2 b k bad w rr mm) (aq (aM b k)) (Bq X0 X2 b (aN b k) (cu b k bad) w rr mm):=by
 have l1:((bD b).length:Int)≤1000:=by rw [aG];omega
 by_cases h:k<b.length
 ·have hw:aaY.i64.wrap ((k:Int)+1)=((k+1:Nat):Int):=by rw [aX];omega
  have UF:aaY.i64.wrap (aaY.i64.wrap ((k:Int)+1) - 1)=(k:Int):=by rw [hw,aX];omega
  have hv:(bD b)[ZJ (aaY.i64.wrap (aaY.i64.wrap ((k:Int)+1) - 1))]? =some (ay (aM b k)):=by
   rw [UF,Int.toNat_natCast]
   unfold aM bD
   simp [h,ZF]
  have:=J5 X0 X2 b k bad w rr mm l1 (by rw [aG];omega) (aM b k) hv
  have hr:=dV hb k
  have e:aaY.i64.wrap (aM b k)=aM b k:=by rw [aX];omega
  have e1:aN b k=k+1:=by unfold aN;rw [if_pos h]
  have e2:cu b k bad=bad:=by unfold cu;rw [bM (by omega),Bool.or_false]
  rw [hw,e] at this
  rw [e1,e2]
  exact this
 ·have:=Gv X0 X2 b k bad w rr mm l1 (by rw [aG];omega)
  have e0:aM b k=0:=by unfold aM;rw [ZF,List.getElem?_eq_none (by omega)];rfl
  have e1:aN b k=k:=by unfold aN;rw [if_neg h]
  have e2:cu b k bad=true:=by unfold cu;rw [cq (by omega),Bool.or_true]
  rw [e0,e1,e2]
  exact this
theorem JF (X0 X2:List D) (b:List Int) (hb:dx b) (hl:b.length≤1000) (k:Nat) (bad w:Bool) (rr mm:Int) (u:Int) (hs:aQ Zy 59 [av (aaY.u64.wrap (0+aaY.u64.wrap (aaY.u64.wrap (aM b (k))*1))),ak 8] (av u)):ao Zy 37 ([.ptr false 1 0,aq 1]) ([aA X0,aA [bj 1 (bD b),aq ((k:Int)),ax (bad),ax w,ak rr,ak mm],aA X2]) (aq (aaY.i64.wrap u)) ([aA X0,aA [bj 1 (bD b),aq ((aN b (k):Nat)),ax (cu b (k) (bad)),ax w,ak rr,ak mm],aA X2,aY]):=(ao.aj (aV:= [0,1,2]) (d:= .int .i64 (aaY.wrap aaY.i64 u)) (s':= [aA X0,aA [bj 1 (bD b),aq (↑(aN b k):Int),ax (cu b k bad),ax w,ak rr,ak mm],aA X2,aY]) mixed [.go 64,tT,.aI _ _ _ _ _ (@bI (X0) (X2) (b) hb hl (k) (bad) (w) (rr) (mm)),tT,tF,aw hs]).cast (by rfl) (by rfl)
theorem JE (X0 X2:List D) (b:List Int) (hb:dx b) (hl:b.length≤1000) (k:Nat) (bad w:Bool) (rr mm:Int) (u:Int) (hs:aQ Zy 59 [av (aaY.u64.wrap (aaY.u64.wrap (aaY.u64.wrap (aaY.u64.wrap (0+aaY.u64.wrap (aaY.u64.wrap (aM b (k))*1))+aaY.u64.wrap (aaY.u64.wrap (aM b (aN b (k)))*256))+aaY.u64.wrap (aaY.u64.wrap (aM b (aN b (aN b (k))))*65536))+aaY.u64.wrap (aaY.u64.wrap (aM b (aN b (aN b (aN b (k)))))*16777216))),ak 32] (av u)):ao Zy 37 ([.ptr false 1 0,aq 4]) ([aA X0,aA [bj 1 (bD b),aq ((k:Int)),ax (bad),ax w,ak rr,ak mm],aA X2]) (aq (aaY.i64.wrap u)) ([aA X0,aA [bj 1 (bD b),aq ((aN b (aN b (aN b (aN b (k)))):Nat)),ax (cu b (aN b (aN b (aN b (k)))) (cu b (aN b (aN b (k))) (cu b (aN b (k)) (cu b (k) (bad))))),ax w,ak rr,ak mm],aA X2,aY]):=(ao.aj (aV:= [0,1,2]) (d:= .int .i64 (aaY.wrap aaY.i64 u)) (s':= [aA X0,aA [bj 1 (bD b),aq (↑(aN b (aN b (aN b (aN b k)))):Int),ax (cu b (aN b (aN b (aN b k))) (cu b (aN b (aN b k)) (cu b (aN b k) (cu b k bad)))),ax w,ak rr,ak mm],aA X2,aY]) mixed [.go 64,tT,.aI _ _ _ _ _ (@bI (X0) (X2) (b) hb hl (k) (bad) (w) (rr) (mm)),tT,tT,.aI _ _ _ _ _ (@bI (X0) (X2) (b) hb hl (aN b k) (cu b k bad) (w) (rr) (mm)),tT,tT,.aI _ _ _ _ _ (@bI (X0) (X2) (b) hb hl (aN b (aN b k)) (cu b (aN b k) (cu b k bad)) (w) (rr) (mm)),tT,tT,.aI _ _ _ _ _ (@bI (X0) (X2) (b) hb hl (aN b (aN b (aN b k))) (cu b (aN b (aN b k)) (cu b (aN b k) (cu b k bad))) (w) (rr) (mm)),tT,tF,aw hs]).cast (by rfl) (by rfl)
theorem Om {a b c d:Int} (ha:0≤a∧a≤255) (hb:0≤b∧b≤255) (hc:0≤c∧c≤255) (hd:0≤d∧d≤255):
  aaY.u64.wrap (aaY.u64.wrap (aaY.u64.wrap (aaY.u64.wrap (0+aaY.u64.wrap (aaY.u64.wrap a*1))+aaY.u64.wrap (aaY.u64.wrap b*256))+aaY.u64.wrap (aaY.u64.wrap c*65536))+aaY.u64.wrap (aaY.u64.wrap d*16777216))=a+256*b+65536*c+16777216*d:=by
 simp only [bZ]
 omega
theorem Jr {v:Int} (h:0≤v∧v≤4294967295):aaY.i64.wrap (fg v 32)=aaY.i32.wrap v:=by
 rw [show fg v 32=aaY.u64.wrap (aaY.i32.wrap v) from rfl,aX,bZ,nS]
 omega
theorem P0 {v:Int} (h:0≤v∧v≤255):aaY.i64.wrap (fg v 8)=aaY.i8.wrap v:=by
 rw [show fg v 8=aaY.u64.wrap (aaY.i8.wrap v) from rfl,aX,bZ,dh]
 omega
theorem eh (X0 X2:List D) (b:List Int) (hb:dx b) (hl:b.length≤1000) (k:Nat) (bad w:Bool) (rr mm:Int):ao Zy 37 [.ptr false 1 0,aq 4] (Bq X0 X2 b k bad w rr mm) (aq (eN b k)) (Bq X0 X2 b (dF b k) (dI b k bad) w rr mm++ [aY]):=by
 have h0:=dV hb k
 have h1:=dV hb (aN b k)
 have h2:=dV hb (aN b (aN b k))
 have h3:=dV hb (aN b (aN b (aN b k)))
 have e:=Om h0 h1 h2 h3
 have:=JE X0 X2 b hb hl k bad w rr mm (fg (aM b k+256*aM b (aN b k)+65536*aM b (aN b (aN b k))+16777216*aM b (aN b (aN b (aN b k)))) 32) (by rw [e];exact kQ _)
 rw [Jr (by omega)] at this
 exact this
theorem CE (X0 X2:List D) (b:List Int) (hb:dx b) (hl:b.length≤1000) (k:Nat) (bad w:Bool) (rr mm:Int):ao Zy 37 [.ptr false 1 0,aq 1] (Bq X0 X2 b k bad w rr mm) (aq (uo b k)) (Bq X0 X2 b (aN b k) (cu b k bad) w rr mm++ [aY]):=by
 have h0:=dV hb k
 have e:aaY.u64.wrap (0+aaY.u64.wrap (aaY.u64.wrap (aM b k)*1))=aM b k:=by simp only [bZ];omega
 have:=JF X0 X2 b hb hl k bad w rr mm (fg (aM b k) 8) (by rw [e];exact so _)
 rw [P0 h0] at this
 exact this
abbrev zX:List D:= [ak 0,ak 0,ak 0,ak 0,ak 0,aq 0,aq 0,ak 0]
abbrev xC (op w ab ae aa af ai cc:Int):List D:= [ak op,ak w,ak ab,ak ae,ak aa,aq af,aq ai,ak cc]
abbrev bR (b:List Int) (a:Int) (x w:Bool) (rr mm:Int):Ob:= .box [bj 1 (bD b),aq a,ax x,ax w,ak rr,ak mm]
abbrev fQ:HS:=⟨[0,2,5,6],[0,1,2],[]⟩
abbrev tQ (b:List Int) (n:Int) (half:Bool):List D:=((bj 1 (bD b))::(mH)::(.ptr false 0 0)::(mH)::(mH)::(.ptr false 1 0)::(.ptr false 2 0)::(aq n)::(ax half)::(un 19++(aq n)::(un 200)))
abbrev tU (b:List Int):List D:=((bj 1 (bD b))::(mH)::(.ptr false 0 0)::(mH)::(mH)::(.ptr false 1 0)::(.ptr false 2 0)::(un 222))
theorem iu:(∀l:List Int,(bD l).length=l.length)∧(∀n:Int,aaY.i8.wrap n=(n+128)%256 - 128)∧(∀n:Int,aaY.u8.wrap n=n%256)∧(∀n:Int,aaY.i64.wrap n=(n+9223372036854775808)%18446744073709551616 - 9223372036854775808)∧(∀n:Int,aaY.u64.wrap n=n%18446744073709551616)∧(∀ {p:Prop} [Decidable p],(decide p=true)=p)∧(∀ {p:Prop} [Decidable p],(decide p=false)↔ ¬p)∧(∀ {α:Type} [BEq α] [LawfulBEq α] {a b:α},(a==b)=true↔a=b)∧(∀ {α:Type} [BEq α] [LawfulBEq α] {a b:α},(a !=b)=true↔a≠b)∧(∀ {α:Type} [BEq α] [LawfulBEq α] {a b:α},(a==b)=false↔a≠b)∧(∀ {α:Type} [BEq α] [LawfulBEq α] {a b:α},(a !=b)=false↔a=b)∧(∀(b:Bool),((!b)=true)=(b=false))∧(∀(b:Bool),((!b)=false)=(b=true))∧(∀(a b:Bool),((a&&b)=true)=(a=true∧b=true))∧(∀(a b:Bool),((a||b)=true)=(a=true∨b=true)):=
 ⟨aG,dh,bw,aX,bZ,@bX,@cJ,@cF,@lO,@gp,@bne_eq_false_iff_eq,by intro b;cases b<;>simp,by intro b;cases b<;>simp,by intro a b;simp,by intro a b;simp⟩
end Go.Proofs.YtbfpahigdpigpaaGreat
