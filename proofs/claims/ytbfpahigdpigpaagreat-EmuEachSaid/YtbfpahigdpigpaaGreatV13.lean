import Derived.Test.YtbfpahigdpigpaaGreatV08
import Derived.Test.YtbfpahigdpigpaaGreatV12
open List renaming replicate→Zx
open Go.Proofs.Tryz renaming prog→Zy,func163→aaG
open And renaming intro→ZI
open True renaming intro→ZX
open Go.Fn renaming func→aaw
open Go renaming IntKind→aaY
/- Contracts and plain laws that a statement's proof leans on (texts merged:Y1b,Y1c,Y1d,E0F0,E0F,ESC,E1e,Y1f,ESM,EM3A). -/
set_option linter.unusedVariables false
set_option linter.unusedSimpArgs false
set_option maxRecDepth 100000
set_option maxHeartbeats 8000000
namespace Go.Proofs.YtbfpahigdpigpaaGreat
open Go Go.Ev
def R6:List D:= [D.fn (aaw 117) [.ptr false 4 0] [],D.fn (aaw 118) [.ptr false 4 0] [],D.cg,D.cg,D.cg,D.cg,D.cg,D.cg,D.cg,D.cg,D.cg,D.cg,D.cg,D.cg,D.cg,D.cg,D.cg,D.cg,D.cg,D.cg,D.cg,D.cg,D.cg,D.cg,D.fn (aaw 119) [.ptr false 4 0] [],D.fn (aaw 120) [.ptr false 4 0] [],D.fn (aaw 121) [.ptr false 4 0] [],D.fn (aaw 122) [.ptr false 4 0] [],D.fn (aaw 123) [.ptr false 4 0] [],D.fn (aaw 124) [.ptr false 4 0] [],D.fn (aaw 125) [.ptr false 4 0] [],D.fn (aaw 126) [.ptr false 4 0] []]
def rV:List (Int×D):= [((2:Int),ak 0),((9:Int),ak 0),((3:Int),ak 4),((10:Int),ak 4),((4:Int),ak 5),((11:Int),ak 5),((8:Int),ak 5),((15:Int),ak 5),((5:Int),ak 1),((12:Int),ak 1),((7:Int),ak 1),((14:Int),ak 1),((6:Int),ak 10),((13:Int),ak 10),((16:Int),ak 2),((17:Int),ak 6),((20:Int),ak 6),((18:Int),ak 7),((21:Int),ak 7),((19:Int),ak 12),((22:Int),ak 12),((23:Int),ak 8)]
def oB (Tz:Int):Prop:= ∀(m:au) (w ab ae aa af ai cc ld:Int) (d0:0≤ab) (d1:ab≤15) (s0:0≤ae) (s1:ae≤15) (b0:0≤aa) (b1:aa≤15) (hm:bL Tz w ab ae aa af ai cc=true) (hw:aP w=true),aQ Zy 83 ([m.d,xD Tz w ab ae aa af ai cc,av ld]) (.aL [(gF (m.at (u64 (m.pc+u64 (ct Tz w ab ae aa af ai cc)))) ⟨Tz,w,ab,ae,aa,af,ai,cc⟩ ld).1.d,aq 0])
theorem H8:oB 3:=by
 intro m w ab ae aa af ai cc ld d0 d1 s0 s1 b0 b1 hm hw
 have c0:= @bg 3 w ab ae aa af ai cc (by decide)
 rw [hm] at c0
 have c1:= @cU 3 w ab ae aa af ai cc (by decide)
 have c2:= @Bj w (rg (au.rl m) ab) (rg (au.rl m) ae) hw
 have c3:= @k9 w (fB 4 w (rg (au.rl m) ab) (rg (au.rl m) ae)) hw
 have c4:= @b5 3 w ab ae aa af ai cc (by decide)
 exact (l6 (d:= .aL [(gF (m.at (u64 (m.pc+u64 (ct 3 w ab ae aa af ai cc)))) ⟨3,w,ab,ae,aa,af,ai,cc⟩ ld).1.d,aq 0]) ([aw c0,tF,aw c1,tT,tT,aO,aO,.aV [(4,aA (au.cw m (dp m 3 w ab ae aa af ai cc) (xT 3 w ab ae aa af ai cc ld)))],.j5 rV 3 (some (ak 4)) rfl,.cM _ true (cz d0 d1),.get _ _ _ (@bl m ab ((fT m (dp m 3 w ab ae aa af ai cc) (xT 3 w ab ae aa af ai cc ld))) d0 d1),aO]++Zx 24 tF++ [.cM _ true (cz s0 s1),.get _ _ _ (@bl m ae ((fT m (dp m 3 w ab ae aa af ai cc) (xT 3 w ab ae aa af ai cc ld))) s0 s1),.aV [(4,aA (au.cw m (dp m 3 w ab ae aa af ai cc) (xT 3 w ab ae aa af ai cc ld)))],aw c2,tF,tF,tF,tF,tT,tT,aw c3,aw c4,tC (nt (@jt 3 w ab ae aa af ai cc hm d0 d1 (rfl:true=true))),.cM _ true (cz d0 d1),.eU _ _ _ _ (@bV m ab (fB 4 w (rg (au.rl m) ab) (rg (au.rl m) ae)) ([ax true,ax false,ax (aJ (fB 4 w (rg (au.rl m) ab) (rg (au.rl m) ae)) w==0),ax (fL (fB 4 w (rg (au.rl m) ab) (rg (au.rl m) ae)) w),ax false,av (dp m 3 w ab ae aa af ai cc),ak 3,ak w,ak ab,ak ae,ak aa,aq af,aq ai,ak cc,av ld]) d0 d1),tF]) (by kernel_rfl))
theorem H7:oB 4:=by
 intro m w ab ae aa af ai cc ld d0 d1 s0 s1 b0 b1 hm hw
 have c0:= @bg 4 w ab ae aa af ai cc (by decide)
 rw [hm] at c0
 have c1:= @cU 4 w ab ae aa af ai cc (by decide)
 have c2:= @pJ w (rg (au.rl m) ab) (rg (au.rl m) ae) hw
 have c3:= @k9 w (fB 5 w (rg (au.rl m) ab) (rg (au.rl m) ae)) hw
 have c4:= @b5 4 w ab ae aa af ai cc (by decide)
 exact (l6 (d:= .aL [(gF (m.at (u64 (m.pc+u64 (ct 4 w ab ae aa af ai cc)))) ⟨4,w,ab,ae,aa,af,ai,cc⟩ ld).1.d,aq 0]) ([aw c0,tF,aw c1,tT,tT,aO,aO,.aV [(4,aA (au.cw m (dp m 4 w ab ae aa af ai cc) (xT 4 w ab ae aa af ai cc ld)))],.j5 rV 4 (some (ak 5)) rfl,.cM _ true (cz d0 d1),.get _ _ _ (@bl m ab ((fT m (dp m 4 w ab ae aa af ai cc) (xT 4 w ab ae aa af ai cc ld))) d0 d1),aO]++Zx 24 tF++ [.cM _ true (cz s0 s1),.get _ _ _ (@bl m ae ((fT m (dp m 4 w ab ae aa af ai cc) (xT 4 w ab ae aa af ai cc ld))) s0 s1),.aV [(4,aA (au.cw m (dp m 4 w ab ae aa af ai cc) (xT 4 w ab ae aa af ai cc ld)))],aw c2,tF,tF,tF,tF,tF,tT,tT,aw c3,aw c4,tC (nt (@jt 4 w ab ae aa af ai cc hm d0 d1 (rfl:true=true))),.cM _ true (cz d0 d1),.eU _ _ _ _ (@bV m ab (fB 5 w (rg (au.rl m) ab) (rg (au.rl m) ae)) ([ax true,ax false,ax (aJ (fB 5 w (rg (au.rl m) ab) (rg (au.rl m) ae)) w==0),ax (fL (fB 5 w (rg (au.rl m) ab) (rg (au.rl m) ae)) w),ax false,av (dp m 4 w ab ae aa af ai cc),ak 4,ak w,ak ab,ak ae,ak aa,aq af,aq ai,ak cc,av ld]) d0 d1),tF]) (by kernel_rfl))
theorem H6:oB 5:=by
 intro m w ab ae aa af ai cc ld d0 d1 s0 s1 b0 b1 hm hw
 have c0:= @bg 5 w ab ae aa af ai cc (by decide)
 rw [hm] at c0
 have c1:= @cU 5 w ab ae aa af ai cc (by decide)
 have c2:= @pK w (rg (au.rl m) ab) (rg (au.rl m) ae) hw
 have c3:= @pC w (rg (au.rl m) ab) (rg (au.rl m) ae) hw
 have c4:= @b5 5 w ab ae aa af ai cc (by decide)
 exact (l6 (d:= .aL [(gF (m.at (u64 (m.pc+u64 (ct 5 w ab ae aa af ai cc)))) ⟨5,w,ab,ae,aa,af,ai,cc⟩ ld).1.d,aq 0]) ([aw c0,tF,aw c1,tT,tT,aO,aO,.aV [(4,aA (au.cw m (dp m 5 w ab ae aa af ai cc) (xT 5 w ab ae aa af ai cc ld)))],.j5 rV 5 (some (ak 1)) rfl,.cM _ true (cz d0 d1),.get _ _ _ (@bl m ab ((fT m (dp m 5 w ab ae aa af ai cc) (xT 5 w ab ae aa af ai cc ld))) d0 d1),aO]++Zx 24 tF++ [.cM _ true (cz s0 s1),.get _ _ _ (@bl m ae ((fT m (dp m 5 w ab ae aa af ai cc) (xT 5 w ab ae aa af ai cc ld))) s0 s1),.aV [(4,aA (au.cw m (dp m 5 w ab ae aa af ai cc) (xT 5 w ab ae aa af ai cc ld)))],aw c2,tF,tF,tT,aw c3,aw c4,tC (nt (@jt 5 w ab ae aa af ai cc hm d0 d1 (rfl:true=true))),.cM _ true (cz d0 d1),.eU _ _ _ _ (@bV m ab (fB 1 w (rg (au.rl m) ab) (rg (au.rl m) ae)) ([ax true,ax (rY w (rg (au.rl m) ab) (rg (au.rl m) ae)),ax (aJ (u64 (rg (au.rl m) ab - rg (au.rl m) ae)) w==0),ax (fL (u64 (rg (au.rl m) ab - rg (au.rl m) ae)) w),ax (rX w (rg (au.rl m) ab) (rg (au.rl m) ae)),av (dp m 5 w ab ae aa af ai cc),ak 5,ak w,ak ab,ak ae,ak aa,aq af,aq ai,ak cc,av ld]) d0 d1),tF]) (by kernel_rfl))
theorem H5:oB 6:=by
 intro m w ab ae aa af ai cc ld d0 d1 s0 s1 b0 b1 hm hw
 have c0:= @bg 6 w ab ae aa af ai cc (by decide)
 rw [hm] at c0
 have c1:= @cU 6 w ab ae aa af ai cc (by decide)
 have c2:= @vA w (rg (au.rl m) ab) (rg (au.rl m) ae) hw
 have c3:= @k9 w (fB 10 w (rg (au.rl m) ab) (rg (au.rl m) ae)) hw
 have c4:= @b5 6 w ab ae aa af ai cc (by decide)
 exact (l6 (d:= .aL [(gF (m.at (u64 (m.pc+u64 (ct 6 w ab ae aa af ai cc)))) ⟨6,w,ab,ae,aa,af,ai,cc⟩ ld).1.d,aq 0]) ([aw c0,tF,aw c1,tT,tT,aO,aO,.aV [(4,aA (au.cw m (dp m 6 w ab ae aa af ai cc) (xT 6 w ab ae aa af ai cc ld)))],.j5 rV 6 (some (ak 10)) rfl,.cM _ true (cz d0 d1),.get _ _ _ (@bl m ab ((fT m (dp m 6 w ab ae aa af ai cc) (xT 6 w ab ae aa af ai cc ld))) d0 d1),aO]++Zx 24 tF++ [.cM _ true (cz s0 s1),.get _ _ _ (@bl m ae ((fT m (dp m 6 w ab ae aa af ai cc) (xT 6 w ab ae aa af ai cc ld))) s0 s1),.aV [(4,aA (au.cw m (dp m 6 w ab ae aa af ai cc) (xT 6 w ab ae aa af ai cc ld)))],aw c2,tF,tF,tF,tF,tF,tF,tT,aw c3,aw c4,tC (nt (@jt 6 w ab ae aa af ai cc hm d0 d1 (rfl:true=true))),.cM _ true (cz d0 d1),.eU _ _ _ _ (@bV m ab (fB 10 w (rg (au.rl m) ab) (rg (au.rl m) ae)) ([ax true,ax false,ax (aJ (fB 10 w (rg (au.rl m) ab) (rg (au.rl m) ae)) w==0),ax (fL (fB 10 w (rg (au.rl m) ab) (rg (au.rl m) ae)) w),ax false,av (dp m 6 w ab ae aa af ai cc),ak 6,ak w,ak ab,ak ae,ak aa,aq af,aq ai,ak cc,av ld]) d0 d1),tF]) (by kernel_rfl))
theorem H4:oB 7:=by
 intro m w ab ae aa af ai cc ld d0 d1 s0 s1 b0 b1 hm hw
 have c0:= @bg 7 w ab ae aa af ai cc (by decide)
 rw [hm] at c0
 have c1:= @cU 7 w ab ae aa af ai cc (by decide)
 have c2:= @pK w (rg (au.rl m) ab) (rg (au.rl m) ae) hw
 have c3:= @pC w (rg (au.rl m) ab) (rg (au.rl m) ae) hw
 have c4:= @b5 7 w ab ae aa af ai cc (by decide)
 exact (l6 (d:= .aL [(gF (m.at (u64 (m.pc+u64 (ct 7 w ab ae aa af ai cc)))) ⟨7,w,ab,ae,aa,af,ai,cc⟩ ld).1.d,aq 0]) ([aw c0,tF,aw c1,tT,tT,aO,aO,.aV [(4,aA (au.cw m (dp m 7 w ab ae aa af ai cc) (xT 7 w ab ae aa af ai cc ld)))],.j5 rV 7 (some (ak 1)) rfl,.cM _ true (cz d0 d1),.get _ _ _ (@bl m ab ((fT m (dp m 7 w ab ae aa af ai cc) (xT 7 w ab ae aa af ai cc ld))) d0 d1),aO]++Zx 24 tF++ [.cM _ true (cz s0 s1),.get _ _ _ (@bl m ae ((fT m (dp m 7 w ab ae aa af ai cc) (xT 7 w ab ae aa af ai cc ld))) s0 s1),.aV [(4,aA (au.cw m (dp m 7 w ab ae aa af ai cc) (xT 7 w ab ae aa af ai cc ld)))],aw c2,tF,tF,tT,aw c3,aw c4,tC (nt (cD 0 true (eq_of_beq (@Mb 7 w ab ae aa af ai cc (rfl:false=false))))),tF]) (by kernel_rfl))
theorem H3:oB 8:=by
 intro m w ab ae aa af ai cc ld d0 d1 s0 s1 b0 b1 hm hw
 have c0:= @bg 8 w ab ae aa af ai cc (by decide)
 rw [hm] at c0
 have c1:= @cU 8 w ab ae aa af ai cc (by decide)
 have c2:= @pJ w (rg (au.rl m) ab) (rg (au.rl m) ae) hw
 have c3:= @k9 w (fB 5 w (rg (au.rl m) ab) (rg (au.rl m) ae)) hw
 have c4:= @b5 8 w ab ae aa af ai cc (by decide)
 exact (l6 (d:= .aL [(gF (m.at (u64 (m.pc+u64 (ct 8 w ab ae aa af ai cc)))) ⟨8,w,ab,ae,aa,af,ai,cc⟩ ld).1.d,aq 0]) ([aw c0,tF,aw c1,tT,tT,aO,aO,.aV [(4,aA (au.cw m (dp m 8 w ab ae aa af ai cc) (xT 8 w ab ae aa af ai cc ld)))],.j5 rV 8 (some (ak 5)) rfl,.cM _ true (cz d0 d1),.get _ _ _ (@bl m ab ((fT m (dp m 8 w ab ae aa af ai cc) (xT 8 w ab ae aa af ai cc ld))) d0 d1),aO]++Zx 24 tF++ [.cM _ true (cz s0 s1),.get _ _ _ (@bl m ae ((fT m (dp m 8 w ab ae aa af ai cc) (xT 8 w ab ae aa af ai cc ld))) s0 s1),.aV [(4,aA (au.cw m (dp m 8 w ab ae aa af ai cc) (xT 8 w ab ae aa af ai cc ld)))],aw c2,tF,tF,tF,tF,tF,tT,tT,aw c3,aw c4,tC (nt (cD 0 true (eq_of_beq (@Mb 8 w ab ae aa af ai cc (rfl:false=false))))),tF]) (by kernel_rfl))
theorem Dl:oB 12:=by
 intro m w ab ae aa af ai cc ld d0 d1 s0 s1 b0 b1 hm hw
 have c0:= @bg 12 w ab ae aa af ai cc (by decide)
 rw [hm] at c0
 have c1:= @cU 12 w ab ae aa af ai cc (by decide)
 have c2:= @pK w (rg (au.rl m) ab) (aaY.wrap aaY.u64 ai) hw
 have c3:= @pC w (rg (au.rl m) ab) (aaY.wrap aaY.u64 ai) hw
 have c4:= @b5 12 w ab ae aa af ai cc (by decide)
 exact (l6 (d:= .aL [(gF (m.at (u64 (m.pc+u64 (ct 12 w ab ae aa af ai cc)))) ⟨12,w,ab,ae,aa,af,ai,cc⟩ ld).1.d,aq 0]) ([aw c0,tF,aw c1,tT,tT,aO,aO,.aV [(4,aA (au.cw m (dp m 12 w ab ae aa af ai cc) (xT 12 w ab ae aa af ai cc ld)))],.j5 rV 12 (some (ak 1)) rfl,.cM _ true (cz d0 d1),.get _ _ _ (@bl m ab ((fT m (dp m 12 w ab ae aa af ai cc) (xT 12 w ab ae aa af ai cc ld))) d0 d1),aO]++Zx 8 tF++Zx 9 tT++ [.aV [(4,aA (au.cw m (dp m 12 w ab ae aa af ai cc) (xT 12 w ab ae aa af ai cc ld)))],aw c2,tF,tF,tT,aw c3,aw c4,tC (nt (@jt 12 w ab ae aa af ai cc hm d0 d1 (rfl:true=true))),.cM _ true (cz d0 d1),.eU _ _ _ _ (@bV m ab (fB 1 w (rg (au.rl m) ab) (aaY.wrap aaY.u64 ai)) ([ax true,ax (rY w (rg (au.rl m) ab) (aaY.wrap aaY.u64 ai)),ax (aJ (u64 (rg (au.rl m) ab - aaY.wrap aaY.u64 ai)) w==0),ax (fL (u64 (rg (au.rl m) ab - aaY.wrap aaY.u64 ai)) w),ax (rX w (rg (au.rl m) ab) (aaY.wrap aaY.u64 ai)),av (dp m 12 w ab ae aa af ai cc),ak 12,ak w,ak ab,ak ae,ak aa,aq af,aq ai,ak cc,av ld]) d0 d1),tF]) (by kernel_rfl))
def R5:List D:= [D.fn (aaw 117) [.ptr false 4 0] [],D.fn (aaw 118) [.ptr false 4 0] [],D.cg,D.cg,D.cg,D.cg,D.cg,D.cg,D.cg,D.cg,D.cg,D.cg,D.cg,D.cg,D.cg,D.cg,D.cg,D.cg,D.cg,D.cg,D.cg,D.cg,D.cg,D.cg,D.fn (aaw 119) [.ptr false 4 0] [],D.fn (aaw 120) [.ptr false 4 0] [],D.fn (aaw 121) [.ptr false 4 0] [],D.fn (aaw 122) [.ptr false 4 0] [],D.fn (aaw 123) [.ptr false 4 0] [],D.fn (aaw 124) [.ptr false 4 0] [],D.fn (aaw 125) [.ptr false 4 0] [],D.fn (aaw 126) [.ptr false 4 0] []]
def rU:List (Int×D):= [((2:Int),ak 0),((9:Int),ak 0),((3:Int),ak 4),((10:Int),ak 4),((4:Int),ak 5),((11:Int),ak 5),((8:Int),ak 5),((15:Int),ak 5),((5:Int),ak 1),((12:Int),ak 1),((7:Int),ak 1),((14:Int),ak 1),((6:Int),ak 10),((13:Int),ak 10),((16:Int),ak 2),((17:Int),ak 6),((20:Int),ak 6),((18:Int),ak 7),((21:Int),ak 7),((19:Int),ak 12),((22:Int),ak 12),((23:Int),ak 8)]
def oA (Tz:Int):Prop:= ∀(m:au) (w ab ae aa af ai cc ld:Int) (d0:0≤ab) (d1:ab≤15) (s0:0≤ae) (s1:ae≤15) (b0:0≤aa) (b1:aa≤15) (hm:bL Tz w ab ae aa af ai cc=true) (hw:aP w=true),aQ Zy 83 ([m.d,xD Tz w ab ae aa af ai cc,av ld]) (.aL [(gF (m.at (u64 (m.pc+u64 (ct Tz w ab ae aa af ai cc)))) ⟨Tz,w,ab,ae,aa,af,ai,cc⟩ ld).1.d,aq 0])
theorem Dg:oA 17:=by
 intro m w ab ae aa af ai cc ld d0 d1 s0 s1 b0 b1 hm hw
 have c0:= @bg 17 w ab ae aa af ai cc (by decide)
 rw [hm] at c0
 have c1:= @cU 17 w ab ae aa af ai cc (by decide)
 have c2:= @Bi w (rg (au.rl m) ab) (aaY.wrap aaY.u64 ai) hw
 have c3:= @eQ
 have c4:= @b5 17 w ab ae aa af ai cc (by decide)
 exact (l6 (d:= .aL [(gF (m.at (u64 (m.pc+u64 (ct 17 w ab ae aa af ai cc)))) ⟨17,w,ab,ae,aa,af,ai,cc⟩ ld).1.d,aq 0]) ([aw c0,tF,aw c1,tT,tT,aO,aO,.aV [(4,aA (au.cw m (dp m 17 w ab ae aa af ai cc) (xT 17 w ab ae aa af ai cc ld)))],.j5 rU 17 (some (ak 6)) rfl,.cM _ true (cz d0 d1),.get _ _ _ (@bl m ab ((fT m (dp m 17 w ab ae aa af ai cc) (xT 17 w ab ae aa af ai cc ld))) d0 d1),aO]++Zx 8 tF++(cr 8 127)++Zx 8 tT++ [.aV [(4,aA (au.cw m (dp m 17 w ab ae aa af ai cc) (xT 17 w ab ae aa af ai cc ld)))],aw c2,tF,tF,tF,tF,tF,tF,tF,aw c3,aw c4,tC (nt (@jt 17 w ab ae aa af ai cc hm d0 d1 (rfl:true=true))),.cM _ true (cz d0 d1),.eU _ _ _ _ (@bV m ab (fB 6 w (rg (au.rl m) ab) (aaY.wrap aaY.u64 ai)) ([ax false,ax false,ax false,ax false,ax false,av (dp m 17 w ab ae aa af ai cc),ak 17,ak w,ak ab,ak ae,ak aa,aq af,aq ai,ak cc,av ld]) d0 d1),tF]) (by kernel_rfl))
theorem Df:oA 18:=by
 intro m w ab ae aa af ai cc ld d0 d1 s0 s1 b0 b1 hm hw
 have c0:= @bg 18 w ab ae aa af ai cc (by decide)
 rw [hm] at c0
 have c1:= @cU 18 w ab ae aa af ai cc (by decide)
 have c2:= @Bh w (rg (au.rl m) ab) (aaY.wrap aaY.u64 ai) hw
 have c3:= @eQ
 have c4:= @b5 18 w ab ae aa af ai cc (by decide)
 exact (l6 (d:= .aL [(gF (m.at (u64 (m.pc+u64 (ct 18 w ab ae aa af ai cc)))) ⟨18,w,ab,ae,aa,af,ai,cc⟩ ld).1.d,aq 0]) ([aw c0,tF,aw c1,tT,tT,aO,aO,.aV [(4,aA (au.cw m (dp m 18 w ab ae aa af ai cc) (xT 18 w ab ae aa af ai cc ld)))],.j5 rU 18 (some (ak 7)) rfl,.cM _ true (cz d0 d1),.get _ _ _ (@bl m ab ((fT m (dp m 18 w ab ae aa af ai cc) (xT 18 w ab ae aa af ai cc ld))) d0 d1),aO]++Zx 8 tF++(cr 8 127)++Zx 8 tT++ [.aV [(4,aA (au.cw m (dp m 18 w ab ae aa af ai cc) (xT 18 w ab ae aa af ai cc ld)))],aw c2,tF,tF,tF,tF,tF,tF,tF,aw c3,aw c4,tC (nt (@jt 18 w ab ae aa af ai cc hm d0 d1 (rfl:true=true))),.cM _ true (cz d0 d1),.eU _ _ _ _ (@bV m ab (fB 7 w (rg (au.rl m) ab) (aaY.wrap aaY.u64 ai)) ([ax false,ax false,ax false,ax false,ax false,av (dp m 18 w ab ae aa af ai cc),ak 18,ak w,ak ab,ak ae,ak aa,aq af,aq ai,ak cc,av ld]) d0 d1),tF]) (by kernel_rfl))
theorem De:oA 19:=by
 intro m w ab ae aa af ai cc ld d0 d1 s0 s1 b0 b1 hm hw
 have c0:= @bg 19 w ab ae aa af ai cc (by decide)
 rw [hm] at c0
 have c1:= @cU 19 w ab ae aa af ai cc (by decide)
 have c2:= @vz w (rg (au.rl m) ab) (aaY.wrap aaY.u64 ai) hw
 have c3:= @eQ
 have c4:= @b5 19 w ab ae aa af ai cc (by decide)
 exact (l6 (d:= .aL [(gF (m.at (u64 (m.pc+u64 (ct 19 w ab ae aa af ai cc)))) ⟨19,w,ab,ae,aa,af,ai,cc⟩ ld).1.d,aq 0]) ([aw c0,tF,aw c1,tT,tT,aO,aO,.aV [(4,aA (au.cw m (dp m 19 w ab ae aa af ai cc) (xT 19 w ab ae aa af ai cc ld)))],.j5 rU 19 (some (ak 12)) rfl,.cM _ true (cz d0 d1),.get _ _ _ (@bl m ab ((fT m (dp m 19 w ab ae aa af ai cc) (xT 19 w ab ae aa af ai cc ld))) d0 d1),aO]++Zx 8 tF++(cr 8 127)++Zx 8 tT++ [.aV [(4,aA (au.cw m (dp m 19 w ab ae aa af ai cc) (xT 19 w ab ae aa af ai cc ld)))],aw c2,tF,tF,tF,tF,tF,tF,tF,aw c3,aw c4,tC (nt (@jt 19 w ab ae aa af ai cc hm d0 d1 (rfl:true=true))),.cM _ true (cz d0 d1),.eU _ _ _ _ (@bV m ab (fB 12 w (rg (au.rl m) ab) (aaY.wrap aaY.u64 ai)) ([ax false,ax false,ax false,ax false,ax false,av (dp m 19 w ab ae aa af ai cc),ak 19,ak w,ak ab,ak ae,ak aa,aq af,aq ai,ak cc,av ld]) d0 d1),tF]) (by kernel_rfl))
theorem Dd:oA 20:=by
 intro m w ab ae aa af ai cc ld d0 d1 s0 s1 b0 b1 hm hw
 have c0:= @bg 20 w ab ae aa af ai cc (by decide)
 rw [hm] at c0
 have c1:= @cU 20 w ab ae aa af ai cc (by decide)
 have c2:= @Bi w (rg (au.rl m) ab) (au.q1 m) hw
 have c3:= @eQ
 have c4:= @b5 20 w ab ae aa af ai cc (by decide)
 exact (l6 (d:= .aL [(gF (m.at (u64 (m.pc+u64 (ct 20 w ab ae aa af ai cc)))) ⟨20,w,ab,ae,aa,af,ai,cc⟩ ld).1.d,aq 0]) ([aw c0,tF,aw c1,tT,tT,aO,aO,.aV [(4,aA (au.cw m (dp m 20 w ab ae aa af ai cc) (xT 20 w ab ae aa af ai cc ld)))],.j5 rU 20 (some (ak 6)) rfl,.cM _ true (cz d0 d1),.get _ _ _ (@bl m ab ((fT m (dp m 20 w ab ae aa af ai cc) (xT 20 w ab ae aa af ai cc ld))) d0 d1),aO]++Zx 8 tT++ [.aV [(4,aA (au.cw m (dp m 20 w ab ae aa af ai cc) (xT 20 w ab ae aa af ai cc ld)))],aw c2,tF,tF,tF,tF,tF,tF,tF,aw c3,aw c4,tC (nt (@jt 20 w ab ae aa af ai cc hm d0 d1 (rfl:true=true))),.cM _ true (cz d0 d1),.eU _ _ _ _ (@bV m ab (fB 6 w (rg (au.rl m) ab) (au.q1 m)) ([ax false,ax false,ax false,ax false,ax false,av (dp m 20 w ab ae aa af ai cc),ak 20,ak w,ak ab,ak ae,ak aa,aq af,aq ai,ak cc,av ld]) d0 d1),tF]) (by kernel_rfl))
theorem Dc:oA 21:=by
 intro m w ab ae aa af ai cc ld d0 d1 s0 s1 b0 b1 hm hw
 have c0:= @bg 21 w ab ae aa af ai cc (by decide)
 rw [hm] at c0
 have c1:= @cU 21 w ab ae aa af ai cc (by decide)
 have c2:= @Bh w (rg (au.rl m) ab) (au.q1 m) hw
 have c3:= @eQ
 have c4:= @b5 21 w ab ae aa af ai cc (by decide)
 exact (l6 (d:= .aL [(gF (m.at (u64 (m.pc+u64 (ct 21 w ab ae aa af ai cc)))) ⟨21,w,ab,ae,aa,af,ai,cc⟩ ld).1.d,aq 0]) ([aw c0,tF,aw c1,tT,tT,aO,aO,.aV [(4,aA (au.cw m (dp m 21 w ab ae aa af ai cc) (xT 21 w ab ae aa af ai cc ld)))],.j5 rU 21 (some (ak 7)) rfl,.cM _ true (cz d0 d1),.get _ _ _ (@bl m ab ((fT m (dp m 21 w ab ae aa af ai cc) (xT 21 w ab ae aa af ai cc ld))) d0 d1),aO]++Zx 8 tT++ [.aV [(4,aA (au.cw m (dp m 21 w ab ae aa af ai cc) (xT 21 w ab ae aa af ai cc ld)))],aw c2,tF,tF,tF,tF,tF,tF,tF,aw c3,aw c4,tC (nt (@jt 21 w ab ae aa af ai cc hm d0 d1 (rfl:true=true))),.cM _ true (cz d0 d1),.eU _ _ _ _ (@bV m ab (fB 7 w (rg (au.rl m) ab) (au.q1 m)) ([ax false,ax false,ax false,ax false,ax false,av (dp m 21 w ab ae aa af ai cc),ak 21,ak w,ak ab,ak ae,ak aa,aq af,aq ai,ak cc,av ld]) d0 d1),tF]) (by kernel_rfl))
theorem Db:oA 22:=by
 intro m w ab ae aa af ai cc ld d0 d1 s0 s1 b0 b1 hm hw
 have c0:= @bg 22 w ab ae aa af ai cc (by decide)
 rw [hm] at c0
 have c1:= @cU 22 w ab ae aa af ai cc (by decide)
 have c2:= @vz w (rg (au.rl m) ab) (au.q1 m) hw
 have c3:= @eQ
 have c4:= @b5 22 w ab ae aa af ai cc (by decide)
 exact (l6 (d:= .aL [(gF (m.at (u64 (m.pc+u64 (ct 22 w ab ae aa af ai cc)))) ⟨22,w,ab,ae,aa,af,ai,cc⟩ ld).1.d,aq 0]) ([aw c0,tF,aw c1,tT,tT,aO,aO,.aV [(4,aA (au.cw m (dp m 22 w ab ae aa af ai cc) (xT 22 w ab ae aa af ai cc ld)))],.j5 rU 22 (some (ak 12)) rfl,.cM _ true (cz d0 d1),.get _ _ _ (@bl m ab ((fT m (dp m 22 w ab ae aa af ai cc) (xT 22 w ab ae aa af ai cc ld))) d0 d1),aO]++Zx 8 tT++ [.aV [(4,aA (au.cw m (dp m 22 w ab ae aa af ai cc) (xT 22 w ab ae aa af ai cc ld)))],aw c2,tF,tF,tF,tF,tF,tF,tF,aw c3,aw c4,tC (nt (@jt 22 w ab ae aa af ai cc hm d0 d1 (rfl:true=true))),.cM _ true (cz d0 d1),.eU _ _ _ _ (@bV m ab (fB 12 w (rg (au.rl m) ab) (au.q1 m)) ([ax false,ax false,ax false,ax false,ax false,av (dp m 22 w ab ae aa af ai cc),ak 22,ak w,ak ab,ak ae,ak aa,aq af,aq ai,ak cc,av ld]) d0 d1),tF]) (by kernel_rfl))
theorem Da:oA 23:=by
 intro m w ab ae aa af ai cc ld d0 d1 s0 s1 b0 b1 hm hw
 have c0:= @bg 23 w ab ae aa af ai cc (by decide)
 rw [hm] at c0
 have c1:= @cU 23 w ab ae aa af ai cc (by decide)
 have c2:= @LN w (rg (au.rl m) ab) (rg (au.rl m) ae) hw
 have c3:= @pC w 0 (rg (au.rl m) ab) hw
 have c4:= @b5 23 w ab ae aa af ai cc (by decide)
 exact (l6 (d:= .aL [(gF (m.at (u64 (m.pc+u64 (ct 23 w ab ae aa af ai cc)))) ⟨23,w,ab,ae,aa,af,ai,cc⟩ ld).1.d,aq 0]) (([aw c0,tF,aw c1,tT,tT,aO,aO,.aV [(4,aA (au.cw m (dp m 23 w ab ae aa af ai cc) (xT 23 w ab ae aa af ai cc ld)))],.j5 rU 23 (some (ak 8)) rfl,.cM _ true (cz d0 d1),.get _ _ _ (@bl m ab ((fT m (dp m 23 w ab ae aa af ai cc) (xT 23 w ab ae aa af ai cc ld))) d0 d1),aO]++cr 24 8355711++ [.cM _ true (cz s0 s1),.get _ _ _ (@bl m ae ((fT m (dp m 23 w ab ae aa af ai cc) (xT 23 w ab ae aa af ai cc ld))) s0 s1),.aV [(4,aA (au.cw m (dp m 23 w ab ae aa af ai cc) (xT 23 w ab ae aa af ai cc ld)))],aw c2,tF,tF,tF,tT,aw c3,aw c4,tC (nt (@jt 23 w ab ae aa af ai cc hm d0 d1 (rfl:true=true))),.cM _ true (cz d0 d1),.eU _ _ _ _ (@bV m ab (fB 8 w (rg (au.rl m) ab) (rg (au.rl m) ae)) ([ax true,ax (rY w 0 (rg (au.rl m) ab)),ax (aJ (u64 (0 - rg (au.rl m) ab)) w==0),ax (fL (u64 (0 - rg (au.rl m) ab)) w),ax (rX w 0 (rg (au.rl m) ab)),av (dp m 23 w ab ae aa af ai cc),ak 23,ak w,ak ab,ak ae,ak aa,aq af,aq ai,ak cc,av ld]) d0 d1)])++ [tF]) (by kernel_rfl))
def R4:List D:= [D.fn (aaw 117) [.ptr false 4 0] [],D.fn (aaw 118) [.ptr false 4 0] [],D.cg,D.cg,D.cg,D.cg,D.cg,D.cg,D.cg,D.cg,D.cg,D.cg,D.cg,D.cg,D.cg,D.cg,D.cg,D.cg,D.cg,D.cg,D.cg,D.cg,D.cg,D.cg,D.fn (aaw 119) [.ptr false 4 0] [],D.fn (aaw 120) [.ptr false 4 0] [],D.fn (aaw 121) [.ptr false 4 0] [],D.fn (aaw 122) [.ptr false 4 0] [],D.fn (aaw 123) [.ptr false 4 0] [],D.fn (aaw 124) [.ptr false 4 0] [],D.fn (aaw 125) [.ptr false 4 0] [],D.fn (aaw 126) [.ptr false 4 0] []]
def oz (Tz:Int):Prop:= ∀(m:au) (w ab ae aa af ai cc ld:Int) (d0:0≤ab) (d1:ab≤15) (s0:0≤ae) (s1:ae≤15) (b0:0≤aa) (b1:aa≤15) (hm:bL Tz w ab ae aa af ai cc=true),aQ Zy 83 ([m.d,xD Tz w ab ae aa af ai cc,av ld]) (.aL [(gF (m.at (u64 (m.pc+u64 (ct Tz w ab ae aa af ai cc)))) ⟨Tz,w,ab,ae,aa,af,ai,cc⟩ ld).1.d,aq 0])
theorem Ib:oz 0:=by
 intro m w ab ae aa af ai cc ld d0 d1 s0 s1 b0 b1 hm
 have c0:= @bg 0 w ab ae aa af ai cc (by decide)
 rw [show (bL 0 w ab ae aa af ai cc)=true from hm] at c0
 have c1:= @cU 0 w ab ae aa af ai cc (by decide)
 have c2:= @cG (rg (au.rl m) ae) w
 exact (l6 (d:= .aL [(gF (m.at (u64 (m.pc+u64 (ct 0 w ab ae aa af ai cc)))) ⟨0,w,ab,ae,aa,af,ai,cc⟩ ld).1.d,aq 0]) [aw c0,tF,aw c1,tT,tF,aO,.cM _ true (cz s0 s1),.get _ _ _ (@bl m ae ((fT m (dp m 0 w ab ae aa af ai cc) (xT 0 w ab ae aa af ai cc ld))) s0 s1),aO,aw c2,.cM _ true (cz d0 d1),.eU _ _ _ _ (@bV m ab (aJ (rg (au.rl m) ae) w) ((fT m (dp m 0 w ab ae aa af ai cc) (xT 0 w ab ae aa af ai cc ld))) d0 d1),tF] (by kernel_rfl))
theorem Ia:oz 1:=by
 intro m w ab ae aa af ai cc ld d0 d1 s0 s1 b0 b1 hm
 have c0:= @bg 1 w ab ae aa af ai cc (by decide)
 rw [show (bL 1 w ab ae aa af ai cc)=true from hm] at c0
 have c1:= @cU 1 w ab ae aa af ai cc (by decide)
 have c2:= @cG (aaY.wrap aaY.u64 ai) w
 exact (l6 (d:= .aL [(gF (m.at (u64 (m.pc+u64 (ct 1 w ab ae aa af ai cc)))) ⟨1,w,ab,ae,aa,af,ai,cc⟩ ld).1.d,aq 0]) [aw c0,tF,aw c1,tT,tF,aO,aO,aw c2,.cM _ true (cz d0 d1),.eU _ _ _ _ (@bV m ab (aJ (aaY.wrap aaY.u64 ai) w) ((fT m (dp m 1 w ab ae aa af ai cc) (xT 1 w ab ae aa af ai cc ld))) d0 d1),tF] (by kernel_rfl))
theorem C7:oz 26:=by
 intro m w ab ae aa af ai cc ld d0 d1 s0 s1 b0 b1 hm
 have c0:= @bg 26 w ab ae aa af ai cc (by decide)
 rw [show (bL 26 w ab ae aa af ai cc)=true from hm] at c0
 have c1:= @cU 26 w ab ae aa af ai cc (by decide)
 have c2:= @cG ld w
 exact (l6 (d:= .aL [(gF (m.at (u64 (m.pc+u64 (ct 26 w ab ae aa af ai cc)))) ⟨26,w,ab,ae,aa,af,ai,cc⟩ ld).1.d,aq 0]) [aw c0,tF,aw c1,tT,tF,aO,aO,aw c2,.cM _ true (cz d0 d1),.eU _ _ _ _ (@bV m ab (aJ ld w) ((fT m (dp m 26 w ab ae aa af ai cc) (xT 26 w ab ae aa af ai cc ld))) d0 d1),tF] (by kernel_rfl))
theorem C6:oz 27:=by
 intro m w ab ae aa af ai cc ld d0 d1 s0 s1 b0 b1 hm
 have c0:= @bg 27 w ab ae aa af ai cc (by decide)
 rw [show (bL 27 w ab ae aa af ai cc)=true from hm] at c0
 have c1:= @cU 27 w ab ae aa af ai cc (by decide)
 exact (l6 (d:= .aL [(gF (m.at (u64 (m.pc+u64 (ct 27 w ab ae aa af ai cc)))) ⟨27,w,ab,ae,aa,af,ai,cc⟩ ld).1.d,aq 0]) [aw c0,tF,aw c1,tT,tF,aO,tF] (by kernel_rfl))
theorem C5:oz 28:=by
 intro m w ab ae aa af ai cc ld d0 d1 s0 s1 b0 b1 hm
 have c0:= @bg 28 w ab ae aa af ai cc (by decide)
 rw [show (bL 28 w ab ae aa af ai cc)=true from hm] at c0
 have c1:= @cU 28 w ab ae aa af ai cc (by decide)
 exact (l6 (d:= .aL [(gF (m.at (u64 (m.pc+u64 (ct 28 w ab ae aa af ai cc)))) ⟨28,w,ab,ae,aa,af,ai,cc⟩ ld).1.d,aq 0]) [aw c0,tF,aw c1,tT,tF,aO,tF] (by kernel_rfl))
theorem C3:oz 30:=by
 intro m w ab ae aa af ai cc ld d0 d1 s0 s1 b0 b1 hm
 have c0:= @bg 30 w ab ae aa af ai cc (by decide)
 rw [show (bL 30 w ab ae aa af ai cc)=true from hm] at c0
 have c1:= @cU 30 w ab ae aa af ai cc (by decide)
 exact (l6 (d:= .aL [(gF (m.at (u64 (m.pc+u64 (ct 30 w ab ae aa af ai cc)))) ⟨30,w,ab,ae,aa,af,ai,cc⟩ ld).1.d,aq 0]) [aw c0,tF,aw c1,tT,tF,aO,tF] (by kernel_rfl))
theorem C2:oz 31:=by
 intro m w ab ae aa af ai cc ld d0 d1 s0 s1 b0 b1 hm
 have c0:= @bg 31 w ab ae aa af ai cc (by decide)
 rw [show (bL 31 w ab ae aa af ai cc)=true from hm] at c0
 have c1:= @cU 31 w ab ae aa af ai cc (by decide)
 exact (l6 (d:= .aL [(gF (m.at (u64 (m.pc+u64 (ct 31 w ab ae aa af ai cc)))) ⟨31,w,ab,ae,aa,af,ai,cc⟩ ld).1.d,aq 0]) [aw c0,tF,aw c1,tT,tF,aO,tF] (by kernel_rfl))
theorem vl:aQ Zy 171 ([ak 2]) (ax true):=(aQ.aj (d:= .bool true) mixed Tryz.func171 (by kernel_rfl) ([tT,tT,tT,tT,aO,aO,aO,aO,aO,aO,aO,aO,aO,aO,tT,tT]++ [tT,tT,tT])).to (by ((simp only [wk,a7,eJ];repeat' (first|rfl|exact ZX|apply ZI));done))
theorem vk:aQ Zy 171 ([ak 3]) (ax true):=(aQ.aj (d:= .bool true) mixed Tryz.func171 (by kernel_rfl) ([tT,tT,tT,tT,aO,aO,aO,aO,aO,aO,aO,aO,aO,aO,tT,tT]++ [tT,tT,tT])).to (by ((simp only [wk,a7,eJ];repeat' (first|rfl|exact ZX|apply ZI));done))
theorem vj:aQ Zy 171 ([ak 4]) (ax true):=(aQ.aj (d:= .bool true) mixed Tryz.func171 (by kernel_rfl) ([tT,tT,tT,tT,aO,aO,aO,aO,aO,aO,aO,aO,aO,aO,tT,tT]++ [tT,tT,tT])).to (by ((simp only [wk,a7,eJ];repeat' (first|rfl|exact ZX|apply ZI));done))
theorem vi:aQ Zy 171 ([ak 5]) (ax true):=(aQ.aj (d:= .bool true) mixed Tryz.func171 (by kernel_rfl) ([tT,tT,tT,tT,aO,aO,aO,aO,aO,aO,aO,aO,aO,aO,tT,tT]++ [tT,tT,tT])).to (by ((simp only [wk,a7,eJ];repeat' (first|rfl|exact ZX|apply ZI));done))
theorem vh:aQ Zy 171 ([ak 6]) (ax true):=(aQ.aj (d:= .bool true) mixed Tryz.func171 (by kernel_rfl) ([tT,tT,tT,tT,aO,aO,aO,aO,aO,aO,aO,aO,aO,aO,tT,tT]++ [tT,tT,tT])).to (by ((simp only [wk,a7,eJ];repeat' (first|rfl|exact ZX|apply ZI));done))
theorem vg:aQ Zy 171 ([ak 7]) (ax true):=(aQ.aj (d:= .bool true) mixed Tryz.func171 (by kernel_rfl) ([tT,tT,tT,tT,aO,aO,aO,aO,aO,aO,aO,aO,aO,aO,tT,tT]++ [tT,tT,tT])).to (by ((simp only [wk,a7,eJ];repeat' (first|rfl|exact ZX|apply ZI));done))
theorem tg:aQ Zy 171 ([ak 12]) (ax true):=(aQ.aj (d:= .bool true) mixed Tryz.func171 (by kernel_rfl) ([tT,tT,tT,tT,aO,aO,aO,aO,aO,aO,aO,aO,aO,aO,tT,tT]++ [tT,tT,tT])).to (by ((simp only [wk,a7,eJ];repeat' (first|rfl|exact ZX|apply ZI));done))
theorem tf:aQ Zy 171 ([ak 13]) (ax true):=(aQ.aj (d:= .bool true) mixed Tryz.func171 (by kernel_rfl) ([tT,tT,tT,tT,aO,aO,aO,aO,aO,aO,aO,aO,aO,aO,tT,tT]++ [tT,tT,tT])).to (by ((simp only [wk,a7,eJ];repeat' (first|rfl|exact ZX|apply ZI));done))
theorem te:aQ Zy 171 ([ak 14]) (ax true):=(aQ.aj (d:= .bool true) mixed Tryz.func171 (by kernel_rfl) ([tT,tT,tT,tT,aO,aO,aO,aO,aO,aO,aO,aO,aO,aO,tT,tT]++ [tT,tT,tT])).to (by ((simp only [wk,a7,eJ];repeat' (first|rfl|exact ZX|apply ZI));done))
theorem td:aQ Zy 171 ([ak 15]) (ax true):=(aQ.aj (d:= .bool true) mixed Tryz.func171 (by kernel_rfl) ([tT,tT,tT,tT,aO,aO,aO,aO,aO,aO,aO,aO,aO,aO,tT,tT]++ [tT,tT,tT])).to (by ((simp only [wk,a7,eJ];repeat' (first|rfl|exact ZX|apply ZI));done))
def jG (Tz:Int):Prop:= ∀(c z s o:Bool),aQ Zy 163 ([ak Tz,fD true c z s o]) (.aL [ax (eC Tz c z s o),aq 0])
theorem AY:jG 2:=by
  intro c z s o
  have c0:= @vl
  have c1:= @eQ
  exact (aQ.aj (d:= .aL [ax c,aq 0]) mixed aaG (by kernel_rfl) ([aw c0,tF,aw c1,.flat _ _ eu,tT,tT,tT,tF,tF,aO,aO,aO,aO,aO,aO,aO]++ [aO,aO,aO,.aV [],.aV [(0,aA [ax true,ax c,ax z,ax s,ax o])],tT,aO])).to (by (try cases c)<;>(try cases z)<;>(try cases s)<;>(try cases o)<;>first|(simp [wk,a7,eC];done)|rfl|exact ⟨rfl,rfl,trivial⟩)
theorem AX:jG 3:=by
 intro c z s o
 have c0:= @vk
 have c1:= @eQ
 exact (aQ.aj (d:= .aL [ax !c,aq 0]) mixed aaG (by kernel_rfl) ([aw c0,tF,aw c1,.flat _ _ eu,tT,tT,tT,tF,tF,aO,aO,aO,aO,aO,aO,aO]++ [aO,aO,aO,.aV [],.aV [(0,aA [ax true,ax c,ax z,ax s,ax o])],tT,aO,aO])).to (by (try cases c)<;>(try cases z)<;>(try cases s)<;>(try cases o)<;>first|(simp [wk,a7,eC];done)|rfl|exact ⟨rfl,rfl,trivial⟩)
theorem AW:jG 4:=by
 intro c z s o
 have c0:= @vj
 have c1:= @eQ
 exact (aQ.aj (d:= .aL [ax z,aq 0]) mixed aaG (by kernel_rfl) ([aw c0,tF,aw c1,.flat _ _ eu,tT,tT,tT,tF,tF,aO,aO,aO,aO,aO,aO,aO]++ [aO,aO,aO,.aV [],.aV [(0,aA [ax true,ax c,ax z,ax s,ax o])],tT,aO])).to (by (try cases c)<;>(try cases z)<;>(try cases s)<;>(try cases o)<;>first|(simp [wk,a7,eC];done)|rfl|exact ⟨rfl,rfl,trivial⟩)
theorem AV:jG 5:=by
 intro c z s o
 have c0:= @vi
 have c1:= @eQ
 exact (aQ.aj (d:= .aL [ax !z,aq 0]) mixed aaG (by kernel_rfl) ([aw c0,tF,aw c1,.flat _ _ eu,tT,tT,tT,tF,tF,aO,aO,aO,aO,aO,aO,aO]++ [aO,aO,aO,.aV [],.aV [(0,aA [ax true,ax c,ax z,ax s,ax o])],tT,aO,aO])).to (by (try cases c)<;>(try cases z)<;>(try cases s)<;>(try cases o)<;>first|(simp [wk,a7,eC];done)|rfl|exact ⟨rfl,rfl,trivial⟩)
theorem AU:jG 6:=by
 intro c z s o
 have c0:= @vh
 have c1:= @eQ
 cases c
 ·exact (aQ.aj (d:= .aL [ax z,aq 0]) mixed aaG (by kernel_rfl) ([aw c0,tF,aw c1,.flat _ _ eu,tT,tT,tT,tF,tF,aO,aO,aO,aO,aO,aO,aO]++ [aO,aO,aO,.aV [],.aV [(0,aA [ax true,ax false,ax z,ax s,ax o])],tT,aO,aO,tT,tT,tT,aO,tF])).to (by (try cases c)<;>(try cases z)<;>(try cases s)<;>(try cases o)<;>first|(simp [wk,a7,eC];done)|rfl|exact ⟨rfl,rfl,trivial⟩)
 ·exact (aQ.aj (d:= .aL [ax true,aq 0]) mixed aaG (by kernel_rfl) ([aw c0,tF,aw c1,.flat _ _ eu,tT,tT,tT,tF,tF,aO,aO,aO,aO,aO,aO,aO]++ [aO,aO,aO,.aV [],.aV [(0,aA [ax true,ax true,ax z,ax s,ax o])],tT,aO,aO,tF,tF,tF,tT])).to (by (try cases c)<;>(try cases z)<;>(try cases s)<;>(try cases o)<;>first|(simp [wk,a7,eC];done)|rfl|exact ⟨rfl,rfl,trivial⟩)
theorem AR:jG 7:=by
 intro c z s o
 have c0:= @vg
 have c1:= @eQ
 cases c
 ·exact (aQ.aj (d:= .aL [ax !z,aq 0]) mixed aaG (by kernel_rfl) ([aw c0,tF,aw c1,.flat _ _ eu,tT,tT,tT,tF,tF,aO,aO,aO,aO,aO,aO,aO]++ [aO,aO,aO,.aV [],.aV [(0,aA [ax true,ax false,ax z,ax s,ax o])],tT,aO,aO,aO,tT,tT,tT,aO,tF])).to (by (try cases c)<;>(try cases z)<;>(try cases s)<;>(try cases o)<;>first|(simp [wk,a7,eC];done)|rfl|exact ⟨rfl,rfl,trivial⟩)
 ·exact (aQ.aj (d:= .aL [ax false,aq 0]) mixed aaG (by kernel_rfl) ([aw c0,tF,aw c1,.flat _ _ eu,tT,tT,tT,tF,tF,aO,aO,aO,aO,aO,aO,aO]++ [aO,aO,aO,.aV [],.aV [(0,aA [ax true,ax true,ax z,ax s,ax o])],tT,aO,aO,aO,tF,tF,tF,tT])).to (by (try cases c)<;>(try cases z)<;>(try cases s)<;>(try cases o)<;>first|(simp [wk,a7,eC];done)|rfl|exact ⟨rfl,rfl,trivial⟩)
theorem ya:jG 12:=by
 intro c z s o
 have c0:= @tg
 have c1:= @eQ
 exact (aQ.aj (d:= .aL [ax !s==o,aq 0]) mixed aaG (by kernel_rfl) ([aw c0,tF,aw c1,.flat _ _ eu,tT,tT,tT,tF,tF,aO,aO,aO,aO,aO,aO,aO]++ [aO,aO,aO,.aV [],.aV [(0,aA [ax true,ax c,ax z,ax s,ax o])],tT,aO])).to (by (try cases c)<;>(try cases z)<;>(try cases s)<;>(try cases o)<;>first|(simp [wk,a7,eC];done)|rfl|exact ⟨rfl,rfl,trivial⟩)
theorem x9:jG 13:=by
 intro c z s o
 have c0:= @tf
 have c1:= @eQ
 exact (aQ.aj (d:= .aL [ax !!s==o,aq 0]) mixed aaG (by kernel_rfl) ([aw c0,tF,aw c1,.flat _ _ eu,tT,tT,tT,tF,tF,aO,aO,aO,aO,aO,aO,aO]++ [aO,aO,aO,.aV [],.aV [(0,aA [ax true,ax c,ax z,ax s,ax o])],tT,aO,aO])).to (by (try cases c)<;>(try cases z)<;>(try cases s)<;>(try cases o)<;>first|(simp [wk,a7,eC];done)|rfl|exact ⟨rfl,rfl,trivial⟩)
theorem x8:jG 14:=by
 intro c z s o
 have c0:= @te
 have c1:= @eQ
 cases z
 ·exact (aQ.aj (d:= .aL [ax !s==o,aq 0]) mixed aaG (by kernel_rfl) ([aw c0,tF,aw c1,.flat _ _ eu,tT,tT,tT,tF,tF,aO,aO,aO,aO,aO,aO,aO]++ [aO,aO,aO,.aV [],.aV [(0,aA [ax true,ax c,ax false,ax s,ax o])],tT,aO,aO,tT,tT,tT,aO,tF])).to (by (try cases c)<;>(try cases z)<;>(try cases s)<;>(try cases o)<;>first|(simp [wk,a7,eC];done)|rfl|exact ⟨rfl,rfl,trivial⟩)
 ·exact (aQ.aj (d:= .aL [ax true,aq 0]) mixed aaG (by kernel_rfl) ([aw c0,tF,aw c1,.flat _ _ eu,tT,tT,tT,tF,tF,aO,aO,aO,aO,aO,aO,aO]++ [aO,aO,aO,.aV [],.aV [(0,aA [ax true,ax c,ax true,ax s,ax o])],tT,aO,aO,tF,tF,tF,tT])).to (by (try cases c)<;>(try cases z)<;>(try cases s)<;>(try cases o)<;>first|(simp [wk,a7,eC];done)|rfl|exact ⟨rfl,rfl,trivial⟩)
theorem x7:jG 15:=by
 intro c z s o
 have c0:= @td
 have c1:= @eQ
 cases z
 ·exact (aQ.aj (d:= .aL [ax !!s==o,aq 0]) mixed aaG (by kernel_rfl) ([aw c0,tF,aw c1,.flat _ _ eu,tT,tT,tT,tF,tF,aO,aO,aO,aO,aO,aO,aO]++ [aO,aO,aO,.aV [],.aV [(0,aA [ax true,ax c,ax false,ax s,ax o])],tT,aO,aO,aO,tT,tT,tT,aO,tF])).to (by (try cases c)<;>(try cases z)<;>(try cases s)<;>(try cases o)<;>first|(simp [wk,a7,eC];done)|rfl|exact ⟨rfl,rfl,trivial⟩)
 ·exact (aQ.aj (d:= .aL [ax false,aq 0]) mixed aaG (by kernel_rfl) ([aw c0,tF,aw c1,.flat _ _ eu,tT,tT,tT,tF,tF,aO,aO,aO,aO,aO,aO,aO]++ [aO,aO,aO,.aV [],.aV [(0,aA [ax true,ax c,ax true,ax s,ax o])],tT,aO,aO,aO,tF,tF,tF,tT])).to (by (try cases c)<;>(try cases z)<;>(try cases s)<;>(try cases o)<;>first|(simp [wk,a7,eC];done)|rfl|exact ⟨rfl,rfl,trivial⟩)
theorem Bc {cc:Int} (h:cT cc=true):cc=2∨cc=3∨cc=4∨cc=5∨cc=6∨cc=7∨cc=12∨cc=13∨cc=14∨cc=15:=by
 simp only [cT,bX] at h;omega
theorem qC (cc:Int) (c z s o:Bool) (h:cT cc=true):aQ Zy 163 [ak cc,fD true c z s o] (.aL [ax (eC cc c z s o),aq 0]):=by
 rcases Bc h with rfl|rfl|rfl|rfl|rfl|rfl|rfl|rfl|rfl|rfl
 ·exact AY c z s o
 ·exact AX c z s o
 ·exact AW c z s o
 ·exact AV c z s o
 ·exact AU c z s o
 ·exact AR c z s o
 ·exact ya c z s o
 ·exact x9 c z s o
 ·exact x8 c z s o
 ·exact x7 c z s o
theorem qD (cc:Int) (c z s o:Bool) (h:cT cc=true):aQ Zy 163 [ak cc,fD false c z s o] (.aL [ax false,aq 20]):=by
 have c0:aQ Zy 171 [ak cc] (ax true):=by
  rcases Bc h with rfl|rfl|rfl|rfl|rfl|rfl|rfl|rfl|rfl|rfl
  ·exact vl
  ·exact vk
  ·exact vj
  ·exact vi
  ·exact vh
  ·exact vg
  ·exact tg
  ·exact tf
  ·exact te
  ·exact td
 have c1:= @eQ
 by_cases hz:c=false∧z=false∧s=false∧o=false
 ·obtain ⟨rfl,rfl,rfl,rfl⟩:=hz
  exact aQ.aj mixed aaG (by kernel_rfl) [aw c0,tF,aw c1,.flat _ _ eu,tF,tF,tF,tT,tT] (by kernel_rfl)
 ·cases c<;>cases z<;>cases s<;>cases o<;>first
   |exact absurd ⟨rfl,rfl,rfl,rfl⟩ hz
   |exact aQ.aj mixed aaG (by kernel_rfl) [aw c0,tF,aw c1,.flat _ _ eu,tT,tT,tT,tF,tT] (by kernel_rfl)
abbrev sC (d v q0 q1 q2 q3 q4 q5 q6 q7 q8 q9 de dr dw du dt dn:Int):List D:= [av (st 0 d v q0),av (st 1 d v q1),av (st 2 d v q2),av (st 3 d v q3),av (st 4 d v q4),av (st 5 d v q5),av (st 6 d v q6),av (st 7 d v q7),av (st 8 d v q8),av (st 9 d v q9),av (st 10 d v de),av (st 11 d v dr),av (st 12 d v dw),av (st 13 d v du),av (st 14 d v dt),av (st 15 d v dn)]
theorem C9 (q0 q1 q2 q3 q4 q5 q6 q7 q8 q9 de dr dw du dt dn TE:Int) (fk fc fz fs fo:Bool) (w ab ae aa af ai cc ld:Int) (d0:0≤ab) (d1:ab≤15) (s0:0≤ae) (s1:ae≤15) (b0:0≤aa) (b1:aa≤15) (hm:bL 24 w ab ae aa af ai cc=true) (hd:(aJ (rg [q0,q1,q2,q3,q4,q5,q6,q7,q8,q9,de,dr,dw,du,dt,dn] ab) w==0)=false) (hz:(aJ q2 w==0)=true):aQ Zy 83 ([.agg [av q0,av q1,av q2,av q3,av q4,av q5,av q6,av q7,av q8,av q9,av de,av dr,av dw,av du,av dt,av dn,ax fk,ax fc,ax fz,ax fs,ax fo,av (TE)],xD 24 w ab ae aa af ai cc,av ld]) (.aL [.agg [av (u64 ((aJ q0 w).tdiv (aJ (rg [q0,q1,q2,q3,q4,q5,q6,q7,q8,q9,de,dr,dw,du,dt,dn] ab) w))),av q1,av ((aJ q0 w).tmod (aJ (rg [q0,q1,q2,q3,q4,q5,q6,q7,q8,q9,de,dr,dw,du,dt,dn] ab) w)),av q3,av q4,av q5,av q6,av q7,av q8,av q9,av de,av dr,av dw,av du,av dt,av dn,ax false,ax false,ax false,ax false,ax false,av (u64 (TE+u64 (ct 24 w ab ae aa af ai cc)))],aq 0]):=by
 have c0:= @bg 24 w ab ae aa af ai cc (by decide)
 rw [show (bL 24 w ab ae aa af ai cc)=true from hm] at c0
 have c1:= @cU 24 w ab ae aa af ai cc (by decide)
 have c2:= @cG q0 w
 have c3:= @cG (rg [q0,q1,q2,q3,q4,q5,q6,q7,q8,q9,de,dr,dw,du,dt,dn] ab) w
 have c4:= @cG q2 w
 have c5:= @eQ
 exact (l6 (d:= .aL [.agg [av (aaY.u64.wrap (Int.tdiv (aJ q0 w) (aJ (rg [q0,q1,q2,q3,q4,q5,q6,q7,q8,q9,de,dr,dw,du,dt,dn] ab) w))),av q1,av (Int.tmod (aJ q0 w) (aJ (rg [q0,q1,q2,q3,q4,q5,q6,q7,q8,q9,de,dr,dw,du,dt,dn] ab) w)),av q3,av q4,av q5,av q6,av q7,av q8,av q9,av de,av dr,av dw,av du,av dt,av dn,ax false,ax false,ax false,ax false,ax false,av (aaY.u64.wrap (TE+aaY.u64.wrap (ct 24 w ab ae aa af ai cc)))],aq 0]) ([aw c0,tF,aw c1,tT,tF,aO,aw c2,.cM (decide (0≤ab∧ab<(↑(16:Nat):Int))) true (by (simp only [cO] at*;omega)),.get _ _ _ (@jm q0 q1 q2 q3 q4 q5 q6 q7 q8 q9 de dr dw du dt dn ab ([ax fk,ax fc,ax fz,ax fs,ax fo,av (aaY.u64.wrap (TE+aaY.u64.wrap (ct 24 w ab ae aa af ai cc))),ak 24,ak w,ak ab,ak ae,ak aa,aq af,aq ai,ak cc,av ld]) d0 d1),aw c3]++Zx 8 (tC (eF hd))++ [aw c4,tC (eF hd),tC hd,tC (nt (cD 0 true (eq_of_beq hz))),tC (v:=true) (Ra hd),tC (v:=true) (Ra hd),aw c5,tF])).to (by first|((simp only [wk,a7,eJ];repeat' (first|rfl|exact ZX|apply ZI));done)|(simp [wk,a7,u64,];done))
theorem A2 (q0 q1 q2 q3 q4 q5 q6 q7 q8 q9 de dr dw du dt dn TE:Int) (fk fc fz fs fo:Bool) (w ab ae aa af ai cc ld:Int) (d0:0≤ab) (d1:ab≤15) (s0:0≤ae) (s1:ae≤15) (b0:0≤aa) (b1:aa≤15) (hm:bL 24 w ab ae aa af ai cc=true) (hd:(aJ (rg [q0,q1,q2,q3,q4,q5,q6,q7,q8,q9,de,dr,dw,du,dt,dn] ab) w==0)=true):aQ Zy 83 ([.agg [av q0,av q1,av q2,av q3,av q4,av q5,av q6,av q7,av q8,av q9,av de,av dr,av dw,av du,av dt,av dn,ax fk,ax fc,ax fz,ax fs,ax fo,av (TE)],xD 24 w ab ae aa af ai cc,av ld]) (.aL [.agg [av (0),av (0),av (0),av (0),av (0),av (0),av (0),av (0),av (0),av (0),av (0),av (0),av (0),av (0),av (0),av (0),ax false,ax false,ax false,ax false,ax false,av (0)],aq 20]):=by
 have c0:= @bg 24 w ab ae aa af ai cc (by decide)
 rw [show (bL 24 w ab ae aa af ai cc)=true from hm] at c0
 have c1:= @cU 24 w ab ae aa af ai cc (by decide)
 have c2:= @cG q0 w
 have c3:= @cG (rg [q0,q1,q2,q3,q4,q5,q6,q7,q8,q9,de,dr,dw,du,dt,dn] ab) w
 exact (l6 (d:= .aL [.agg [av 0,av 0,av 0,av 0,av 0,av 0,av 0,av 0,av 0,av 0,av 0,av 0,av 0,av 0,av 0,av 0,ax false,ax false,ax false,ax false,ax false,av 0],aq 20]) ([aw c0,tF,aw c1,tT,tF,aO,aw c2,.cM (decide (0≤ab∧ab<(↑(16:Nat):Int))) true (by (simp only [cO] at*;omega)),.get _ _ _ (@jm q0 q1 q2 q3 q4 q5 q6 q7 q8 q9 de dr dw du dt dn ab ([ax fk,ax fc,ax fz,ax fs,ax fo,av (aaY.u64.wrap (TE+aaY.u64.wrap (ct 24 w ab ae aa af ai cc))),ak 24,ak w,ak ab,ak ae,ak aa,aq af,aq ai,ak cc,av ld]) d0 d1),aw c3]++Zx 9 (tC (eF (cD 0 true (eq_of_beq hd))))++ [tC (cD 0 true (eq_of_beq hd)),tT,tT])).to (by first|((simp only [wk,a7,eJ];repeat' (first|rfl|exact ZX|apply ZI));done)|(simp [wk,a7,u64,];done))
theorem A1 (q0 q1 q2 q3 q4 q5 q6 q7 q8 q9 de dr dw du dt dn TE:Int) (fk fc fz fs fo:Bool) (w ab ae aa af ai cc ld:Int) (d0:0≤ab) (d1:ab≤15) (s0:0≤ae) (s1:ae≤15) (b0:0≤aa) (b1:aa≤15) (hm:bL 24 w ab ae aa af ai cc=true) (hd:(aJ (rg [q0,q1,q2,q3,q4,q5,q6,q7,q8,q9,de,dr,dw,du,dt,dn] ab) w==0)=false) (hz:(aJ q2 w==0)=false):aQ Zy 83 ([.agg [av q0,av q1,av q2,av q3,av q4,av q5,av q6,av q7,av q8,av q9,av de,av dr,av dw,av du,av dt,av dn,ax fk,ax fc,ax fz,ax fs,ax fo,av (TE)],xD 24 w ab ae aa af ai cc,av ld]) (.aL [.agg [av (0),av (0),av (0),av (0),av (0),av (0),av (0),av (0),av (0),av (0),av (0),av (0),av (0),av (0),av (0),av (0),ax false,ax false,ax false,ax false,ax false,av (0)],aq 20]):=by
 have c0:= @bg 24 w ab ae aa af ai cc (by decide)
 rw [show (bL 24 w ab ae aa af ai cc)=true from hm] at c0
 have c1:= @cU 24 w ab ae aa af ai cc (by decide)
 have c2:= @cG q0 w
 have c3:= @cG (rg [q0,q1,q2,q3,q4,q5,q6,q7,q8,q9,de,dr,dw,du,dt,dn] ab) w
 have c4:= @cG q2 w
 exact (l6 (d:= .aL [.agg [av 0,av 0,av 0,av 0,av 0,av 0,av 0,av 0,av 0,av 0,av 0,av 0,av 0,av 0,av 0,av 0,ax false,ax false,ax false,ax false,ax false,av 0],aq 20]) ([aw c0,tF,aw c1,tT,tF,aO,aw c2,.cM (decide (0≤ab∧ab<(↑(16:Nat):Int))) true (by (simp only [cO] at*;omega)),.get _ _ _ (@jm q0 q1 q2 q3 q4 q5 q6 q7 q8 q9 de dr dw du dt dn ab ([ax fk,ax fc,ax fz,ax fs,ax fo,av (aaY.u64.wrap (TE+aaY.u64.wrap (ct 24 w ab ae aa af ai cc))),ak 24,ak w,ak ab,ak ae,ak aa,aq af,aq ai,ak cc,av ld]) d0 d1),aw c3]++Zx 8 (tC (eF hd))++ [aw c4,tC (eF hd),tC hd,tC (nt hz),tT])).to (by first|((simp only [wk,a7,eJ];repeat' (first|rfl|exact ZX|apply ZI));done)|(simp [wk,a7,u64,];done))
theorem C8 (q0 q1 q2 q3 q4 q5 q6 q7 q8 q9 de dr dw du dt dn TE:Int) (fc fz fs fo:Bool) (w ab ae aa af ai cc ld:Int) (d0:0≤ab) (d1:ab≤15) (s0:0≤ae) (s1:ae≤15) (b0:0≤aa) (b1:aa≤15) (hm:bL 25 w ab ae aa af ai cc=true) (T3:cT cc=true):aQ Zy 83 ([.agg [av q0,av q1,av q2,av q3,av q4,av q5,av q6,av q7,av q8,av q9,av de,av dr,av dw,av du,av dt,av dn,ax true,ax fc,ax fz,ax fs,ax fo,av (TE)],xD 25 w ab ae aa af ai cc,av ld]) (.aL [.agg (sC ab (aJ (if eC cc fc fz fs fo then rg [q0,q1,q2,q3,q4,q5,q6,q7,q8,q9,de,dr,dw,du,dt,dn] ae else rg [q0,q1,q2,q3,q4,q5,q6,q7,q8,q9,de,dr,dw,du,dt,dn] ab) w) q0 q1 q2 q3 q4 q5 q6 q7 q8 q9 de dr dw du dt dn++ [ax true,ax fc,ax fz,ax fs,ax fo,av (u64 (TE+u64 (ct 25 w ab ae aa af ai cc)))]),aq 0]):=by
 have c0:= @bg 25 w ab ae aa af ai cc (by decide)
 rw [show (bL 25 w ab ae aa af ai cc)=true from hm] at c0
 have c1:= @cU 25 w ab ae aa af ai cc (by decide)
 have c2:= @qC cc fc fz fs fo T3
 let E1:EL:= [aw c0,tF,aw c1,tT,tF,aO,aO,aw c2,tF]
 rcases cI (eC cc fc fz fs fo) with h3|h3
 ·have c4:= @cG (rg [q0,q1,q2,q3,q4,q5,q6,q7,q8,q9,de,dr,dw,du,dt,dn] ae) w
  exact (l6 (d:= .aL [.agg (sC ab (aJ (rg [q0,q1,q2,q3,q4,q5,q6,q7,q8,q9,de,dr,dw,du,dt,dn] ae) w) q0 q1 q2 q3 q4 q5 q6 q7 q8 q9 de dr dw du dt dn++ [ax true,ax fc,ax fz,ax fs,ax fo,av (aaY.u64.wrap (TE+aaY.u64.wrap (ct 25 w ab ae aa af ai cc)))]),aq 0]) (E1++ [tC h3,aO,.cM (decide (0≤ae∧ae<(↑(16:Nat):Int))) true (by (simp only [cO] at*;omega)),.get _ _ _ (@jm q0 q1 q2 q3 q4 q5 q6 q7 q8 q9 de dr dw du dt dn ae ([ax true,ax fc,ax fz,ax fs,ax fo,av (aaY.u64.wrap (TE+aaY.u64.wrap (ct 25 w ab ae aa af ai cc))),ak 25,ak w,ak ab,ak ae,ak aa,aq af,aq ai,ak cc,av ld]) s0 s1),aO,aw c4,.cM (decide (0≤ab∧ab<(↑(16:Nat):Int))) true (by (simp only [cO] at*;omega)),.eU _ _ _ _ (@pf q0 q1 q2 q3 q4 q5 q6 q7 q8 q9 de dr dw du dt dn ab (aJ (rg [q0,q1,q2,q3,q4,q5,q6,q7,q8,q9,de,dr,dw,du,dt,dn] ae) w) ([ax true,ax fc,ax fz,ax fs,ax fo,av (aaY.u64.wrap (TE+aaY.u64.wrap (ct 25 w ab ae aa af ai cc))),ak 25,ak w,ak ab,ak ae,ak aa,aq af,aq ai,ak cc,av ld]) d0 d1),tF])).to (by clear E1;first|((simp only [wk,a7,eJ];repeat' (first|rfl|exact ZX|apply ZI));done)|(simp [wk,a7,u64,h3];done))
 have c5:= @cG (rg [q0,q1,q2,q3,q4,q5,q6,q7,q8,q9,de,dr,dw,du,dt,dn] ab) w
 exact (l6 (d:= .aL [.agg (sC ab (aJ (rg [q0,q1,q2,q3,q4,q5,q6,q7,q8,q9,de,dr,dw,du,dt,dn] ab) w) q0 q1 q2 q3 q4 q5 q6 q7 q8 q9 de dr dw du dt dn++ [ax true,ax fc,ax fz,ax fs,ax fo,av (aaY.u64.wrap (TE+aaY.u64.wrap (ct 25 w ab ae aa af ai cc)))]),aq 0]) (E1++ [tC h3,.cM (decide (0≤ab∧ab<(↑(16:Nat):Int))) true (by (simp only [cO] at*;omega)),.get _ _ _ (@jm q0 q1 q2 q3 q4 q5 q6 q7 q8 q9 de dr dw du dt dn ab ([ax true,ax fc,ax fz,ax fs,ax fo,av (aaY.u64.wrap (TE+aaY.u64.wrap (ct 25 w ab ae aa af ai cc))),ak 25,ak w,ak ab,ak ae,ak aa,aq af,aq ai,ak cc,av ld]) d0 d1),aO,aw c5,.cM (decide (0≤ab∧ab<(↑(16:Nat):Int))) true (by (simp only [cO] at*;omega)),.eU _ _ _ _ (@pf q0 q1 q2 q3 q4 q5 q6 q7 q8 q9 de dr dw du dt dn ab (aJ (rg [q0,q1,q2,q3,q4,q5,q6,q7,q8,q9,de,dr,dw,du,dt,dn] ab) w) ([ax true,ax fc,ax fz,ax fs,ax fo,av (aaY.u64.wrap (TE+aaY.u64.wrap (ct 25 w ab ae aa af ai cc))),ak 25,ak w,ak ab,ak ae,ak aa,aq af,aq ai,ak cc,av ld]) d0 d1),tF])).to (by clear E1;first|((simp only [wk,a7,eJ];repeat' (first|rfl|exact ZX|apply ZI));done)|(simp [wk,a7,u64,h3];done))
theorem A0 (q0 q1 q2 q3 q4 q5 q6 q7 q8 q9 de dr dw du dt dn TE:Int) (fc fz fs fo:Bool) (w ab ae aa af ai cc ld:Int) (d0:0≤ab) (d1:ab≤15) (s0:0≤ae) (s1:ae≤15) (b0:0≤aa) (b1:aa≤15) (hm:bL 25 w ab ae aa af ai cc=true) (T3:cT cc=true):aQ Zy 83 ([.agg [av q0,av q1,av q2,av q3,av q4,av q5,av q6,av q7,av q8,av q9,av de,av dr,av dw,av du,av dt,av dn,ax false,ax fc,ax fz,ax fs,ax fo,av (TE)],xD 25 w ab ae aa af ai cc,av ld]) (.aL [.agg [av (0),av (0),av (0),av (0),av (0),av (0),av (0),av (0),av (0),av (0),av (0),av (0),av (0),av (0),av (0),av (0),ax false,ax false,ax false,ax false,ax false,av (0)],aq 20]):=by
 have c0:= @bg 25 w ab ae aa af ai cc (by decide)
 rw [show (bL 25 w ab ae aa af ai cc)=true from hm] at c0
 have c1:= @cU 25 w ab ae aa af ai cc (by decide)
 have c2:= @qD cc fc fz fs fo T3
 exact (l6 (d:= .aL [.agg [av 0,av 0,av 0,av 0,av 0,av 0,av 0,av 0,av 0,av 0,av 0,av 0,av 0,av 0,av 0,av 0,ax false,ax false,ax false,ax false,ax false,av 0],aq 20]) [aw c0,tF,aw c1,tT,tF,aO,aO,aw c2,tT,tT]).to (by first|((simp only [wk,a7,eJ];repeat' (first|rfl|exact ZX|apply ZI));done)|(simp [wk,a7,u64,];done))
theorem C4 (q0 q1 q2 q3 q4 q5 q6 q7 q8 q9 de dr dw du dt dn TE:Int) (fc fz fs fo:Bool) (w ab ae aa af ai cc ld:Int) (d0:0≤ab) (d1:ab≤15) (s0:0≤ae) (s1:ae≤15) (b0:0≤aa) (b1:aa≤15) (hm:bL 29 w ab ae aa af ai cc=true) (T3:cT cc=true):aQ Zy 83 ([.agg [av q0,av q1,av q2,av q3,av q4,av q5,av q6,av q7,av q8,av q9,av de,av dr,av dw,av du,av dt,av dn,ax true,ax fc,ax fz,ax fs,ax fo,av (TE)],xD 29 w ab ae aa af ai cc,av ld]) (.aL [.agg [av q0,av q1,av q2,av q3,av q4,av q5,av q6,av q7,av q8,av q9,av de,av dr,av dw,av du,av dt,av dn,ax true,ax fc,ax fz,ax fs,ax fo,av (if eC cc fc fz fs fo then u64 (u64 (TE+u64 (ct 29 w ab ae aa af ai cc))+u64 ai) else u64 (TE+u64 (ct 29 w ab ae aa af ai cc)))],aq 0]):=by
 have c0:= @bg 29 w ab ae aa af ai cc (by decide)
 rw [show (bL 29 w ab ae aa af ai cc)=true from hm] at c0
 have c1:= @cU 29 w ab ae aa af ai cc (by decide)
 have c2:= @qC cc fc fz fs fo T3
 let E1:EL:= [aw c0,tF,aw c1,tT,tF,aO,aO,aw c2,tF]
 rcases cI (eC cc fc fz fs fo) with h3|h3
 ·exact (l6 (d:= .aL [.agg [av q0,av q1,av q2,av q3,av q4,av q5,av q6,av q7,av q8,av q9,av de,av dr,av dw,av du,av dt,av dn,ax true,ax fc,ax fz,ax fs,ax fo,av (aaY.u64.wrap (aaY.u64.wrap (TE+aaY.u64.wrap (ct 29 w ab ae aa af ai cc))+aaY.u64.wrap ai))],aq 0]) (E1++ [tC h3,aO,tF])).to (by clear E1;first|((simp only [wk,a7,eJ];repeat' (first|rfl|exact ZX|apply ZI));done)|(simp [wk,a7,u64,h3];done))
 exact (l6 (d:= .aL [.agg [av q0,av q1,av q2,av q3,av q4,av q5,av q6,av q7,av q8,av q9,av de,av dr,av dw,av du,av dt,av dn,ax true,ax fc,ax fz,ax fs,ax fo,av (aaY.u64.wrap (TE+aaY.u64.wrap (ct 29 w ab ae aa af ai cc)))],aq 0]) (E1++ [tC h3,tF])).to (by clear E1;first|((simp only [wk,a7,eJ];repeat' (first|rfl|exact ZX|apply ZI));done)|(simp [wk,a7,u64,h3];done))
theorem AZ (q0 q1 q2 q3 q4 q5 q6 q7 q8 q9 de dr dw du dt dn TE:Int) (fc fz fs fo:Bool) (w ab ae aa af ai cc ld:Int) (d0:0≤ab) (d1:ab≤15) (s0:0≤ae) (s1:ae≤15) (b0:0≤aa) (b1:aa≤15) (hm:bL 29 w ab ae aa af ai cc=true) (T3:cT cc=true):aQ Zy 83 ([.agg [av q0,av q1,av q2,av q3,av q4,av q5,av q6,av q7,av q8,av q9,av de,av dr,av dw,av du,av dt,av dn,ax false,ax fc,ax fz,ax fs,ax fo,av (TE)],xD 29 w ab ae aa af ai cc,av ld]) (.aL [.agg [av (0),av (0),av (0),av (0),av (0),av (0),av (0),av (0),av (0),av (0),av (0),av (0),av (0),av (0),av (0),av (0),ax false,ax false,ax false,ax false,ax false,av (0)],aq 20]):=by
 have c0:= @bg 29 w ab ae aa af ai cc (by decide)
 rw [show (bL 29 w ab ae aa af ai cc)=true from hm] at c0
 have c1:= @cU 29 w ab ae aa af ai cc (by decide)
 have c2:= @qD cc fc fz fs fo T3
 exact (l6 (d:= .aL [.agg [av 0,av 0,av 0,av 0,av 0,av 0,av 0,av 0,av 0,av 0,av 0,av 0,av 0,av 0,av 0,av 0,ax false,ax false,ax false,ax false,ax false,av 0],aq 20]) [aw c0,tF,aw c1,tT,tF,aO,aO,aw c2,tT,tT]).to (by first|((simp only [wk,a7,eJ];repeat' (first|rfl|exact ZX|apply ZI));done)|(simp [wk,a7,u64,];done))
theorem C1 (q0 q1 q2 q3 q4 q5 q6 q7 q8 q9 de dr dw du dt dn TE:Int) (fk fc fz fs fo:Bool) (op w ab ae aa af ai cc ld:Int)(ho:op≤127) (hm:bL op w ab ae aa af ai cc=false):aQ Zy 83 ([.agg [av q0,av q1,av q2,av q3,av q4,av q5,av q6,av q7,av q8,av q9,av de,av dr,av dw,av du,av dt,av dn,ax fk,ax fc,ax fz,ax fs,ax fo,av (TE)],xD op w ab ae aa af ai cc,av ld]) (.aL [.agg [av (0),av (0),av (0),av (0),av (0),av (0),av (0),av (0),av (0),av (0),av (0),av (0),av (0),av (0),av (0),av (0),ax false,ax false,ax false,ax false,ax false,av (0)],aq 2]):=by
 have c0:= @bg op w ab ae aa af ai cc ho
 rw [show (bL op w ab ae aa af ai cc)=false from hm] at c0
 exact (l6 (d:= .aL [.agg [av 0,av 0,av 0,av 0,av 0,av 0,av 0,av 0,av 0,av 0,av 0,av 0,av 0,av 0,av 0,av 0,ax false,ax false,ax false,ax false,ax false,av 0],aq 2]) [aw c0,tT]).to (by first|((simp only [wk,a7,eJ];repeat' (first|rfl|exact ZX|apply ZI));done)|(simp [wk,a7,u64,];done))
def R3:List D:= [D.fn (aaw 117) [.ptr false 4 0] [],D.fn (aaw 118) [.ptr false 4 0] [],D.cg,D.cg,D.cg,D.cg,D.cg,D.cg,D.cg,D.cg,D.cg,D.cg,D.cg,D.cg,D.cg,D.cg,D.cg,D.cg,D.cg,D.cg,D.cg,D.cg,D.cg,D.cg,D.fn (aaw 119) [.ptr false 4 0] [],D.fn (aaw 120) [.ptr false 4 0] [],D.fn (aaw 121) [.ptr false 4 0] [],D.fn (aaw 122) [.ptr false 4 0] [],D.fn (aaw 123) [.ptr false 4 0] [],D.fn (aaw 124) [.ptr false 4 0] [],D.fn (aaw 125) [.ptr false 4 0] [],D.fn (aaw 126) [.ptr false 4 0] []]
def rT:List (Int×D):= [((2:Int),ak 0),((9:Int),ak 0),((3:Int),ak 4),((10:Int),ak 4),((4:Int),ak 5),((11:Int),ak 5),((8:Int),ak 5),((15:Int),ak 5),((5:Int),ak 1),((12:Int),ak 1),((7:Int),ak 1),((14:Int),ak 1),((6:Int),ak 10),((13:Int),ak 10),((16:Int),ak 2),((17:Int),ak 6),((20:Int),ak 6),((18:Int),ak 7),((21:Int),ak 7),((19:Int),ak 12),((22:Int),ak 12),((23:Int),ak 8)]
def ov (Tz:Int):Prop:= ∀(m:au) (w ab ae aa af ai cc ld:Int) (d0:0≤ab) (d1:ab≤15) (s0:0≤ae) (s1:ae≤15) (b0:0≤aa) (b1:aa≤15) (hm:bL Tz w ab ae aa af ai cc=true) (hw:aP w=true),aQ Zy 83 ([m.d,xD Tz w ab ae aa af ai cc,av ld]) (.aL [(gF (m.at (u64 (m.pc+u64 (ct Tz w ab ae aa af ai cc)))) ⟨Tz,w,ab,ae,aa,af,ai,cc⟩ ld).1.d,aq 0])
theorem H2:ov 9:=by
 intro m w ab ae aa af ai cc ld d0 d1 s0 s1 b0 b1 hm hw
 have c0:= @bg 9 w ab ae aa af ai cc (by decide)
 rw [hm] at c0
 have c1:= @cU 9 w ab ae aa af ai cc (by decide)
 have c2:= @Bk w (rg (au.rl m) ab) (aaY.wrap aaY.u64 ai) hw
 have c3:= @Fx w (rg (au.rl m) ab) (aaY.wrap aaY.u64 ai) hw
 have c4:= @b5 9 w ab ae aa af ai cc (by decide)
 exact (l6 (d:= .aL [(gF (m.at (u64 (m.pc+u64 (ct 9 w ab ae aa af ai cc)))) ⟨9,w,ab,ae,aa,af,ai,cc⟩ ld).1.d,aq 0]) ([aw c0,tF,aw c1,tT,tT,aO,aO,.aV [(4,aA (au.cw m (dp m 9 w ab ae aa af ai cc) (xT 9 w ab ae aa af ai cc ld)))],.j5 rT 9 (some (ak 0)) rfl,.cM _ true (cz d0 d1),.get _ _ _ (@bl m ab ((fT m (dp m 9 w ab ae aa af ai cc) (xT 9 w ab ae aa af ai cc ld))) d0 d1),aO]++Zx 8 tF++Zx 9 tT++ [.aV [(4,aA (au.cw m (dp m 9 w ab ae aa af ai cc) (xT 9 w ab ae aa af ai cc ld)))],aw c2,tF,tT,aw c3,aw c4,tC (nt (@jt 9 w ab ae aa af ai cc hm d0 d1 (rfl:true=true))),.cM _ true (cz d0 d1),.eU _ _ _ _ (@bV m ab (fB 0 w (rg (au.rl m) ab) (aaY.wrap aaY.u64 ai)) ([ax true,ax (yA w (rg (au.rl m) ab) (aaY.wrap aaY.u64 ai)),ax (aJ (u64 (rg (au.rl m) ab+aaY.wrap aaY.u64 ai)) w==0),ax (fL (u64 (rg (au.rl m) ab+aaY.wrap aaY.u64 ai)) w),ax (yz w (rg (au.rl m) ab) (aaY.wrap aaY.u64 ai)),av (dp m 9 w ab ae aa af ai cc),ak 9,ak w,ak ab,ak ae,ak aa,aq af,aq ai,ak cc,av ld]) d0 d1),tF]) (by kernel_rfl))
theorem Dn:ov 10:=by
 intro m w ab ae aa af ai cc ld d0 d1 s0 s1 b0 b1 hm hw
 have c0:= @bg 10 w ab ae aa af ai cc (by decide)
 rw [hm] at c0
 have c1:= @cU 10 w ab ae aa af ai cc (by decide)
 have c2:= @Bj w (rg (au.rl m) ab) (aaY.wrap aaY.u64 ai) hw
 have c3:= @k9 w (fB 4 w (rg (au.rl m) ab) (aaY.wrap aaY.u64 ai)) hw
 have c4:= @b5 10 w ab ae aa af ai cc (by decide)
 exact (l6 (d:= .aL [(gF (m.at (u64 (m.pc+u64 (ct 10 w ab ae aa af ai cc)))) ⟨10,w,ab,ae,aa,af,ai,cc⟩ ld).1.d,aq 0]) ([aw c0,tF,aw c1,tT,tT,aO,aO,.aV [(4,aA (au.cw m (dp m 10 w ab ae aa af ai cc) (xT 10 w ab ae aa af ai cc ld)))],.j5 rT 10 (some (ak 4)) rfl,.cM _ true (cz d0 d1),.get _ _ _ (@bl m ab ((fT m (dp m 10 w ab ae aa af ai cc) (xT 10 w ab ae aa af ai cc ld))) d0 d1),aO]++Zx 8 tF++Zx 9 tT++ [.aV [(4,aA (au.cw m (dp m 10 w ab ae aa af ai cc) (xT 10 w ab ae aa af ai cc ld)))],aw c2,tF,tF,tF,tF,tT,tT,aw c3,aw c4,tC (nt (@jt 10 w ab ae aa af ai cc hm d0 d1 (rfl:true=true))),.cM _ true (cz d0 d1),.eU _ _ _ _ (@bV m ab (fB 4 w (rg (au.rl m) ab) (aaY.wrap aaY.u64 ai)) ([ax true,ax false,ax (aJ (fB 4 w (rg (au.rl m) ab) (aaY.wrap aaY.u64 ai)) w==0),ax (fL (fB 4 w (rg (au.rl m) ab) (aaY.wrap aaY.u64 ai)) w),ax false,av (dp m 10 w ab ae aa af ai cc),ak 10,ak w,ak ab,ak ae,ak aa,aq af,aq ai,ak cc,av ld]) d0 d1),tF]) (by kernel_rfl))
theorem Dm:ov 11:=by
 intro m w ab ae aa af ai cc ld d0 d1 s0 s1 b0 b1 hm hw
 have c0:= @bg 11 w ab ae aa af ai cc (by decide)
 rw [hm] at c0
 have c1:= @cU 11 w ab ae aa af ai cc (by decide)
 have c2:= @pJ w (rg (au.rl m) ab) (aaY.wrap aaY.u64 ai) hw
 have c3:= @k9 w (fB 5 w (rg (au.rl m) ab) (aaY.wrap aaY.u64 ai)) hw
 have c4:= @b5 11 w ab ae aa af ai cc (by decide)
 exact (l6 (d:= .aL [(gF (m.at (u64 (m.pc+u64 (ct 11 w ab ae aa af ai cc)))) ⟨11,w,ab,ae,aa,af,ai,cc⟩ ld).1.d,aq 0]) ([aw c0,tF,aw c1,tT,tT,aO,aO,.aV [(4,aA (au.cw m (dp m 11 w ab ae aa af ai cc) (xT 11 w ab ae aa af ai cc ld)))],.j5 rT 11 (some (ak 5)) rfl,.cM _ true (cz d0 d1),.get _ _ _ (@bl m ab ((fT m (dp m 11 w ab ae aa af ai cc) (xT 11 w ab ae aa af ai cc ld))) d0 d1),aO]++Zx 8 tF++Zx 9 tT++ [.aV [(4,aA (au.cw m (dp m 11 w ab ae aa af ai cc) (xT 11 w ab ae aa af ai cc ld)))],aw c2,tF,tF,tF,tF,tF,tT,tT,aw c3,aw c4,tC (nt (@jt 11 w ab ae aa af ai cc hm d0 d1 (rfl:true=true))),.cM _ true (cz d0 d1),.eU _ _ _ _ (@bV m ab (fB 5 w (rg (au.rl m) ab) (aaY.wrap aaY.u64 ai)) ([ax true,ax false,ax (aJ (fB 5 w (rg (au.rl m) ab) (aaY.wrap aaY.u64 ai)) w==0),ax (fL (fB 5 w (rg (au.rl m) ab) (aaY.wrap aaY.u64 ai)) w),ax false,av (dp m 11 w ab ae aa af ai cc),ak 11,ak w,ak ab,ak ae,ak aa,aq af,aq ai,ak cc,av ld]) d0 d1),tF]) (by kernel_rfl))
theorem Dk:ov 13:=by
 intro m w ab ae aa af ai cc ld d0 d1 s0 s1 b0 b1 hm hw
 have c0:= @bg 13 w ab ae aa af ai cc (by decide)
 rw [hm] at c0
 have c1:= @cU 13 w ab ae aa af ai cc (by decide)
 have c2:= @vA w (rg (au.rl m) ab) (aaY.wrap aaY.u64 ai) hw
 have c3:= @k9 w (fB 10 w (rg (au.rl m) ab) (aaY.wrap aaY.u64 ai)) hw
 have c4:= @b5 13 w ab ae aa af ai cc (by decide)
 exact (l6 (d:= .aL [(gF (m.at (u64 (m.pc+u64 (ct 13 w ab ae aa af ai cc)))) ⟨13,w,ab,ae,aa,af,ai,cc⟩ ld).1.d,aq 0]) ([aw c0,tF,aw c1,tT,tT,aO,aO,.aV [(4,aA (au.cw m (dp m 13 w ab ae aa af ai cc) (xT 13 w ab ae aa af ai cc ld)))],.j5 rT 13 (some (ak 10)) rfl,.cM _ true (cz d0 d1),.get _ _ _ (@bl m ab ((fT m (dp m 13 w ab ae aa af ai cc) (xT 13 w ab ae aa af ai cc ld))) d0 d1),aO]++Zx 8 tF++Zx 9 tT++ [.aV [(4,aA (au.cw m (dp m 13 w ab ae aa af ai cc) (xT 13 w ab ae aa af ai cc ld)))],aw c2,tF,tF,tF,tF,tF,tF,tT,aw c3,aw c4,tC (nt (@jt 13 w ab ae aa af ai cc hm d0 d1 (rfl:true=true))),.cM _ true (cz d0 d1),.eU _ _ _ _ (@bV m ab (fB 10 w (rg (au.rl m) ab) (aaY.wrap aaY.u64 ai)) ([ax true,ax false,ax (aJ (fB 10 w (rg (au.rl m) ab) (aaY.wrap aaY.u64 ai)) w==0),ax (fL (fB 10 w (rg (au.rl m) ab) (aaY.wrap aaY.u64 ai)) w),ax false,av (dp m 13 w ab ae aa af ai cc),ak 13,ak w,ak ab,ak ae,ak aa,aq af,aq ai,ak cc,av ld]) d0 d1),tF]) (by kernel_rfl))
theorem Dj:ov 14:=by
 intro m w ab ae aa af ai cc ld d0 d1 s0 s1 b0 b1 hm hw
 have c0:= @bg 14 w ab ae aa af ai cc (by decide)
 rw [hm] at c0
 have c1:= @cU 14 w ab ae aa af ai cc (by decide)
 have c2:= @pK w (rg (au.rl m) ab) (aaY.wrap aaY.u64 ai) hw
 have c3:= @pC w (rg (au.rl m) ab) (aaY.wrap aaY.u64 ai) hw
 have c4:= @b5 14 w ab ae aa af ai cc (by decide)
 exact (l6 (d:= .aL [(gF (m.at (u64 (m.pc+u64 (ct 14 w ab ae aa af ai cc)))) ⟨14,w,ab,ae,aa,af,ai,cc⟩ ld).1.d,aq 0]) ([aw c0,tF,aw c1,tT,tT,aO,aO,.aV [(4,aA (au.cw m (dp m 14 w ab ae aa af ai cc) (xT 14 w ab ae aa af ai cc ld)))],.j5 rT 14 (some (ak 1)) rfl,.cM _ true (cz d0 d1),.get _ _ _ (@bl m ab ((fT m (dp m 14 w ab ae aa af ai cc) (xT 14 w ab ae aa af ai cc ld))) d0 d1),aO]++Zx 8 tF++Zx 9 tT++ [.aV [(4,aA (au.cw m (dp m 14 w ab ae aa af ai cc) (xT 14 w ab ae aa af ai cc ld)))],aw c2,tF,tF,tT,aw c3,aw c4,tC (nt (cD 0 true (eq_of_beq (@Mb 14 w ab ae aa af ai cc (rfl:false=false))))),tF]) (by kernel_rfl))
theorem Di:ov 15:=by
 intro m w ab ae aa af ai cc ld d0 d1 s0 s1 b0 b1 hm hw
 have c0:= @bg 15 w ab ae aa af ai cc (by decide)
 rw [hm] at c0
 have c1:= @cU 15 w ab ae aa af ai cc (by decide)
 have c2:= @pJ w (rg (au.rl m) ab) (aaY.wrap aaY.u64 ai) hw
 have c3:= @k9 w (fB 5 w (rg (au.rl m) ab) (aaY.wrap aaY.u64 ai)) hw
 have c4:= @b5 15 w ab ae aa af ai cc (by decide)
 exact (l6 (d:= .aL [(gF (m.at (u64 (m.pc+u64 (ct 15 w ab ae aa af ai cc)))) ⟨15,w,ab,ae,aa,af,ai,cc⟩ ld).1.d,aq 0]) ([aw c0,tF,aw c1,tT,tT,aO,aO,.aV [(4,aA (au.cw m (dp m 15 w ab ae aa af ai cc) (xT 15 w ab ae aa af ai cc ld)))],.j5 rT 15 (some (ak 5)) rfl,.cM _ true (cz d0 d1),.get _ _ _ (@bl m ab ((fT m (dp m 15 w ab ae aa af ai cc) (xT 15 w ab ae aa af ai cc ld))) d0 d1),aO]++Zx 8 tF++Zx 9 tT++ [.aV [(4,aA (au.cw m (dp m 15 w ab ae aa af ai cc) (xT 15 w ab ae aa af ai cc ld)))],aw c2,tF,tF,tF,tF,tF,tT,tT,aw c3,aw c4,tC (nt (cD 0 true (eq_of_beq (@Mb 15 w ab ae aa af ai cc (rfl:false=false))))),tF]) (by kernel_rfl))
theorem Dh:ov 16:=by
 intro m w ab ae aa af ai cc ld d0 d1 s0 s1 b0 b1 hm hw
 have c0:= @bg 16 w ab ae aa af ai cc (by decide)
 rw [hm] at c0
 have c1:= @cU 16 w ab ae aa af ai cc (by decide)
 have c2:= @LO w (rg (au.rl m) ab) (rg (au.rl m) ae) hw
 have c3:= @eQ
 have c4:= @b5 16 w ab ae aa af ai cc (by decide)
 exact (l6 (d:= .aL [(gF (m.at (u64 (m.pc+u64 (ct 16 w ab ae aa af ai cc)))) ⟨16,w,ab,ae,aa,af,ai,cc⟩ ld).1.d,aq 0]) ([aw c0,tF,aw c1,tT,tT,aO,aO,.aV [(4,aA (au.cw m (dp m 16 w ab ae aa af ai cc) (xT 16 w ab ae aa af ai cc ld)))],.j5 rT 16 (some (ak 2)) rfl,.cM _ true (cz d0 d1),.get _ _ _ (@bl m ab ((fT m (dp m 16 w ab ae aa af ai cc) (xT 16 w ab ae aa af ai cc ld))) d0 d1),aO]++Zx 8 tF++ [tT,tT,tT,tT,tT,tT,tT]++Zx 9 tF++ [.cM _ true (cz s0 s1),.get _ _ _ (@bl m ae ((fT m (dp m 16 w ab ae aa af ai cc) (xT 16 w ab ae aa af ai cc ld))) s0 s1),.aV [(4,aA (au.cw m (dp m 16 w ab ae aa af ai cc) (xT 16 w ab ae aa af ai cc ld)))],aw c2,tF,tF,tF,tF,tF,tF,tF,aw c3,aw c4,tC (nt (@jt 16 w ab ae aa af ai cc hm d0 d1 (rfl:true=true))),.cM _ true (cz d0 d1),.eU _ _ _ _ (@bV m ab (fB 2 w (rg (au.rl m) ab) (rg (au.rl m) ae)) ([ax false,ax false,ax false,ax false,ax false,av (dp m 16 w ab ae aa af ai cc),ak 16,ak w,ak ab,ak ae,ak aa,aq af,aq ai,ak cc,av ld]) d0 d1),tF]) (by kernel_rfl))
theorem H0 (m:au) (x:XS) (ld:Int) (ho:x.op≤127):aQ Zy 83 [m.d,x.d,av ld] (.aL [(fm m x ld).1.d,aq (fm m x ld).2]):=by
 cases hm:x.may
 ·rw [A3 hm]
  obtain ⟨q0,q1,q2,q3,q4,q5,q6,q7,q8,q9,de,dr,dw,du,dt,dn,fk,fc,fz,fs,fo,pc⟩:=m
  obtain ⟨op,w,ab,ae,aa,af,ai,cc⟩:=x
  exact C1 q0 q1 q2 q3 q4 q5 q6 q7 q8 q9 de dr dw du dt dn pc fk fc fz fs fo op w ab ae aa af ai cc ld ho hm
 ·rw [qi hm]
  obtain ⟨op,w,ab,ae,aa,af,ai,cc⟩:=x
  replace hm:bL op w ab ae aa af ai cc=true:=hm
  have U3:aC op≠0:=by
   intro e
   have hs:=(dA hm).2
   rw [e] at hs
   simp [iK] at hs
  obtain ⟨⟨d0,d1,s0,s1,b0,b1,_⟩,hs⟩:=dA hm
  rcases gY U3 with rfl|rfl|rfl|rfl|rfl|rfl|rfl|rfl|rfl|rfl|rfl|rfl|rfl|rfl|rfl|rfl|rfl|rfl|rfl|rfl|rfl|rfl|rfl|rfl|rfl|rfl|rfl|rfl|rfl|rfl|rfl|rfl
  ·exact Ib m _ _ _ _ _ _ _ _ d0 d1 s0 s1 b0 b1 hm
  ·exact Ia m _ _ _ _ _ _ _ _ d0 d1 s0 s1 b0 b1 hm
  ·exact H9 m _ _ _ _ _ _ _ _ d0 d1 s0 s1 b0 b1 hm (bH hs (by decide))
  ·exact H8 m _ _ _ _ _ _ _ _ d0 d1 s0 s1 b0 b1 hm (bH hs (by decide))
  ·exact H7 m _ _ _ _ _ _ _ _ d0 d1 s0 s1 b0 b1 hm (bH hs (by decide))
  ·exact H6 m _ _ _ _ _ _ _ _ d0 d1 s0 s1 b0 b1 hm (bH hs (by decide))
  ·exact H5 m _ _ _ _ _ _ _ _ d0 d1 s0 s1 b0 b1 hm (bH hs (by decide))
  ·exact H4 m _ _ _ _ _ _ _ _ d0 d1 s0 s1 b0 b1 hm (bH hs (by decide))
  ·exact H3 m _ _ _ _ _ _ _ _ d0 d1 s0 s1 b0 b1 hm (bH hs (by decide))
  ·exact H2 m _ _ _ _ _ _ _ _ d0 d1 s0 s1 b0 b1 hm (bH hs (by decide))
  ·exact Dn m _ _ _ _ _ _ _ _ d0 d1 s0 s1 b0 b1 hm (bH hs (by decide))
  ·exact Dm m _ _ _ _ _ _ _ _ d0 d1 s0 s1 b0 b1 hm (bH hs (by decide))
  ·exact Dl m _ _ _ _ _ _ _ _ d0 d1 s0 s1 b0 b1 hm (bH hs (by decide))
  ·exact Dk m _ _ _ _ _ _ _ _ d0 d1 s0 s1 b0 b1 hm (bH hs (by decide))
  ·exact Dj m _ _ _ _ _ _ _ _ d0 d1 s0 s1 b0 b1 hm (bH hs (by decide))
  ·exact Di m _ _ _ _ _ _ _ _ d0 d1 s0 s1 b0 b1 hm (bH hs (by decide))
  ·exact Dh m _ _ _ _ _ _ _ _ d0 d1 s0 s1 b0 b1 hm (bH hs (by decide))
  ·exact Dg m _ _ _ _ _ _ _ _ d0 d1 s0 s1 b0 b1 hm (bH hs (by decide))
  ·exact Df m _ _ _ _ _ _ _ _ d0 d1 s0 s1 b0 b1 hm (bH hs (by decide))
  ·exact De m _ _ _ _ _ _ _ _ d0 d1 s0 s1 b0 b1 hm (bH hs (by decide))
  ·exact Dd m _ _ _ _ _ _ _ _ d0 d1 s0 s1 b0 b1 hm (bH hs (by decide))
  ·exact Dc m _ _ _ _ _ _ _ _ d0 d1 s0 s1 b0 b1 hm (bH hs (by decide))
  ·exact Db m _ _ _ _ _ _ _ _ d0 d1 s0 s1 b0 b1 hm (bH hs (by decide))
  ·exact Da m _ _ _ _ _ _ _ _ d0 d1 s0 s1 b0 b1 hm (bH hs (by decide))
  ·obtain ⟨q0,q1,q2,q3,q4,q5,q6,q7,q8,q9,de,dr,dw,du,dt,dn,fk,fc,fz,fs,fo,pc⟩:=m
   cases hd:(aJ (rg [q0,q1,q2,q3,q4,q5,q6,q7,q8,q9,de,dr,dw,du,dt,dn] ab) w==0)
   ·cases hz:(aJ q2 w==0)
    ·have e:gF ((⟨q0,q1,q2,q3,q4,q5,q6,q7,q8,q9,de,dr,dw,du,dt,dn,fk,fc,fz,fs,fo,pc⟩:au).at (u64 (pc+u64 (XS.len ⟨24,w,ab,ae,aa,af,ai,cc⟩)))) ⟨24,w,ab,ae,aa,af,ai,cc⟩ ld=(.zero,20):=by
      show (match (aJ (rg [q0,q1,q2,q3,q4,q5,q6,q7,q8,q9,de,dr,dw,du,dt,dn] ab) w==0:Bool) with|true=>((au.zero,20):au×Int)|false=>match (aJ q2 w==0:Bool) with|false=>(.zero,20)|true=>_)=_
      rw [hd,hz]
     rw [e]
     exact A1 q0 q1 q2 q3 q4 q5 q6 q7 q8 q9 de dr dw du dt dn pc fk fc fz fs fo w ab ae aa af ai cc ld d0 d1 s0 s1 b0 b1 hm hd hz
    ·have e:gF ((⟨q0,q1,q2,q3,q4,q5,q6,q7,q8,q9,de,dr,dw,du,dt,dn,fk,fc,fz,fs,fo,pc⟩:au).at (u64 (pc+u64 (XS.len ⟨24,w,ab,ae,aa,af,ai,cc⟩)))) ⟨24,w,ab,ae,aa,af,ai,cc⟩ ld=(⟨u64 ((aJ q0 w).tdiv (aJ (rg [q0,q1,q2,q3,q4,q5,q6,q7,q8,q9,de,dr,dw,du,dt,dn] ab) w)),q1,(aJ q0 w).tmod (aJ (rg [q0,q1,q2,q3,q4,q5,q6,q7,q8,q9,de,dr,dw,du,dt,dn] ab) w),q3,q4,q5,q6,q7,q8,q9,de,dr,dw,du,dt,dn,false,false,false,false,false,u64 (pc+u64 (XS.len ⟨24,w,ab,ae,aa,af,ai,cc⟩))⟩,0):=by
      show (match (aJ (rg [q0,q1,q2,q3,q4,q5,q6,q7,q8,q9,de,dr,dw,du,dt,dn] ab) w==0:Bool) with|true=>((au.zero,20):au×Int)|false=>match (aJ q2 w==0:Bool) with|false=>(.zero,20)|true=>_)=_
      rw [hd,hz]
      rfl
     rw [e]
     exact C9 q0 q1 q2 q3 q4 q5 q6 q7 q8 q9 de dr dw du dt dn pc fk fc fz fs fo w ab ae aa af ai cc ld d0 d1 s0 s1 b0 b1 hm hd hz
   ·have e:gF ((⟨q0,q1,q2,q3,q4,q5,q6,q7,q8,q9,de,dr,dw,du,dt,dn,fk,fc,fz,fs,fo,pc⟩:au).at (u64 (pc+u64 (XS.len ⟨24,w,ab,ae,aa,af,ai,cc⟩)))) ⟨24,w,ab,ae,aa,af,ai,cc⟩ ld=(.zero,20):=by
     show (match (aJ (rg [q0,q1,q2,q3,q4,q5,q6,q7,q8,q9,de,dr,dw,du,dt,dn] ab) w==0:Bool) with|true=>((au.zero,20):au×Int)|false=>match (aJ q2 w==0:Bool) with|false=>(.zero,20)|true=>_)=_
     rw [hd]
    rw [e]
    exact A2 q0 q1 q2 q3 q4 q5 q6 q7 q8 q9 de dr dw du dt dn pc fk fc fz fs fo w ab ae aa af ai cc ld d0 d1 s0 s1 b0 b1 hm hd
  ·obtain ⟨q0,q1,q2,q3,q4,q5,q6,q7,q8,q9,de,dr,dw,du,dt,dn,fk,fc,fz,fs,fo,pc⟩:=m
   cases fk
   ·exact A0 q0 q1 q2 q3 q4 q5 q6 q7 q8 q9 de dr dw du dt dn pc fc fz fs fo w ab ae aa af ai cc ld d0 d1 s0 s1 b0 b1 hm (xP hs)
   ·exact C8 q0 q1 q2 q3 q4 q5 q6 q7 q8 q9 de dr dw du dt dn pc fc fz fs fo w ab ae aa af ai cc ld d0 d1 s0 s1 b0 b1 hm (xP hs)
  ·exact C7 m _ _ _ _ _ _ _ _ d0 d1 s0 s1 b0 b1 hm
  ·exact C6 m _ _ _ _ _ _ _ _ d0 d1 s0 s1 b0 b1 hm
  ·exact C5 m _ _ _ _ _ _ _ _ d0 d1 s0 s1 b0 b1 hm
  ·obtain ⟨q0,q1,q2,q3,q4,q5,q6,q7,q8,q9,de,dr,dw,du,dt,dn,fk,fc,fz,fs,fo,pc⟩:=m
   cases fk
   ·exact AZ q0 q1 q2 q3 q4 q5 q6 q7 q8 q9 de dr dw du dt dn pc fc fz fs fo w ab ae aa af ai cc ld d0 d1 s0 s1 b0 b1 hm (rj hs)
   ·exact C4 q0 q1 q2 q3 q4 q5 q6 q7 q8 q9 de dr dw du dt dn pc fc fz fs fo w ab ae aa af ai cc ld d0 d1 s0 s1 b0 b1 hm (rj hs)
  ·exact C3 m _ _ _ _ _ _ _ _ d0 d1 s0 s1 b0 b1 hm
  ·obtain ⟨q0,q1,q2,q3,q4,q5,q6,q7,q8,q9,de,dr,dw,du,dt,dn,fk,fc,fz,fs,fo,pc⟩:=m
   exact C2 ⟨q0,q1,q2,q3,q4,q5,q6,q7,q8,q9,de,dr,dw,du,dt,dn,fk,fc,fz,fs,fo,pc⟩ w ab ae aa af ai cc ld d0 d1 s0 s1 b0 b1 hm
abbrev eV (m:au):List D:= [av m.q0,av m.q1,av m.q2,av m.q3,av m.q4,av m.q5,av m.q6,av m.q7,av m.q8,av m.q9,av m.de,av m.dr,av m.dw,av m.du,av m.dt,av m.dn,ax m.fk,ax m.fc,ax m.fz,ax m.fs,ax m.fo,av m.pc]
abbrev uC (m:au) (an tr:List D) (v:Nat) (en:Int):List D:= [av m.q0,av m.q1,av m.q2,av m.q3,av m.q4,av m.q5,av m.q6,av m.q7,av m.q8,av m.q9,av m.de,av m.dr,av m.dw,av m.du,av m.dt,av m.dn,ax m.fk,ax m.fc,ax m.fz,ax m.fs,ax m.fo,av m.pc,.ptr false 1 0,bj 1 an,.bc (.tok 16 v) 3 tr,ak en]
end Go.Proofs.YtbfpahigdpigpaaGreat
