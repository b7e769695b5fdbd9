import Derived.Test.YtbfpahigdpigpaaGreatQ08
import Derived.Test.YtbfpahigdpigpaaGreatQ11
open List renaming replicate→Z7,getElem?_eq_none→aam,getElem?_map→aau,getElem?_eq_getElem→aaN,length_replicate→aa4,mem_cons→abj
open Go.Proofs.Tryz renaming prog→Z9,func163→abi
open And renaming intro→aaj
open True renaming intro→aaz
open Go.Fn renaming func→aa7
open Go renaming IntKind→abz
/- Contracts and plain laws that a statement's proof leans on (texts merged:Y1b,Y1c,Y1d,E0F0,E0F,ESC,E1e,Y1f,ESM,EM3A,DSA,DPA,XQU,MdEo,DPB). -/
set_option linter.unusedVariables false
set_option linter.unusedSimpArgs false
set_option maxRecDepth 100000
set_option maxHeartbeats 8000000
namespace Go.Proofs.YtbfpahigdpigpaaGreat
open Go Go.Ev
def Sz:List D:= [D.fn (aa7 117) [.ptr false 4 0] [],D.fn (aa7 118) [.ptr false 4 0] [],D.b6,D.b6,D.b6,D.b6,D.b6,D.b6,D.b6,D.b6,D.b6,D.b6,D.b6,D.b6,D.b6,D.b6,D.b6,D.b6,D.b6,D.b6,D.b6,D.b6,D.b6,D.b6,D.fn (aa7 119) [.ptr false 4 0] [],D.fn (aa7 120) [.ptr false 4 0] [],D.fn (aa7 121) [.ptr false 4 0] [],D.fn (aa7 122) [.ptr false 4 0] [],D.fn (aa7 123) [.ptr false 4 0] [],D.fn (aa7 124) [.ptr false 4 0] [],D.fn (aa7 125) [.ptr false 4 0] [],D.fn (aa7 126) [.ptr false 4 0] []]
def rV:List (Int×D):= [((2:Int),ao 0),((9:Int),ao 0),((3:Int),ao 4),((10:Int),ao 4),((4:Int),ao 5),((11:Int),ao 5),((8:Int),ao 5),((15:Int),ao 5),((5:Int),ao 1),((12:Int),ao 1),((7:Int),ao 1),((14:Int),ao 1),((6:Int),ao 10),((13:Int),ao 10),((16:Int),ao 2),((17:Int),ao 6),((20:Int),ao 6),((18:Int),ao 7),((21:Int),ao 7),((19:Int),ao 12),((22:Int),ao 12),((23:Int),ao 8)]
def oh (Ua:Int):Prop:= ∀(m:aq) (w ab ae aa af aj cc ld:Int) (d0:0≤ab) (d1:ab≤15) (s0:0≤ae) (s1:ae≤15) (b0:0≤aa) (b1:aa≤15) (hm:bC Ua w ab ae aa af aj cc=true) (hw:bG w=true),aP Z9 83 ([m.d,xD Ua w ab ae aa af aj cc,au ld]) (.aL [(gu (m.at (u64 (m.pc+u64 (ck Ua w ab ae aa af aj cc)))) ⟨Ua,w,ab,ae,aa,af,aj,cc⟩ ld).1.d,av 0])
theorem H8:oh 3:=by
 intro m w ab ae aa af aj cc ld d0 d1 s0 s1 b0 b1 hm hw
 have c0:= @a9 3 w ab ae aa af aj cc (by decide)
 rw [hm] at c0
 have c1:= @cP 3 w ab ae aa af aj cc (by decide)
 have c2:= @Bx w (rg (aq.rl m) ab) (rg (aq.rl m) ae) hw
 have c3:= @kK w (ft 4 w (rg (aq.rl m) ab) (rg (aq.rl m) ae)) hw
 have c4:= @bT 3 w ab ae aa af aj cc (by decide)
 exact (lL (d:= .aL [(gu (m.at (u64 (m.pc+u64 (ck 3 w ab ae aa af aj cc)))) ⟨3,w,ab,ae,aa,af,aj,cc⟩ ld).1.d,av 0]) ([aw c0,tF,aw c1,tT,tT,aO,aO,.aU [(4,ay (aq.cw m (de m 3 w ab ae aa af aj cc) (xT 3 w ab ae aa af aj cc ld)))],.jM rV 3 (some (ao 4)) rfl,.cX _ true (cu d0 d1),.get _ _ _ (@bj m ab ((fT m (de m 3 w ab ae aa af aj cc) (xT 3 w ab ae aa af aj cc ld))) d0 d1),aO]++Z7 24 tF++ [.cX _ true (cu s0 s1),.get _ _ _ (@bj m ae ((fT m (de m 3 w ab ae aa af aj cc) (xT 3 w ab ae aa af aj cc ld))) s0 s1),.aU [(4,ay (aq.cw m (de m 3 w ab ae aa af aj cc) (xT 3 w ab ae aa af aj cc ld)))],aw c2,tF,tF,tF,tF,tT,tT,aw c3,aw c4,tC (nt (@jd 3 w ab ae aa af aj cc hm d0 d1 (rfl:true=true))),.cX _ true (cu d0 d1),.ej _ _ _ _ (@bO m ab (ft 4 w (rg (aq.rl m) ab) (rg (aq.rl m) ae)) ([ax true,ax false,ax (aI (ft 4 w (rg (aq.rl m) ab) (rg (aq.rl m) ae)) w==0),ax (fG (ft 4 w (rg (aq.rl m) ab) (rg (aq.rl m) ae)) w),ax false,au (de m 3 w ab ae aa af aj cc),ao 3,ao w,ao ab,ao ae,ao aa,av af,av aj,ao cc,au ld]) d0 d1),tF]) (by kernel_rfl))
theorem H7:oh 4:=by
 intro m w ab ae aa af aj cc ld d0 d1 s0 s1 b0 b1 hm hw
 have c0:= @a9 4 w ab ae aa af aj cc (by decide)
 rw [hm] at c0
 have c1:= @cP 4 w ab ae aa af aj cc (by decide)
 have c2:= @pB w (rg (aq.rl m) ab) (rg (aq.rl m) ae) hw
 have c3:= @kK w (ft 5 w (rg (aq.rl m) ab) (rg (aq.rl m) ae)) hw
 have c4:= @bT 4 w ab ae aa af aj cc (by decide)
 exact (lL (d:= .aL [(gu (m.at (u64 (m.pc+u64 (ck 4 w ab ae aa af aj cc)))) ⟨4,w,ab,ae,aa,af,aj,cc⟩ ld).1.d,av 0]) ([aw c0,tF,aw c1,tT,tT,aO,aO,.aU [(4,ay (aq.cw m (de m 4 w ab ae aa af aj cc) (xT 4 w ab ae aa af aj cc ld)))],.jM rV 4 (some (ao 5)) rfl,.cX _ true (cu d0 d1),.get _ _ _ (@bj m ab ((fT m (de m 4 w ab ae aa af aj cc) (xT 4 w ab ae aa af aj cc ld))) d0 d1),aO]++Z7 24 tF++ [.cX _ true (cu s0 s1),.get _ _ _ (@bj m ae ((fT m (de m 4 w ab ae aa af aj cc) (xT 4 w ab ae aa af aj cc ld))) s0 s1),.aU [(4,ay (aq.cw m (de m 4 w ab ae aa af aj cc) (xT 4 w ab ae aa af aj cc ld)))],aw c2,tF,tF,tF,tF,tF,tT,tT,aw c3,aw c4,tC (nt (@jd 4 w ab ae aa af aj cc hm d0 d1 (rfl:true=true))),.cX _ true (cu d0 d1),.ej _ _ _ _ (@bO m ab (ft 5 w (rg (aq.rl m) ab) (rg (aq.rl m) ae)) ([ax true,ax false,ax (aI (ft 5 w (rg (aq.rl m) ab) (rg (aq.rl m) ae)) w==0),ax (fG (ft 5 w (rg (aq.rl m) ab) (rg (aq.rl m) ae)) w),ax false,au (de m 4 w ab ae aa af aj cc),ao 4,ao w,ao ab,ao ae,ao aa,av af,av aj,ao cc,au ld]) d0 d1),tF]) (by kernel_rfl))
theorem H6:oh 5:=by
 intro m w ab ae aa af aj cc ld d0 d1 s0 s1 b0 b1 hm hw
 have c0:= @a9 5 w ab ae aa af aj cc (by decide)
 rw [hm] at c0
 have c1:= @cP 5 w ab ae aa af aj cc (by decide)
 have c2:= @pC w (rg (aq.rl m) ab) (rg (aq.rl m) ae) hw
 have c3:= @pq w (rg (aq.rl m) ab) (rg (aq.rl m) ae) hw
 have c4:= @bT 5 w ab ae aa af aj cc (by decide)
 exact (lL (d:= .aL [(gu (m.at (u64 (m.pc+u64 (ck 5 w ab ae aa af aj cc)))) ⟨5,w,ab,ae,aa,af,aj,cc⟩ ld).1.d,av 0]) ([aw c0,tF,aw c1,tT,tT,aO,aO,.aU [(4,ay (aq.cw m (de m 5 w ab ae aa af aj cc) (xT 5 w ab ae aa af aj cc ld)))],.jM rV 5 (some (ao 1)) rfl,.cX _ true (cu d0 d1),.get _ _ _ (@bj m ab ((fT m (de m 5 w ab ae aa af aj cc) (xT 5 w ab ae aa af aj cc ld))) d0 d1),aO]++Z7 24 tF++ [.cX _ true (cu s0 s1),.get _ _ _ (@bj m ae ((fT m (de m 5 w ab ae aa af aj cc) (xT 5 w ab ae aa af aj cc ld))) s0 s1),.aU [(4,ay (aq.cw m (de m 5 w ab ae aa af aj cc) (xT 5 w ab ae aa af aj cc ld)))],aw c2,tF,tF,tT,aw c3,aw c4,tC (nt (@jd 5 w ab ae aa af aj cc hm d0 d1 (rfl:true=true))),.cX _ true (cu d0 d1),.ej _ _ _ _ (@bO m ab (ft 1 w (rg (aq.rl m) ab) (rg (aq.rl m) ae)) ([ax true,ax (rY w (rg (aq.rl m) ab) (rg (aq.rl m) ae)),ax (aI (u64 (rg (aq.rl m) ab - rg (aq.rl m) ae)) w==0),ax (fG (u64 (rg (aq.rl m) ab - rg (aq.rl m) ae)) w),ax (rX w (rg (aq.rl m) ab) (rg (aq.rl m) ae)),au (de m 5 w ab ae aa af aj cc),ao 5,ao w,ao ab,ao ae,ao aa,av af,av aj,ao cc,au ld]) d0 d1),tF]) (by kernel_rfl))
theorem H5:oh 6:=by
 intro m w ab ae aa af aj cc ld d0 d1 s0 s1 b0 b1 hm hw
 have c0:= @a9 6 w ab ae aa af aj cc (by decide)
 rw [hm] at c0
 have c1:= @cP 6 w ab ae aa af aj cc (by decide)
 have c2:= @vH w (rg (aq.rl m) ab) (rg (aq.rl m) ae) hw
 have c3:= @kK w (ft 10 w (rg (aq.rl m) ab) (rg (aq.rl m) ae)) hw
 have c4:= @bT 6 w ab ae aa af aj cc (by decide)
 exact (lL (d:= .aL [(gu (m.at (u64 (m.pc+u64 (ck 6 w ab ae aa af aj cc)))) ⟨6,w,ab,ae,aa,af,aj,cc⟩ ld).1.d,av 0]) ([aw c0,tF,aw c1,tT,tT,aO,aO,.aU [(4,ay (aq.cw m (de m 6 w ab ae aa af aj cc) (xT 6 w ab ae aa af aj cc ld)))],.jM rV 6 (some (ao 10)) rfl,.cX _ true (cu d0 d1),.get _ _ _ (@bj m ab ((fT m (de m 6 w ab ae aa af aj cc) (xT 6 w ab ae aa af aj cc ld))) d0 d1),aO]++Z7 24 tF++ [.cX _ true (cu s0 s1),.get _ _ _ (@bj m ae ((fT m (de m 6 w ab ae aa af aj cc) (xT 6 w ab ae aa af aj cc ld))) s0 s1),.aU [(4,ay (aq.cw m (de m 6 w ab ae aa af aj cc) (xT 6 w ab ae aa af aj cc ld)))],aw c2,tF,tF,tF,tF,tF,tF,tT,aw c3,aw c4,tC (nt (@jd 6 w ab ae aa af aj cc hm d0 d1 (rfl:true=true))),.cX _ true (cu d0 d1),.ej _ _ _ _ (@bO m ab (ft 10 w (rg (aq.rl m) ab) (rg (aq.rl m) ae)) ([ax true,ax false,ax (aI (ft 10 w (rg (aq.rl m) ab) (rg (aq.rl m) ae)) w==0),ax (fG (ft 10 w (rg (aq.rl m) ab) (rg (aq.rl m) ae)) w),ax false,au (de m 6 w ab ae aa af aj cc),ao 6,ao w,ao ab,ao ae,ao aa,av af,av aj,ao cc,au ld]) d0 d1),tF]) (by kernel_rfl))
theorem H4:oh 7:=by
 intro m w ab ae aa af aj cc ld d0 d1 s0 s1 b0 b1 hm hw
 have c0:= @a9 7 w ab ae aa af aj cc (by decide)
 rw [hm] at c0
 have c1:= @cP 7 w ab ae aa af aj cc (by decide)
 have c2:= @pC w (rg (aq.rl m) ab) (rg (aq.rl m) ae) hw
 have c3:= @pq w (rg (aq.rl m) ab) (rg (aq.rl m) ae) hw
 have c4:= @bT 7 w ab ae aa af aj cc (by decide)
 exact (lL (d:= .aL [(gu (m.at (u64 (m.pc+u64 (ck 7 w ab ae aa af aj cc)))) ⟨7,w,ab,ae,aa,af,aj,cc⟩ ld).1.d,av 0]) ([aw c0,tF,aw c1,tT,tT,aO,aO,.aU [(4,ay (aq.cw m (de m 7 w ab ae aa af aj cc) (xT 7 w ab ae aa af aj cc ld)))],.jM rV 7 (some (ao 1)) rfl,.cX _ true (cu d0 d1),.get _ _ _ (@bj m ab ((fT m (de m 7 w ab ae aa af aj cc) (xT 7 w ab ae aa af aj cc ld))) d0 d1),aO]++Z7 24 tF++ [.cX _ true (cu s0 s1),.get _ _ _ (@bj m ae ((fT m (de m 7 w ab ae aa af aj cc) (xT 7 w ab ae aa af aj cc ld))) s0 s1),.aU [(4,ay (aq.cw m (de m 7 w ab ae aa af aj cc) (xT 7 w ab ae aa af aj cc ld)))],aw c2,tF,tF,tT,aw c3,aw c4,tC (nt (cK 0 true (eq_of_beq (@L9 7 w ab ae aa af aj cc (rfl:false=false))))),tF]) (by kernel_rfl))
theorem H3:oh 8:=by
 intro m w ab ae aa af aj cc ld d0 d1 s0 s1 b0 b1 hm hw
 have c0:= @a9 8 w ab ae aa af aj cc (by decide)
 rw [hm] at c0
 have c1:= @cP 8 w ab ae aa af aj cc (by decide)
 have c2:= @pB w (rg (aq.rl m) ab) (rg (aq.rl m) ae) hw
 have c3:= @kK w (ft 5 w (rg (aq.rl m) ab) (rg (aq.rl m) ae)) hw
 have c4:= @bT 8 w ab ae aa af aj cc (by decide)
 exact (lL (d:= .aL [(gu (m.at (u64 (m.pc+u64 (ck 8 w ab ae aa af aj cc)))) ⟨8,w,ab,ae,aa,af,aj,cc⟩ ld).1.d,av 0]) ([aw c0,tF,aw c1,tT,tT,aO,aO,.aU [(4,ay (aq.cw m (de m 8 w ab ae aa af aj cc) (xT 8 w ab ae aa af aj cc ld)))],.jM rV 8 (some (ao 5)) rfl,.cX _ true (cu d0 d1),.get _ _ _ (@bj m ab ((fT m (de m 8 w ab ae aa af aj cc) (xT 8 w ab ae aa af aj cc ld))) d0 d1),aO]++Z7 24 tF++ [.cX _ true (cu s0 s1),.get _ _ _ (@bj m ae ((fT m (de m 8 w ab ae aa af aj cc) (xT 8 w ab ae aa af aj cc ld))) s0 s1),.aU [(4,ay (aq.cw m (de m 8 w ab ae aa af aj cc) (xT 8 w ab ae aa af aj cc ld)))],aw c2,tF,tF,tF,tF,tF,tT,tT,aw c3,aw c4,tC (nt (cK 0 true (eq_of_beq (@L9 8 w ab ae aa af aj cc (rfl:false=false))))),tF]) (by kernel_rfl))
theorem DD:oh 12:=by
 intro m w ab ae aa af aj cc ld d0 d1 s0 s1 b0 b1 hm hw
 have c0:= @a9 12 w ab ae aa af aj cc (by decide)
 rw [hm] at c0
 have c1:= @cP 12 w ab ae aa af aj cc (by decide)
 have c2:= @pC w (rg (aq.rl m) ab) (abz.wrap abz.u64 aj) hw
 have c3:= @pq w (rg (aq.rl m) ab) (abz.wrap abz.u64 aj) hw
 have c4:= @bT 12 w ab ae aa af aj cc (by decide)
 exact (lL (d:= .aL [(gu (m.at (u64 (m.pc+u64 (ck 12 w ab ae aa af aj cc)))) ⟨12,w,ab,ae,aa,af,aj,cc⟩ ld).1.d,av 0]) ([aw c0,tF,aw c1,tT,tT,aO,aO,.aU [(4,ay (aq.cw m (de m 12 w ab ae aa af aj cc) (xT 12 w ab ae aa af aj cc ld)))],.jM rV 12 (some (ao 1)) rfl,.cX _ true (cu d0 d1),.get _ _ _ (@bj m ab ((fT m (de m 12 w ab ae aa af aj cc) (xT 12 w ab ae aa af aj cc ld))) d0 d1),aO]++Z7 8 tF++Z7 9 tT++ [.aU [(4,ay (aq.cw m (de m 12 w ab ae aa af aj cc) (xT 12 w ab ae aa af aj cc ld)))],aw c2,tF,tF,tT,aw c3,aw c4,tC (nt (@jd 12 w ab ae aa af aj cc hm d0 d1 (rfl:true=true))),.cX _ true (cu d0 d1),.ej _ _ _ _ (@bO m ab (ft 1 w (rg (aq.rl m) ab) (abz.wrap abz.u64 aj)) ([ax true,ax (rY w (rg (aq.rl m) ab) (abz.wrap abz.u64 aj)),ax (aI (u64 (rg (aq.rl m) ab - abz.wrap abz.u64 aj)) w==0),ax (fG (u64 (rg (aq.rl m) ab - abz.wrap abz.u64 aj)) w),ax (rX w (rg (aq.rl m) ab) (abz.wrap abz.u64 aj)),au (de m 12 w ab ae aa af aj cc),ao 12,ao w,ao ab,ao ae,ao aa,av af,av aj,ao cc,au ld]) d0 d1),tF]) (by kernel_rfl))
def Sy:List D:= [D.fn (aa7 117) [.ptr false 4 0] [],D.fn (aa7 118) [.ptr false 4 0] [],D.b6,D.b6,D.b6,D.b6,D.b6,D.b6,D.b6,D.b6,D.b6,D.b6,D.b6,D.b6,D.b6,D.b6,D.b6,D.b6,D.b6,D.b6,D.b6,D.b6,D.b6,D.b6,D.fn (aa7 119) [.ptr false 4 0] [],D.fn (aa7 120) [.ptr false 4 0] [],D.fn (aa7 121) [.ptr false 4 0] [],D.fn (aa7 122) [.ptr false 4 0] [],D.fn (aa7 123) [.ptr false 4 0] [],D.fn (aa7 124) [.ptr false 4 0] [],D.fn (aa7 125) [.ptr false 4 0] [],D.fn (aa7 126) [.ptr false 4 0] []]
def rU:List (Int×D):= [((2:Int),ao 0),((9:Int),ao 0),((3:Int),ao 4),((10:Int),ao 4),((4:Int),ao 5),((11:Int),ao 5),((8:Int),ao 5),((15:Int),ao 5),((5:Int),ao 1),((12:Int),ao 1),((7:Int),ao 1),((14:Int),ao 1),((6:Int),ao 10),((13:Int),ao 10),((16:Int),ao 2),((17:Int),ao 6),((20:Int),ao 6),((18:Int),ao 7),((21:Int),ao 7),((19:Int),ao 12),((22:Int),ao 12),((23:Int),ao 8)]
def og (Ua:Int):Prop:= ∀(m:aq) (w ab ae aa af aj cc ld:Int) (d0:0≤ab) (d1:ab≤15) (s0:0≤ae) (s1:ae≤15) (b0:0≤aa) (b1:aa≤15) (hm:bC Ua w ab ae aa af aj cc=true) (hw:bG w=true),aP Z9 83 ([m.d,xD Ua w ab ae aa af aj cc,au ld]) (.aL [(gu (m.at (u64 (m.pc+u64 (ck Ua w ab ae aa af aj cc)))) ⟨Ua,w,ab,ae,aa,af,aj,cc⟩ ld).1.d,av 0])
theorem Dy:og 17:=by
 intro m w ab ae aa af aj cc ld d0 d1 s0 s1 b0 b1 hm hw
 have c0:= @a9 17 w ab ae aa af aj cc (by decide)
 rw [hm] at c0
 have c1:= @cP 17 w ab ae aa af aj cc (by decide)
 have c2:= @Bw w (rg (aq.rl m) ab) (abz.wrap abz.u64 aj) hw
 have c3:= @eI
 have c4:= @bT 17 w ab ae aa af aj cc (by decide)
 exact (lL (d:= .aL [(gu (m.at (u64 (m.pc+u64 (ck 17 w ab ae aa af aj cc)))) ⟨17,w,ab,ae,aa,af,aj,cc⟩ ld).1.d,av 0]) ([aw c0,tF,aw c1,tT,tT,aO,aO,.aU [(4,ay (aq.cw m (de m 17 w ab ae aa af aj cc) (xT 17 w ab ae aa af aj cc ld)))],.jM rU 17 (some (ao 6)) rfl,.cX _ true (cu d0 d1),.get _ _ _ (@bj m ab ((fT m (de m 17 w ab ae aa af aj cc) (xT 17 w ab ae aa af aj cc ld))) d0 d1),aO]++Z7 8 tF++(cr 8 127)++Z7 8 tT++ [.aU [(4,ay (aq.cw m (de m 17 w ab ae aa af aj cc) (xT 17 w ab ae aa af aj cc ld)))],aw c2,tF,tF,tF,tF,tF,tF,tF,aw c3,aw c4,tC (nt (@jd 17 w ab ae aa af aj cc hm d0 d1 (rfl:true=true))),.cX _ true (cu d0 d1),.ej _ _ _ _ (@bO m ab (ft 6 w (rg (aq.rl m) ab) (abz.wrap abz.u64 aj)) ([ax false,ax false,ax false,ax false,ax false,au (de m 17 w ab ae aa af aj cc),ao 17,ao w,ao ab,ao ae,ao aa,av af,av aj,ao cc,au ld]) d0 d1),tF]) (by kernel_rfl))
theorem Dx:og 18:=by
 intro m w ab ae aa af aj cc ld d0 d1 s0 s1 b0 b1 hm hw
 have c0:= @a9 18 w ab ae aa af aj cc (by decide)
 rw [hm] at c0
 have c1:= @cP 18 w ab ae aa af aj cc (by decide)
 have c2:= @Bv w (rg (aq.rl m) ab) (abz.wrap abz.u64 aj) hw
 have c3:= @eI
 have c4:= @bT 18 w ab ae aa af aj cc (by decide)
 exact (lL (d:= .aL [(gu (m.at (u64 (m.pc+u64 (ck 18 w ab ae aa af aj cc)))) ⟨18,w,ab,ae,aa,af,aj,cc⟩ ld).1.d,av 0]) ([aw c0,tF,aw c1,tT,tT,aO,aO,.aU [(4,ay (aq.cw m (de m 18 w ab ae aa af aj cc) (xT 18 w ab ae aa af aj cc ld)))],.jM rU 18 (some (ao 7)) rfl,.cX _ true (cu d0 d1),.get _ _ _ (@bj m ab ((fT m (de m 18 w ab ae aa af aj cc) (xT 18 w ab ae aa af aj cc ld))) d0 d1),aO]++Z7 8 tF++(cr 8 127)++Z7 8 tT++ [.aU [(4,ay (aq.cw m (de m 18 w ab ae aa af aj cc) (xT 18 w ab ae aa af aj cc ld)))],aw c2,tF,tF,tF,tF,tF,tF,tF,aw c3,aw c4,tC (nt (@jd 18 w ab ae aa af aj cc hm d0 d1 (rfl:true=true))),.cX _ true (cu d0 d1),.ej _ _ _ _ (@bO m ab (ft 7 w (rg (aq.rl m) ab) (abz.wrap abz.u64 aj)) ([ax false,ax false,ax false,ax false,ax false,au (de m 18 w ab ae aa af aj cc),ao 18,ao w,ao ab,ao ae,ao aa,av af,av aj,ao cc,au ld]) d0 d1),tF]) (by kernel_rfl))
theorem Dw:og 19:=by
 intro m w ab ae aa af aj cc ld d0 d1 s0 s1 b0 b1 hm hw
 have c0:= @a9 19 w ab ae aa af aj cc (by decide)
 rw [hm] at c0
 have c1:= @cP 19 w ab ae aa af aj cc (by decide)
 have c2:= @vG w (rg (aq.rl m) ab) (abz.wrap abz.u64 aj) hw
 have c3:= @eI
 have c4:= @bT 19 w ab ae aa af aj cc (by decide)
 exact (lL (d:= .aL [(gu (m.at (u64 (m.pc+u64 (ck 19 w ab ae aa af aj cc)))) ⟨19,w,ab,ae,aa,af,aj,cc⟩ ld).1.d,av 0]) ([aw c0,tF,aw c1,tT,tT,aO,aO,.aU [(4,ay (aq.cw m (de m 19 w ab ae aa af aj cc) (xT 19 w ab ae aa af aj cc ld)))],.jM rU 19 (some (ao 12)) rfl,.cX _ true (cu d0 d1),.get _ _ _ (@bj m ab ((fT m (de m 19 w ab ae aa af aj cc) (xT 19 w ab ae aa af aj cc ld))) d0 d1),aO]++Z7 8 tF++(cr 8 127)++Z7 8 tT++ [.aU [(4,ay (aq.cw m (de m 19 w ab ae aa af aj cc) (xT 19 w ab ae aa af aj cc ld)))],aw c2,tF,tF,tF,tF,tF,tF,tF,aw c3,aw c4,tC (nt (@jd 19 w ab ae aa af aj cc hm d0 d1 (rfl:true=true))),.cX _ true (cu d0 d1),.ej _ _ _ _ (@bO m ab (ft 12 w (rg (aq.rl m) ab) (abz.wrap abz.u64 aj)) ([ax false,ax false,ax false,ax false,ax false,au (de m 19 w ab ae aa af aj cc),ao 19,ao w,ao ab,ao ae,ao aa,av af,av aj,ao cc,au ld]) d0 d1),tF]) (by kernel_rfl))
theorem Dv:og 20:=by
 intro m w ab ae aa af aj cc ld d0 d1 s0 s1 b0 b1 hm hw
 have c0:= @a9 20 w ab ae aa af aj cc (by decide)
 rw [hm] at c0
 have c1:= @cP 20 w ab ae aa af aj cc (by decide)
 have c2:= @Bw w (rg (aq.rl m) ab) (aq.q1 m) hw
 have c3:= @eI
 have c4:= @bT 20 w ab ae aa af aj cc (by decide)
 exact (lL (d:= .aL [(gu (m.at (u64 (m.pc+u64 (ck 20 w ab ae aa af aj cc)))) ⟨20,w,ab,ae,aa,af,aj,cc⟩ ld).1.d,av 0]) ([aw c0,tF,aw c1,tT,tT,aO,aO,.aU [(4,ay (aq.cw m (de m 20 w ab ae aa af aj cc) (xT 20 w ab ae aa af aj cc ld)))],.jM rU 20 (some (ao 6)) rfl,.cX _ true (cu d0 d1),.get _ _ _ (@bj m ab ((fT m (de m 20 w ab ae aa af aj cc) (xT 20 w ab ae aa af aj cc ld))) d0 d1),aO]++Z7 8 tT++ [.aU [(4,ay (aq.cw m (de m 20 w ab ae aa af aj cc) (xT 20 w ab ae aa af aj cc ld)))],aw c2,tF,tF,tF,tF,tF,tF,tF,aw c3,aw c4,tC (nt (@jd 20 w ab ae aa af aj cc hm d0 d1 (rfl:true=true))),.cX _ true (cu d0 d1),.ej _ _ _ _ (@bO m ab (ft 6 w (rg (aq.rl m) ab) (aq.q1 m)) ([ax false,ax false,ax false,ax false,ax false,au (de m 20 w ab ae aa af aj cc),ao 20,ao w,ao ab,ao ae,ao aa,av af,av aj,ao cc,au ld]) d0 d1),tF]) (by kernel_rfl))
theorem Du:og 21:=by
 intro m w ab ae aa af aj cc ld d0 d1 s0 s1 b0 b1 hm hw
 have c0:= @a9 21 w ab ae aa af aj cc (by decide)
 rw [hm] at c0
 have c1:= @cP 21 w ab ae aa af aj cc (by decide)
 have c2:= @Bv w (rg (aq.rl m) ab) (aq.q1 m) hw
 have c3:= @eI
 have c4:= @bT 21 w ab ae aa af aj cc (by decide)
 exact (lL (d:= .aL [(gu (m.at (u64 (m.pc+u64 (ck 21 w ab ae aa af aj cc)))) ⟨21,w,ab,ae,aa,af,aj,cc⟩ ld).1.d,av 0]) ([aw c0,tF,aw c1,tT,tT,aO,aO,.aU [(4,ay (aq.cw m (de m 21 w ab ae aa af aj cc) (xT 21 w ab ae aa af aj cc ld)))],.jM rU 21 (some (ao 7)) rfl,.cX _ true (cu d0 d1),.get _ _ _ (@bj m ab ((fT m (de m 21 w ab ae aa af aj cc) (xT 21 w ab ae aa af aj cc ld))) d0 d1),aO]++Z7 8 tT++ [.aU [(4,ay (aq.cw m (de m 21 w ab ae aa af aj cc) (xT 21 w ab ae aa af aj cc ld)))],aw c2,tF,tF,tF,tF,tF,tF,tF,aw c3,aw c4,tC (nt (@jd 21 w ab ae aa af aj cc hm d0 d1 (rfl:true=true))),.cX _ true (cu d0 d1),.ej _ _ _ _ (@bO m ab (ft 7 w (rg (aq.rl m) ab) (aq.q1 m)) ([ax false,ax false,ax false,ax false,ax false,au (de m 21 w ab ae aa af aj cc),ao 21,ao w,ao ab,ao ae,ao aa,av af,av aj,ao cc,au ld]) d0 d1),tF]) (by kernel_rfl))
theorem Dt:og 22:=by
 intro m w ab ae aa af aj cc ld d0 d1 s0 s1 b0 b1 hm hw
 have c0:= @a9 22 w ab ae aa af aj cc (by decide)
 rw [hm] at c0
 have c1:= @cP 22 w ab ae aa af aj cc (by decide)
 have c2:= @vG w (rg (aq.rl m) ab) (aq.q1 m) hw
 have c3:= @eI
 have c4:= @bT 22 w ab ae aa af aj cc (by decide)
 exact (lL (d:= .aL [(gu (m.at (u64 (m.pc+u64 (ck 22 w ab ae aa af aj cc)))) ⟨22,w,ab,ae,aa,af,aj,cc⟩ ld).1.d,av 0]) ([aw c0,tF,aw c1,tT,tT,aO,aO,.aU [(4,ay (aq.cw m (de m 22 w ab ae aa af aj cc) (xT 22 w ab ae aa af aj cc ld)))],.jM rU 22 (some (ao 12)) rfl,.cX _ true (cu d0 d1),.get _ _ _ (@bj m ab ((fT m (de m 22 w ab ae aa af aj cc) (xT 22 w ab ae aa af aj cc ld))) d0 d1),aO]++Z7 8 tT++ [.aU [(4,ay (aq.cw m (de m 22 w ab ae aa af aj cc) (xT 22 w ab ae aa af aj cc ld)))],aw c2,tF,tF,tF,tF,tF,tF,tF,aw c3,aw c4,tC (nt (@jd 22 w ab ae aa af aj cc hm d0 d1 (rfl:true=true))),.cX _ true (cu d0 d1),.ej _ _ _ _ (@bO m ab (ft 12 w (rg (aq.rl m) ab) (aq.q1 m)) ([ax false,ax false,ax false,ax false,ax false,au (de m 22 w ab ae aa af aj cc),ao 22,ao w,ao ab,ao ae,ao aa,av af,av aj,ao cc,au ld]) d0 d1),tF]) (by kernel_rfl))
theorem Ds:og 23:=by
 intro m w ab ae aa af aj cc ld d0 d1 s0 s1 b0 b1 hm hw
 have c0:= @a9 23 w ab ae aa af aj cc (by decide)
 rw [hm] at c0
 have c1:= @cP 23 w ab ae aa af aj cc (by decide)
 have c2:= @LI w (rg (aq.rl m) ab) (rg (aq.rl m) ae) hw
 have c3:= @pq w 0 (rg (aq.rl m) ab) hw
 have c4:= @bT 23 w ab ae aa af aj cc (by decide)
 exact (lL (d:= .aL [(gu (m.at (u64 (m.pc+u64 (ck 23 w ab ae aa af aj cc)))) ⟨23,w,ab,ae,aa,af,aj,cc⟩ ld).1.d,av 0]) (([aw c0,tF,aw c1,tT,tT,aO,aO,.aU [(4,ay (aq.cw m (de m 23 w ab ae aa af aj cc) (xT 23 w ab ae aa af aj cc ld)))],.jM rU 23 (some (ao 8)) rfl,.cX _ true (cu d0 d1),.get _ _ _ (@bj m ab ((fT m (de m 23 w ab ae aa af aj cc) (xT 23 w ab ae aa af aj cc ld))) d0 d1),aO]++cr 24 8355711++ [.cX _ true (cu s0 s1),.get _ _ _ (@bj m ae ((fT m (de m 23 w ab ae aa af aj cc) (xT 23 w ab ae aa af aj cc ld))) s0 s1),.aU [(4,ay (aq.cw m (de m 23 w ab ae aa af aj cc) (xT 23 w ab ae aa af aj cc ld)))],aw c2,tF,tF,tF,tT,aw c3,aw c4,tC (nt (@jd 23 w ab ae aa af aj cc hm d0 d1 (rfl:true=true))),.cX _ true (cu d0 d1),.ej _ _ _ _ (@bO m ab (ft 8 w (rg (aq.rl m) ab) (rg (aq.rl m) ae)) ([ax true,ax (rY w 0 (rg (aq.rl m) ab)),ax (aI (u64 (0 - rg (aq.rl m) ab)) w==0),ax (fG (u64 (0 - rg (aq.rl m) ab)) w),ax (rX w 0 (rg (aq.rl m) ab)),au (de m 23 w ab ae aa af aj cc),ao 23,ao w,ao ab,ao ae,ao aa,av af,av aj,ao cc,au ld]) d0 d1)])++ [tF]) (by kernel_rfl))
def Sx:List D:= [D.fn (aa7 117) [.ptr false 4 0] [],D.fn (aa7 118) [.ptr false 4 0] [],D.b6,D.b6,D.b6,D.b6,D.b6,D.b6,D.b6,D.b6,D.b6,D.b6,D.b6,D.b6,D.b6,D.b6,D.b6,D.b6,D.b6,D.b6,D.b6,D.b6,D.b6,D.b6,D.fn (aa7 119) [.ptr false 4 0] [],D.fn (aa7 120) [.ptr false 4 0] [],D.fn (aa7 121) [.ptr false 4 0] [],D.fn (aa7 122) [.ptr false 4 0] [],D.fn (aa7 123) [.ptr false 4 0] [],D.fn (aa7 124) [.ptr false 4 0] [],D.fn (aa7 125) [.ptr false 4 0] [],D.fn (aa7 126) [.ptr false 4 0] []]
def oe (Ua:Int):Prop:= ∀(m:aq) (w ab ae aa af aj cc ld:Int) (d0:0≤ab) (d1:ab≤15) (s0:0≤ae) (s1:ae≤15) (b0:0≤aa) (b1:aa≤15) (hm:bC Ua w ab ae aa af aj cc=true),aP Z9 83 ([m.d,xD Ua w ab ae aa af aj cc,au ld]) (.aL [(gu (m.at (u64 (m.pc+u64 (ck Ua w ab ae aa af aj cc)))) ⟨Ua,w,ab,ae,aa,af,aj,cc⟩ ld).1.d,av 0])
theorem Ib:oe 0:=by
 intro m w ab ae aa af aj cc ld d0 d1 s0 s1 b0 b1 hm
 have c0:= @a9 0 w ab ae aa af aj cc (by decide)
 rw [show (bC 0 w ab ae aa af aj cc)=true from hm] at c0
 have c1:= @cP 0 w ab ae aa af aj cc (by decide)
 have c2:= @cC (rg (aq.rl m) ae) w
 exact (lL (d:= .aL [(gu (m.at (u64 (m.pc+u64 (ck 0 w ab ae aa af aj cc)))) ⟨0,w,ab,ae,aa,af,aj,cc⟩ ld).1.d,av 0]) [aw c0,tF,aw c1,tT,tF,aO,.cX _ true (cu s0 s1),.get _ _ _ (@bj m ae ((fT m (de m 0 w ab ae aa af aj cc) (xT 0 w ab ae aa af aj cc ld))) s0 s1),aO,aw c2,.cX _ true (cu d0 d1),.ej _ _ _ _ (@bO m ab (aI (rg (aq.rl m) ae) w) ((fT m (de m 0 w ab ae aa af aj cc) (xT 0 w ab ae aa af aj cc ld))) d0 d1),tF] (by kernel_rfl))
theorem Ia:oe 1:=by
 intro m w ab ae aa af aj cc ld d0 d1 s0 s1 b0 b1 hm
 have c0:= @a9 1 w ab ae aa af aj cc (by decide)
 rw [show (bC 1 w ab ae aa af aj cc)=true from hm] at c0
 have c1:= @cP 1 w ab ae aa af aj cc (by decide)
 have c2:= @cC (abz.wrap abz.u64 aj) w
 exact (lL (d:= .aL [(gu (m.at (u64 (m.pc+u64 (ck 1 w ab ae aa af aj cc)))) ⟨1,w,ab,ae,aa,af,aj,cc⟩ ld).1.d,av 0]) [aw c0,tF,aw c1,tT,tF,aO,aO,aw c2,.cX _ true (cu d0 d1),.ej _ _ _ _ (@bO m ab (aI (abz.wrap abz.u64 aj) w) ((fT m (de m 1 w ab ae aa af aj cc) (xT 1 w ab ae aa af aj cc ld))) d0 d1),tF] (by kernel_rfl))
theorem Dp:oe 26:=by
 intro m w ab ae aa af aj cc ld d0 d1 s0 s1 b0 b1 hm
 have c0:= @a9 26 w ab ae aa af aj cc (by decide)
 rw [show (bC 26 w ab ae aa af aj cc)=true from hm] at c0
 have c1:= @cP 26 w ab ae aa af aj cc (by decide)
 have c2:= @cC ld w
 exact (lL (d:= .aL [(gu (m.at (u64 (m.pc+u64 (ck 26 w ab ae aa af aj cc)))) ⟨26,w,ab,ae,aa,af,aj,cc⟩ ld).1.d,av 0]) [aw c0,tF,aw c1,tT,tF,aO,aO,aw c2,.cX _ true (cu d0 d1),.ej _ _ _ _ (@bO m ab (aI ld w) ((fT m (de m 26 w ab ae aa af aj cc) (xT 26 w ab ae aa af aj cc ld))) d0 d1),tF] (by kernel_rfl))
theorem Dn:oe 27:=by
 intro m w ab ae aa af aj cc ld d0 d1 s0 s1 b0 b1 hm
 have c0:= @a9 27 w ab ae aa af aj cc (by decide)
 rw [show (bC 27 w ab ae aa af aj cc)=true from hm] at c0
 have c1:= @cP 27 w ab ae aa af aj cc (by decide)
 exact (lL (d:= .aL [(gu (m.at (u64 (m.pc+u64 (ck 27 w ab ae aa af aj cc)))) ⟨27,w,ab,ae,aa,af,aj,cc⟩ ld).1.d,av 0]) [aw c0,tF,aw c1,tT,tF,aO,tF] (by kernel_rfl))
theorem Dm:oe 28:=by
 intro m w ab ae aa af aj cc ld d0 d1 s0 s1 b0 b1 hm
 have c0:= @a9 28 w ab ae aa af aj cc (by decide)
 rw [show (bC 28 w ab ae aa af aj cc)=true from hm] at c0
 have c1:= @cP 28 w ab ae aa af aj cc (by decide)
 exact (lL (d:= .aL [(gu (m.at (u64 (m.pc+u64 (ck 28 w ab ae aa af aj cc)))) ⟨28,w,ab,ae,aa,af,aj,cc⟩ ld).1.d,av 0]) [aw c0,tF,aw c1,tT,tF,aO,tF] (by kernel_rfl))
theorem Dk:oe 30:=by
 intro m w ab ae aa af aj cc ld d0 d1 s0 s1 b0 b1 hm
 have c0:= @a9 30 w ab ae aa af aj cc (by decide)
 rw [show (bC 30 w ab ae aa af aj cc)=true from hm] at c0
 have c1:= @cP 30 w ab ae aa af aj cc (by decide)
 exact (lL (d:= .aL [(gu (m.at (u64 (m.pc+u64 (ck 30 w ab ae aa af aj cc)))) ⟨30,w,ab,ae,aa,af,aj,cc⟩ ld).1.d,av 0]) [aw c0,tF,aw c1,tT,tF,aO,tF] (by kernel_rfl))
theorem Dj:oe 31:=by
 intro m w ab ae aa af aj cc ld d0 d1 s0 s1 b0 b1 hm
 have c0:= @a9 31 w ab ae aa af aj cc (by decide)
 rw [show (bC 31 w ab ae aa af aj cc)=true from hm] at c0
 have c1:= @cP 31 w ab ae aa af aj cc (by decide)
 exact (lL (d:= .aL [(gu (m.at (u64 (m.pc+u64 (ck 31 w ab ae aa af aj cc)))) ⟨31,w,ab,ae,aa,af,aj,cc⟩ ld).1.d,av 0]) [aw c0,tF,aw c1,tT,tF,aO,tF] (by kernel_rfl))
theorem vt:aP Z9 171 ([ao 2]) (ax true):=(aP.ai (d:= .bool true) mixed Tryz.func171 (by kernel_rfl) ([tT,tT,tT,tT,aO,aO,aO,aO,aO,aO,aO,aO,aO,aO,tT,tT]++ [tT,tT,tT])).to (by ((simp only [wk,bf,ey];repeat' (first|rfl|exact aaz|apply aaj));done))
theorem vr:aP Z9 171 ([ao 3]) (ax true):=(aP.ai (d:= .bool true) mixed Tryz.func171 (by kernel_rfl) ([tT,tT,tT,tT,aO,aO,aO,aO,aO,aO,aO,aO,aO,aO,tT,tT]++ [tT,tT,tT])).to (by ((simp only [wk,bf,ey];repeat' (first|rfl|exact aaz|apply aaj));done))
theorem vq:aP Z9 171 ([ao 4]) (ax true):=(aP.ai (d:= .bool true) mixed Tryz.func171 (by kernel_rfl) ([tT,tT,tT,tT,aO,aO,aO,aO,aO,aO,aO,aO,aO,aO,tT,tT]++ [tT,tT,tT])).to (by ((simp only [wk,bf,ey];repeat' (first|rfl|exact aaz|apply aaj));done))
theorem vp:aP Z9 171 ([ao 5]) (ax true):=(aP.ai (d:= .bool true) mixed Tryz.func171 (by kernel_rfl) ([tT,tT,tT,tT,aO,aO,aO,aO,aO,aO,aO,aO,aO,aO,tT,tT]++ [tT,tT,tT])).to (by ((simp only [wk,bf,ey];repeat' (first|rfl|exact aaz|apply aaj));done))
theorem vo:aP Z9 171 ([ao 6]) (ax true):=(aP.ai (d:= .bool true) mixed Tryz.func171 (by kernel_rfl) ([tT,tT,tT,tT,aO,aO,aO,aO,aO,aO,aO,aO,aO,aO,tT,tT]++ [tT,tT,tT])).to (by ((simp only [wk,bf,ey];repeat' (first|rfl|exact aaz|apply aaj));done))
theorem vn:aP Z9 171 ([ao 7]) (ax true):=(aP.ai (d:= .bool true) mixed Tryz.func171 (by kernel_rfl) ([tT,tT,tT,tT,aO,aO,aO,aO,aO,aO,aO,aO,aO,aO,tT,tT]++ [tT,tT,tT])).to (by ((simp only [wk,bf,ey];repeat' (first|rfl|exact aaz|apply aaj));done))
theorem td:aP Z9 171 ([ao 12]) (ax true):=(aP.ai (d:= .bool true) mixed Tryz.func171 (by kernel_rfl) ([tT,tT,tT,tT,aO,aO,aO,aO,aO,aO,aO,aO,aO,aO,tT,tT]++ [tT,tT,tT])).to (by ((simp only [wk,bf,ey];repeat' (first|rfl|exact aaz|apply aaj));done))
theorem tc:aP Z9 171 ([ao 13]) (ax true):=(aP.ai (d:= .bool true) mixed Tryz.func171 (by kernel_rfl) ([tT,tT,tT,tT,aO,aO,aO,aO,aO,aO,aO,aO,aO,aO,tT,tT]++ [tT,tT,tT])).to (by ((simp only [wk,bf,ey];repeat' (first|rfl|exact aaz|apply aaj));done))
theorem ta:aP Z9 171 ([ao 14]) (ax true):=(aP.ai (d:= .bool true) mixed Tryz.func171 (by kernel_rfl) ([tT,tT,tT,tT,aO,aO,aO,aO,aO,aO,aO,aO,aO,aO,tT,tT]++ [tT,tT,tT])).to (by ((simp only [wk,bf,ey];repeat' (first|rfl|exact aaz|apply aaj));done))
theorem s9:aP Z9 171 ([ao 15]) (ax true):=(aP.ai (d:= .bool true) mixed Tryz.func171 (by kernel_rfl) ([tT,tT,tT,tT,aO,aO,aO,aO,aO,aO,aO,aO,aO,aO,tT,tT]++ [tT,tT,tT])).to (by ((simp only [wk,bf,ey];repeat' (first|rfl|exact aaz|apply aaj));done))
def jr (Ua:Int):Prop:= ∀(c z s o:Bool),aP Z9 163 ([ao Ua,fD true c z s o]) (.aL [ax (ee Ua c z s o),av 0])
theorem Bb:jr 2:=by
  intro c z s o
  have c0:= @vt
  have c1:= @eI
  exact (aP.ai (d:= .aL [ax c,av 0]) mixed abi (by kernel_rfl) ([aw c0,tF,aw c1,.flat _ _ dY,tT,tT,tT,tF,tF,aO,aO,aO,aO,aO,aO,aO]++ [aO,aO,aO,.aU [],.aU [(0,ay [ax true,ax c,ax z,ax s,ax o])],tT,aO])).to (by (try cases c)<;>(try cases z)<;>(try cases s)<;>(try cases o)<;>first|(simp [wk,bf,ee];done)|rfl|exact ⟨rfl,rfl,trivial⟩)
theorem Ba:jr 3:=by
 intro c z s o
 have c0:= @vr
 have c1:= @eI
 exact (aP.ai (d:= .aL [ax !c,av 0]) mixed abi (by kernel_rfl) ([aw c0,tF,aw c1,.flat _ _ dY,tT,tT,tT,tF,tF,aO,aO,aO,aO,aO,aO,aO]++ [aO,aO,aO,.aU [],.aU [(0,ay [ax true,ax c,ax z,ax s,ax o])],tT,aO,aO])).to (by (try cases c)<;>(try cases z)<;>(try cases s)<;>(try cases o)<;>first|(simp [wk,bf,ee];done)|rfl|exact ⟨rfl,rfl,trivial⟩)
theorem A9:jr 4:=by
 intro c z s o
 have c0:= @vq
 have c1:= @eI
 exact (aP.ai (d:= .aL [ax z,av 0]) mixed abi (by kernel_rfl) ([aw c0,tF,aw c1,.flat _ _ dY,tT,tT,tT,tF,tF,aO,aO,aO,aO,aO,aO,aO]++ [aO,aO,aO,.aU [],.aU [(0,ay [ax true,ax c,ax z,ax s,ax o])],tT,aO])).to (by (try cases c)<;>(try cases z)<;>(try cases s)<;>(try cases o)<;>first|(simp [wk,bf,ee];done)|rfl|exact ⟨rfl,rfl,trivial⟩)
theorem A8:jr 5:=by
 intro c z s o
 have c0:= @vp
 have c1:= @eI
 exact (aP.ai (d:= .aL [ax !z,av 0]) mixed abi (by kernel_rfl) ([aw c0,tF,aw c1,.flat _ _ dY,tT,tT,tT,tF,tF,aO,aO,aO,aO,aO,aO,aO]++ [aO,aO,aO,.aU [],.aU [(0,ay [ax true,ax c,ax z,ax s,ax o])],tT,aO,aO])).to (by (try cases c)<;>(try cases z)<;>(try cases s)<;>(try cases o)<;>first|(simp [wk,bf,ee];done)|rfl|exact ⟨rfl,rfl,trivial⟩)
theorem A7:jr 6:=by
 intro c z s o
 have c0:= @vo
 have c1:= @eI
 cases c
 ·exact (aP.ai (d:= .aL [ax z,av 0]) mixed abi (by kernel_rfl) ([aw c0,tF,aw c1,.flat _ _ dY,tT,tT,tT,tF,tF,aO,aO,aO,aO,aO,aO,aO]++ [aO,aO,aO,.aU [],.aU [(0,ay [ax true,ax false,ax z,ax s,ax o])],tT,aO,aO,tT,tT,tT,aO,tF])).to (by (try cases c)<;>(try cases z)<;>(try cases s)<;>(try cases o)<;>first|(simp [wk,bf,ee];done)|rfl|exact ⟨rfl,rfl,trivial⟩)
 ·exact (aP.ai (d:= .aL [ax true,av 0]) mixed abi (by kernel_rfl) ([aw c0,tF,aw c1,.flat _ _ dY,tT,tT,tT,tF,tF,aO,aO,aO,aO,aO,aO,aO]++ [aO,aO,aO,.aU [],.aU [(0,ay [ax true,ax true,ax z,ax s,ax o])],tT,aO,aO,tF,tF,tF,tT])).to (by (try cases c)<;>(try cases z)<;>(try cases s)<;>(try cases o)<;>first|(simp [wk,bf,ee];done)|rfl|exact ⟨rfl,rfl,trivial⟩)
theorem A6:jr 7:=by
 intro c z s o
 have c0:= @vn
 have c1:= @eI
 cases c
 ·exact (aP.ai (d:= .aL [ax !z,av 0]) mixed abi (by kernel_rfl) ([aw c0,tF,aw c1,.flat _ _ dY,tT,tT,tT,tF,tF,aO,aO,aO,aO,aO,aO,aO]++ [aO,aO,aO,.aU [],.aU [(0,ay [ax true,ax false,ax z,ax s,ax o])],tT,aO,aO,aO,tT,tT,tT,aO,tF])).to (by (try cases c)<;>(try cases z)<;>(try cases s)<;>(try cases o)<;>first|(simp [wk,bf,ee];done)|rfl|exact ⟨rfl,rfl,trivial⟩)
 ·exact (aP.ai (d:= .aL [ax false,av 0]) mixed abi (by kernel_rfl) ([aw c0,tF,aw c1,.flat _ _ dY,tT,tT,tT,tF,tF,aO,aO,aO,aO,aO,aO,aO]++ [aO,aO,aO,.aU [],.aU [(0,ay [ax true,ax true,ax z,ax s,ax o])],tT,aO,aO,aO,tF,tF,tF,tT])).to (by (try cases c)<;>(try cases z)<;>(try cases s)<;>(try cases o)<;>first|(simp [wk,bf,ee];done)|rfl|exact ⟨rfl,rfl,trivial⟩)
theorem yk:jr 12:=by
 intro c z s o
 have c0:= @td
 have c1:= @eI
 exact (aP.ai (d:= .aL [ax !s==o,av 0]) mixed abi (by kernel_rfl) ([aw c0,tF,aw c1,.flat _ _ dY,tT,tT,tT,tF,tF,aO,aO,aO,aO,aO,aO,aO]++ [aO,aO,aO,.aU [],.aU [(0,ay [ax true,ax c,ax z,ax s,ax o])],tT,aO])).to (by (try cases c)<;>(try cases z)<;>(try cases s)<;>(try cases o)<;>first|(simp [wk,bf,ee];done)|rfl|exact ⟨rfl,rfl,trivial⟩)
theorem yj:jr 13:=by
 intro c z s o
 have c0:= @tc
 have c1:= @eI
 exact (aP.ai (d:= .aL [ax !!s==o,av 0]) mixed abi (by kernel_rfl) ([aw c0,tF,aw c1,.flat _ _ dY,tT,tT,tT,tF,tF,aO,aO,aO,aO,aO,aO,aO]++ [aO,aO,aO,.aU [],.aU [(0,ay [ax true,ax c,ax z,ax s,ax o])],tT,aO,aO])).to (by (try cases c)<;>(try cases z)<;>(try cases s)<;>(try cases o)<;>first|(simp [wk,bf,ee];done)|rfl|exact ⟨rfl,rfl,trivial⟩)
theorem yi:jr 14:=by
 intro c z s o
 have c0:= @ta
 have c1:= @eI
 cases z
 ·exact (aP.ai (d:= .aL [ax !s==o,av 0]) mixed abi (by kernel_rfl) ([aw c0,tF,aw c1,.flat _ _ dY,tT,tT,tT,tF,tF,aO,aO,aO,aO,aO,aO,aO]++ [aO,aO,aO,.aU [],.aU [(0,ay [ax true,ax c,ax false,ax s,ax o])],tT,aO,aO,tT,tT,tT,aO,tF])).to (by (try cases c)<;>(try cases z)<;>(try cases s)<;>(try cases o)<;>first|(simp [wk,bf,ee];done)|rfl|exact ⟨rfl,rfl,trivial⟩)
 ·exact (aP.ai (d:= .aL [ax true,av 0]) mixed abi (by kernel_rfl) ([aw c0,tF,aw c1,.flat _ _ dY,tT,tT,tT,tF,tF,aO,aO,aO,aO,aO,aO,aO]++ [aO,aO,aO,.aU [],.aU [(0,ay [ax true,ax c,ax true,ax s,ax o])],tT,aO,aO,tF,tF,tF,tT])).to (by (try cases c)<;>(try cases z)<;>(try cases s)<;>(try cases o)<;>first|(simp [wk,bf,ee];done)|rfl|exact ⟨rfl,rfl,trivial⟩)
theorem yh:jr 15:=by
 intro c z s o
 have c0:= @s9
 have c1:= @eI
 cases z
 ·exact (aP.ai (d:= .aL [ax !!s==o,av 0]) mixed abi (by kernel_rfl) ([aw c0,tF,aw c1,.flat _ _ dY,tT,tT,tT,tF,tF,aO,aO,aO,aO,aO,aO,aO]++ [aO,aO,aO,.aU [],.aU [(0,ay [ax true,ax c,ax false,ax s,ax o])],tT,aO,aO,aO,tT,tT,tT,aO,tF])).to (by (try cases c)<;>(try cases z)<;>(try cases s)<;>(try cases o)<;>first|(simp [wk,bf,ee];done)|rfl|exact ⟨rfl,rfl,trivial⟩)
 ·exact (aP.ai (d:= .aL [ax false,av 0]) mixed abi (by kernel_rfl) ([aw c0,tF,aw c1,.flat _ _ dY,tT,tT,tT,tF,tF,aO,aO,aO,aO,aO,aO,aO]++ [aO,aO,aO,.aU [],.aU [(0,ay [ax true,ax c,ax true,ax s,ax o])],tT,aO,aO,aO,tF,tF,tF,tT])).to (by (try cases c)<;>(try cases z)<;>(try cases s)<;>(try cases o)<;>first|(simp [wk,bf,ee];done)|rfl|exact ⟨rfl,rfl,trivial⟩)
theorem Bp {cc:Int} (h:kO cc=true):cc=2∨cc=3∨cc=4∨cc=5∨cc=6∨cc=7∨cc=12∨cc=13∨cc=14∨cc=15:=by
 simp only [kO,bS] at h;omega
theorem qC (cc:Int) (c z s o:Bool) (h:kO cc=true):aP Z9 163 [ao cc,fD true c z s o] (.aL [ax (ee cc c z s o),av 0]):=by
 rcases Bp h with rfl|rfl|rfl|rfl|rfl|rfl|rfl|rfl|rfl|rfl
 ·exact Bb c z s o
 ·exact Ba c z s o
 ·exact A9 c z s o
 ·exact A8 c z s o
 ·exact A7 c z s o
 ·exact A6 c z s o
 ·exact yk c z s o
 ·exact yj c z s o
 ·exact yi c z s o
 ·exact yh c z s o
theorem qD (cc:Int) (c z s o:Bool) (h:kO cc=true):aP Z9 163 [ao cc,fD false c z s o] (.aL [ax false,av 20]):=by
 have c0:aP Z9 171 [ao cc] (ax true):=by
  rcases Bp h with rfl|rfl|rfl|rfl|rfl|rfl|rfl|rfl|rfl|rfl
  ·exact vt
  ·exact vr
  ·exact vq
  ·exact vp
  ·exact vo
  ·exact vn
  ·exact td
  ·exact tc
  ·exact ta
  ·exact s9
 have c1:= @eI
 by_cases hz:c=false∧z=false∧s=false∧o=false
 ·obtain ⟨rfl,rfl,rfl,rfl⟩:=hz
  exact aP.ai mixed abi (by kernel_rfl) [aw c0,tF,aw c1,.flat _ _ dY,tF,tF,tF,tT,tT] (by kernel_rfl)
 ·cases c<;>cases z<;>cases s<;>cases o<;>first
   |exact absurd ⟨rfl,rfl,rfl,rfl⟩ hz
   |exact aP.ai mixed abi (by kernel_rfl) [aw c0,tF,aw c1,.flat _ _ dY,tT,tT,tT,tF,tT] (by kernel_rfl)
abbrev sC (d v q0 q1 q2 q3 q4 q5 q6 q7 q8 q9 cZ dj dq dp dn di:Int):List D:= [au (st 0 d v q0),au (st 1 d v q1),au (st 2 d v q2),au (st 3 d v q3),au (st 4 d v q4),au (st 5 d v q5),au (st 6 d v q6),au (st 7 d v q7),au (st 8 d v q8),au (st 9 d v q9),au (st 10 d v cZ),au (st 11 d v dj),au (st 12 d v dq),au (st 13 d v dp),au (st 14 d v dn),au (st 15 d v di)]
theorem Dr (q0 q1 q2 q3 q4 q5 q6 q7 q8 q9 cZ dj dq dp dn di Uf:Int) (fk fc fz fs fo:Bool) (w ab ae aa af aj cc ld:Int) (d0:0≤ab) (d1:ab≤15) (s0:0≤ae) (s1:ae≤15) (b0:0≤aa) (b1:aa≤15) (hm:bC 24 w ab ae aa af aj cc=true) (hd:(aI (rg [q0,q1,q2,q3,q4,q5,q6,q7,q8,q9,cZ,dj,dq,dp,dn,di] ab) w==0)=false) (hz:(aI q2 w==0)=true):aP Z9 83 ([.agg [au q0,au q1,au q2,au q3,au q4,au q5,au q6,au q7,au q8,au q9,au cZ,au dj,au dq,au dp,au dn,au di,ax fk,ax fc,ax fz,ax fs,ax fo,au (Uf)],xD 24 w ab ae aa af aj cc,au ld]) (.aL [.agg [au (u64 ((aI q0 w).tdiv (aI (rg [q0,q1,q2,q3,q4,q5,q6,q7,q8,q9,cZ,dj,dq,dp,dn,di] ab) w))),au q1,au ((aI q0 w).tmod (aI (rg [q0,q1,q2,q3,q4,q5,q6,q7,q8,q9,cZ,dj,dq,dp,dn,di] ab) w)),au q3,au q4,au q5,au q6,au q7,au q8,au q9,au cZ,au dj,au dq,au dp,au dn,au di,ax false,ax false,ax false,ax false,ax false,au (u64 (Uf+u64 (ck 24 w ab ae aa af aj cc)))],av 0]):=by
 have c0:= @a9 24 w ab ae aa af aj cc (by decide)
 rw [show (bC 24 w ab ae aa af aj cc)=true from hm] at c0
 have c1:= @cP 24 w ab ae aa af aj cc (by decide)
 have c2:= @cC q0 w
 have c3:= @cC (rg [q0,q1,q2,q3,q4,q5,q6,q7,q8,q9,cZ,dj,dq,dp,dn,di] ab) w
 have c4:= @cC q2 w
 have c5:= @eI
 exact (lL (d:= .aL [.agg [au (abz.u64.wrap (Int.tdiv (aI q0 w) (aI (rg [q0,q1,q2,q3,q4,q5,q6,q7,q8,q9,cZ,dj,dq,dp,dn,di] ab) w))),au q1,au (Int.tmod (aI q0 w) (aI (rg [q0,q1,q2,q3,q4,q5,q6,q7,q8,q9,cZ,dj,dq,dp,dn,di] ab) w)),au q3,au q4,au q5,au q6,au q7,au q8,au q9,au cZ,au dj,au dq,au dp,au dn,au di,ax false,ax false,ax false,ax false,ax false,au (abz.u64.wrap (Uf+abz.u64.wrap (ck 24 w ab ae aa af aj cc)))],av 0]) ([aw c0,tF,aw c1,tT,tF,aO,aw c2,.cX (decide (0≤ab∧ab<(↑(16:Nat):Int))) true (by (simp only [cH] at*;omega)),.get _ _ _ (@iX q0 q1 q2 q3 q4 q5 q6 q7 q8 q9 cZ dj dq dp dn di ab ([ax fk,ax fc,ax fz,ax fs,ax fo,au (abz.u64.wrap (Uf+abz.u64.wrap (ck 24 w ab ae aa af aj cc))),ao 24,ao w,ao ab,ao ae,ao aa,av af,av aj,ao cc,au ld]) d0 d1),aw c3]++Z7 8 (tC (eF hd))++ [aw c4,tC (eF hd),tC hd,tC (nt (cK 0 true (eq_of_beq hz))),tC (v:=true) (Rv hd),tC (v:=true) (Rv hd),aw c5,tF])).to (by first|((simp only [wk,bf,ey];repeat' (first|rfl|exact aaz|apply aaj));done)|(simp [wk,bf,u64,];done))
theorem Bf (q0 q1 q2 q3 q4 q5 q6 q7 q8 q9 cZ dj dq dp dn di Uf:Int) (fk fc fz fs fo:Bool) (w ab ae aa af aj cc ld:Int) (d0:0≤ab) (d1:ab≤15) (s0:0≤ae) (s1:ae≤15) (b0:0≤aa) (b1:aa≤15) (hm:bC 24 w ab ae aa af aj cc=true) (hd:(aI (rg [q0,q1,q2,q3,q4,q5,q6,q7,q8,q9,cZ,dj,dq,dp,dn,di] ab) w==0)=true):aP Z9 83 ([.agg [au q0,au q1,au q2,au q3,au q4,au q5,au q6,au q7,au q8,au q9,au cZ,au dj,au dq,au dp,au dn,au di,ax fk,ax fc,ax fz,ax fs,ax fo,au (Uf)],xD 24 w ab ae aa af aj cc,au ld]) (.aL [.agg [au (0),au (0),au (0),au (0),au (0),au (0),au (0),au (0),au (0),au (0),au (0),au (0),au (0),au (0),au (0),au (0),ax false,ax false,ax false,ax false,ax false,au (0)],av 20]):=by
 have c0:= @a9 24 w ab ae aa af aj cc (by decide)
 rw [show (bC 24 w ab ae aa af aj cc)=true from hm] at c0
 have c1:= @cP 24 w ab ae aa af aj cc (by decide)
 have c2:= @cC q0 w
 have c3:= @cC (rg [q0,q1,q2,q3,q4,q5,q6,q7,q8,q9,cZ,dj,dq,dp,dn,di] ab) w
 exact (lL (d:= .aL [.agg [au 0,au 0,au 0,au 0,au 0,au 0,au 0,au 0,au 0,au 0,au 0,au 0,au 0,au 0,au 0,au 0,ax false,ax false,ax false,ax false,ax false,au 0],av 20]) ([aw c0,tF,aw c1,tT,tF,aO,aw c2,.cX (decide (0≤ab∧ab<(↑(16:Nat):Int))) true (by (simp only [cH] at*;omega)),.get _ _ _ (@iX q0 q1 q2 q3 q4 q5 q6 q7 q8 q9 cZ dj dq dp dn di ab ([ax fk,ax fc,ax fz,ax fs,ax fo,au (abz.u64.wrap (Uf+abz.u64.wrap (ck 24 w ab ae aa af aj cc))),ao 24,ao w,ao ab,ao ae,ao aa,av af,av aj,ao cc,au ld]) d0 d1),aw c3]++Z7 9 (tC (eF (cK 0 true (eq_of_beq hd))))++ [tC (cK 0 true (eq_of_beq hd)),tT,tT])).to (by first|((simp only [wk,bf,ey];repeat' (first|rfl|exact aaz|apply aaj));done)|(simp [wk,bf,u64,];done))
theorem Be (q0 q1 q2 q3 q4 q5 q6 q7 q8 q9 cZ dj dq dp dn di Uf:Int) (fk fc fz fs fo:Bool) (w ab ae aa af aj cc ld:Int) (d0:0≤ab) (d1:ab≤15) (s0:0≤ae) (s1:ae≤15) (b0:0≤aa) (b1:aa≤15) (hm:bC 24 w ab ae aa af aj cc=true) (hd:(aI (rg [q0,q1,q2,q3,q4,q5,q6,q7,q8,q9,cZ,dj,dq,dp,dn,di] ab) w==0)=false) (hz:(aI q2 w==0)=false):aP Z9 83 ([.agg [au q0,au q1,au q2,au q3,au q4,au q5,au q6,au q7,au q8,au q9,au cZ,au dj,au dq,au dp,au dn,au di,ax fk,ax fc,ax fz,ax fs,ax fo,au (Uf)],xD 24 w ab ae aa af aj cc,au ld]) (.aL [.agg [au (0),au (0),au (0),au (0),au (0),au (0),au (0),au (0),au (0),au (0),au (0),au (0),au (0),au (0),au (0),au (0),ax false,ax false,ax false,ax false,ax false,au (0)],av 20]):=by
 have c0:= @a9 24 w ab ae aa af aj cc (by decide)
 rw [show (bC 24 w ab ae aa af aj cc)=true from hm] at c0
 have c1:= @cP 24 w ab ae aa af aj cc (by decide)
 have c2:= @cC q0 w
 have c3:= @cC (rg [q0,q1,q2,q3,q4,q5,q6,q7,q8,q9,cZ,dj,dq,dp,dn,di] ab) w
 have c4:= @cC q2 w
 exact (lL (d:= .aL [.agg [au 0,au 0,au 0,au 0,au 0,au 0,au 0,au 0,au 0,au 0,au 0,au 0,au 0,au 0,au 0,au 0,ax false,ax false,ax false,ax false,ax false,au 0],av 20]) ([aw c0,tF,aw c1,tT,tF,aO,aw c2,.cX (decide (0≤ab∧ab<(↑(16:Nat):Int))) true (by (simp only [cH] at*;omega)),.get _ _ _ (@iX q0 q1 q2 q3 q4 q5 q6 q7 q8 q9 cZ dj dq dp dn di ab ([ax fk,ax fc,ax fz,ax fs,ax fo,au (abz.u64.wrap (Uf+abz.u64.wrap (ck 24 w ab ae aa af aj cc))),ao 24,ao w,ao ab,ao ae,ao aa,av af,av aj,ao cc,au ld]) d0 d1),aw c3]++Z7 8 (tC (eF hd))++ [aw c4,tC (eF hd),tC hd,tC (nt hz),tT])).to (by first|((simp only [wk,bf,ey];repeat' (first|rfl|exact aaz|apply aaj));done)|(simp [wk,bf,u64,];done))
theorem Dq (q0 q1 q2 q3 q4 q5 q6 q7 q8 q9 cZ dj dq dp dn di Uf:Int) (fc fz fs fo:Bool) (w ab ae aa af aj cc ld:Int) (d0:0≤ab) (d1:ab≤15) (s0:0≤ae) (s1:ae≤15) (b0:0≤aa) (b1:aa≤15) (hm:bC 25 w ab ae aa af aj cc=true) (Uu:kO cc=true):aP Z9 83 ([.agg [au q0,au q1,au q2,au q3,au q4,au q5,au q6,au q7,au q8,au q9,au cZ,au dj,au dq,au dp,au dn,au di,ax true,ax fc,ax fz,ax fs,ax fo,au (Uf)],xD 25 w ab ae aa af aj cc,au ld]) (.aL [.agg (sC ab (aI (if ee cc fc fz fs fo then rg [q0,q1,q2,q3,q4,q5,q6,q7,q8,q9,cZ,dj,dq,dp,dn,di] ae else rg [q0,q1,q2,q3,q4,q5,q6,q7,q8,q9,cZ,dj,dq,dp,dn,di] ab) w) q0 q1 q2 q3 q4 q5 q6 q7 q8 q9 cZ dj dq dp dn di++ [ax true,ax fc,ax fz,ax fs,ax fo,au (u64 (Uf+u64 (ck 25 w ab ae aa af aj cc)))]),av 0]):=by
 have c0:= @a9 25 w ab ae aa af aj cc (by decide)
 rw [show (bC 25 w ab ae aa af aj cc)=true from hm] at c0
 have c1:= @cP 25 w ab ae aa af aj cc (by decide)
 have c2:= @qC cc fc fz fs fo Uu
 let E1:EL:= [aw c0,tF,aw c1,tT,tF,aO,aO,aw c2,tF]
 rcases cf (ee cc fc fz fs fo) with h3|h3
 ·have c4:= @cC (rg [q0,q1,q2,q3,q4,q5,q6,q7,q8,q9,cZ,dj,dq,dp,dn,di] ae) w
  exact (lL (d:= .aL [.agg (sC ab (aI (rg [q0,q1,q2,q3,q4,q5,q6,q7,q8,q9,cZ,dj,dq,dp,dn,di] ae) w) q0 q1 q2 q3 q4 q5 q6 q7 q8 q9 cZ dj dq dp dn di++ [ax true,ax fc,ax fz,ax fs,ax fo,au (abz.u64.wrap (Uf+abz.u64.wrap (ck 25 w ab ae aa af aj cc)))]),av 0]) (E1++ [tC h3,aO,.cX (decide (0≤ae∧ae<(↑(16:Nat):Int))) true (by (simp only [cH] at*;omega)),.get _ _ _ (@iX q0 q1 q2 q3 q4 q5 q6 q7 q8 q9 cZ dj dq dp dn di ae ([ax true,ax fc,ax fz,ax fs,ax fo,au (abz.u64.wrap (Uf+abz.u64.wrap (ck 25 w ab ae aa af aj cc))),ao 25,ao w,ao ab,ao ae,ao aa,av af,av aj,ao cc,au ld]) s0 s1),aO,aw c4,.cX (decide (0≤ab∧ab<(↑(16:Nat):Int))) true (by (simp only [cH] at*;omega)),.ej _ _ _ _ (@oU q0 q1 q2 q3 q4 q5 q6 q7 q8 q9 cZ dj dq dp dn di ab (aI (rg [q0,q1,q2,q3,q4,q5,q6,q7,q8,q9,cZ,dj,dq,dp,dn,di] ae) w) ([ax true,ax fc,ax fz,ax fs,ax fo,au (abz.u64.wrap (Uf+abz.u64.wrap (ck 25 w ab ae aa af aj cc))),ao 25,ao w,ao ab,ao ae,ao aa,av af,av aj,ao cc,au ld]) d0 d1),tF])).to (by clear E1;first|((simp only [wk,bf,ey];repeat' (first|rfl|exact aaz|apply aaj));done)|(simp [wk,bf,u64,h3];done))
 have c5:= @cC (rg [q0,q1,q2,q3,q4,q5,q6,q7,q8,q9,cZ,dj,dq,dp,dn,di] ab) w
 exact (lL (d:= .aL [.agg (sC ab (aI (rg [q0,q1,q2,q3,q4,q5,q6,q7,q8,q9,cZ,dj,dq,dp,dn,di] ab) w) q0 q1 q2 q3 q4 q5 q6 q7 q8 q9 cZ dj dq dp dn di++ [ax true,ax fc,ax fz,ax fs,ax fo,au (abz.u64.wrap (Uf+abz.u64.wrap (ck 25 w ab ae aa af aj cc)))]),av 0]) (E1++ [tC h3,.cX (decide (0≤ab∧ab<(↑(16:Nat):Int))) true (by (simp only [cH] at*;omega)),.get _ _ _ (@iX q0 q1 q2 q3 q4 q5 q6 q7 q8 q9 cZ dj dq dp dn di ab ([ax true,ax fc,ax fz,ax fs,ax fo,au (abz.u64.wrap (Uf+abz.u64.wrap (ck 25 w ab ae aa af aj cc))),ao 25,ao w,ao ab,ao ae,ao aa,av af,av aj,ao cc,au ld]) d0 d1),aO,aw c5,.cX (decide (0≤ab∧ab<(↑(16:Nat):Int))) true (by (simp only [cH] at*;omega)),.ej _ _ _ _ (@oU q0 q1 q2 q3 q4 q5 q6 q7 q8 q9 cZ dj dq dp dn di ab (aI (rg [q0,q1,q2,q3,q4,q5,q6,q7,q8,q9,cZ,dj,dq,dp,dn,di] ab) w) ([ax true,ax fc,ax fz,ax fs,ax fo,au (abz.u64.wrap (Uf+abz.u64.wrap (ck 25 w ab ae aa af aj cc))),ao 25,ao w,ao ab,ao ae,ao aa,av af,av aj,ao cc,au ld]) d0 d1),tF])).to (by clear E1;first|((simp only [wk,bf,ey];repeat' (first|rfl|exact aaz|apply aaj));done)|(simp [wk,bf,u64,h3];done))
theorem Bd (q0 q1 q2 q3 q4 q5 q6 q7 q8 q9 cZ dj dq dp dn di Uf:Int) (fc fz fs fo:Bool) (w ab ae aa af aj cc ld:Int) (d0:0≤ab) (d1:ab≤15) (s0:0≤ae) (s1:ae≤15) (b0:0≤aa) (b1:aa≤15) (hm:bC 25 w ab ae aa af aj cc=true) (Uu:kO cc=true):aP Z9 83 ([.agg [au q0,au q1,au q2,au q3,au q4,au q5,au q6,au q7,au q8,au q9,au cZ,au dj,au dq,au dp,au dn,au di,ax false,ax fc,ax fz,ax fs,ax fo,au (Uf)],xD 25 w ab ae aa af aj cc,au ld]) (.aL [.agg [au (0),au (0),au (0),au (0),au (0),au (0),au (0),au (0),au (0),au (0),au (0),au (0),au (0),au (0),au (0),au (0),ax false,ax false,ax false,ax false,ax false,au (0)],av 20]):=by
 have c0:= @a9 25 w ab ae aa af aj cc (by decide)
 rw [show (bC 25 w ab ae aa af aj cc)=true from hm] at c0
 have c1:= @cP 25 w ab ae aa af aj cc (by decide)
 have c2:= @qD cc fc fz fs fo Uu
 exact (lL (d:= .aL [.agg [au 0,au 0,au 0,au 0,au 0,au 0,au 0,au 0,au 0,au 0,au 0,au 0,au 0,au 0,au 0,au 0,ax false,ax false,ax false,ax false,ax false,au 0],av 20]) [aw c0,tF,aw c1,tT,tF,aO,aO,aw c2,tT,tT]).to (by first|((simp only [wk,bf,ey];repeat' (first|rfl|exact aaz|apply aaj));done)|(simp [wk,bf,u64,];done))
theorem Dl (q0 q1 q2 q3 q4 q5 q6 q7 q8 q9 cZ dj dq dp dn di Uf:Int) (fc fz fs fo:Bool) (w ab ae aa af aj cc ld:Int) (d0:0≤ab) (d1:ab≤15) (s0:0≤ae) (s1:ae≤15) (b0:0≤aa) (b1:aa≤15) (hm:bC 29 w ab ae aa af aj cc=true) (Uu:kO cc=true):aP Z9 83 ([.agg [au q0,au q1,au q2,au q3,au q4,au q5,au q6,au q7,au q8,au q9,au cZ,au dj,au dq,au dp,au dn,au di,ax true,ax fc,ax fz,ax fs,ax fo,au (Uf)],xD 29 w ab ae aa af aj cc,au ld]) (.aL [.agg [au q0,au q1,au q2,au q3,au q4,au q5,au q6,au q7,au q8,au q9,au cZ,au dj,au dq,au dp,au dn,au di,ax true,ax fc,ax fz,ax fs,ax fo,au (if ee cc fc fz fs fo then u64 (u64 (Uf+u64 (ck 29 w ab ae aa af aj cc))+u64 aj) else u64 (Uf+u64 (ck 29 w ab ae aa af aj cc)))],av 0]):=by
 have c0:= @a9 29 w ab ae aa af aj cc (by decide)
 rw [show (bC 29 w ab ae aa af aj cc)=true from hm] at c0
 have c1:= @cP 29 w ab ae aa af aj cc (by decide)
 have c2:= @qC cc fc fz fs fo Uu
 let E1:EL:= [aw c0,tF,aw c1,tT,tF,aO,aO,aw c2,tF]
 rcases cf (ee cc fc fz fs fo) with h3|h3
 ·exact (lL (d:= .aL [.agg [au q0,au q1,au q2,au q3,au q4,au q5,au q6,au q7,au q8,au q9,au cZ,au dj,au dq,au dp,au dn,au di,ax true,ax fc,ax fz,ax fs,ax fo,au (abz.u64.wrap (abz.u64.wrap (Uf+abz.u64.wrap (ck 29 w ab ae aa af aj cc))+abz.u64.wrap aj))],av 0]) (E1++ [tC h3,aO,tF])).to (by clear E1;first|((simp only [wk,bf,ey];repeat' (first|rfl|exact aaz|apply aaj));done)|(simp [wk,bf,u64,h3];done))
 exact (lL (d:= .aL [.agg [au q0,au q1,au q2,au q3,au q4,au q5,au q6,au q7,au q8,au q9,au cZ,au dj,au dq,au dp,au dn,au di,ax true,ax fc,ax fz,ax fs,ax fo,au (abz.u64.wrap (Uf+abz.u64.wrap (ck 29 w ab ae aa af aj cc)))],av 0]) (E1++ [tC h3,tF])).to (by clear E1;first|((simp only [wk,bf,ey];repeat' (first|rfl|exact aaz|apply aaj));done)|(simp [wk,bf,u64,h3];done))
theorem Bc (q0 q1 q2 q3 q4 q5 q6 q7 q8 q9 cZ dj dq dp dn di Uf:Int) (fc fz fs fo:Bool) (w ab ae aa af aj cc ld:Int) (d0:0≤ab) (d1:ab≤15) (s0:0≤ae) (s1:ae≤15) (b0:0≤aa) (b1:aa≤15) (hm:bC 29 w ab ae aa af aj cc=true) (Uu:kO cc=true):aP Z9 83 ([.agg [au q0,au q1,au q2,au q3,au q4,au q5,au q6,au q7,au q8,au q9,au cZ,au dj,au dq,au dp,au dn,au di,ax false,ax fc,ax fz,ax fs,ax fo,au (Uf)],xD 29 w ab ae aa af aj cc,au ld]) (.aL [.agg [au (0),au (0),au (0),au (0),au (0),au (0),au (0),au (0),au (0),au (0),au (0),au (0),au (0),au (0),au (0),au (0),ax false,ax false,ax false,ax false,ax false,au (0)],av 20]):=by
 have c0:= @a9 29 w ab ae aa af aj cc (by decide)
 rw [show (bC 29 w ab ae aa af aj cc)=true from hm] at c0
 have c1:= @cP 29 w ab ae aa af aj cc (by decide)
 have c2:= @qD cc fc fz fs fo Uu
 exact (lL (d:= .aL [.agg [au 0,au 0,au 0,au 0,au 0,au 0,au 0,au 0,au 0,au 0,au 0,au 0,au 0,au 0,au 0,au 0,ax false,ax false,ax false,ax false,ax false,au 0],av 20]) [aw c0,tF,aw c1,tT,tF,aO,aO,aw c2,tT,tT]).to (by first|((simp only [wk,bf,ey];repeat' (first|rfl|exact aaz|apply aaj));done)|(simp [wk,bf,u64,];done))
theorem Di (q0 q1 q2 q3 q4 q5 q6 q7 q8 q9 cZ dj dq dp dn di Uf:Int) (fk fc fz fs fo:Bool) (op w ab ae aa af aj cc ld:Int)(ho:op≤127) (hm:bC op w ab ae aa af aj cc=false):aP Z9 83 ([.agg [au q0,au q1,au q2,au q3,au q4,au q5,au q6,au q7,au q8,au q9,au cZ,au dj,au dq,au dp,au dn,au di,ax fk,ax fc,ax fz,ax fs,ax fo,au (Uf)],xD op w ab ae aa af aj cc,au ld]) (.aL [.agg [au (0),au (0),au (0),au (0),au (0),au (0),au (0),au (0),au (0),au (0),au (0),au (0),au (0),au (0),au (0),au (0),ax false,ax false,ax false,ax false,ax false,au (0)],av 2]):=by
 have c0:= @a9 op w ab ae aa af aj cc ho
 rw [show (bC op w ab ae aa af aj cc)=false from hm] at c0
 exact (lL (d:= .aL [.agg [au 0,au 0,au 0,au 0,au 0,au 0,au 0,au 0,au 0,au 0,au 0,au 0,au 0,au 0,au 0,au 0,ax false,ax false,ax false,ax false,ax false,au 0],av 2]) [aw c0,tT]).to (by first|((simp only [wk,bf,ey];repeat' (first|rfl|exact aaz|apply aaj));done)|(simp [wk,bf,u64,];done))
def Sw:List D:= [D.fn (aa7 117) [.ptr false 4 0] [],D.fn (aa7 118) [.ptr false 4 0] [],D.b6,D.b6,D.b6,D.b6,D.b6,D.b6,D.b6,D.b6,D.b6,D.b6,D.b6,D.b6,D.b6,D.b6,D.b6,D.b6,D.b6,D.b6,D.b6,D.b6,D.b6,D.b6,D.fn (aa7 119) [.ptr false 4 0] [],D.fn (aa7 120) [.ptr false 4 0] [],D.fn (aa7 121) [.ptr false 4 0] [],D.fn (aa7 122) [.ptr false 4 0] [],D.fn (aa7 123) [.ptr false 4 0] [],D.fn (aa7 124) [.ptr false 4 0] [],D.fn (aa7 125) [.ptr false 4 0] [],D.fn (aa7 126) [.ptr false 4 0] []]
def rT:List (Int×D):= [((2:Int),ao 0),((9:Int),ao 0),((3:Int),ao 4),((10:Int),ao 4),((4:Int),ao 5),((11:Int),ao 5),((8:Int),ao 5),((15:Int),ao 5),((5:Int),ao 1),((12:Int),ao 1),((7:Int),ao 1),((14:Int),ao 1),((6:Int),ao 10),((13:Int),ao 10),((16:Int),ao 2),((17:Int),ao 6),((20:Int),ao 6),((18:Int),ao 7),((21:Int),ao 7),((19:Int),ao 12),((22:Int),ao 12),((23:Int),ao 8)]
def od (Ua:Int):Prop:= ∀(m:aq) (w ab ae aa af aj cc ld:Int) (d0:0≤ab) (d1:ab≤15) (s0:0≤ae) (s1:ae≤15) (b0:0≤aa) (b1:aa≤15) (hm:bC Ua w ab ae aa af aj cc=true) (hw:bG w=true),aP Z9 83 ([m.d,xD Ua w ab ae aa af aj cc,au ld]) (.aL [(gu (m.at (u64 (m.pc+u64 (ck Ua w ab ae aa af aj cc)))) ⟨Ua,w,ab,ae,aa,af,aj,cc⟩ ld).1.d,av 0])
theorem H2:od 9:=by
 intro m w ab ae aa af aj cc ld d0 d1 s0 s1 b0 b1 hm hw
 have c0:= @a9 9 w ab ae aa af aj cc (by decide)
 rw [hm] at c0
 have c1:= @cP 9 w ab ae aa af aj cc (by decide)
 have c2:= @Bz w (rg (aq.rl m) ab) (abz.wrap abz.u64 aj) hw
 have c3:= @FH w (rg (aq.rl m) ab) (abz.wrap abz.u64 aj) hw
 have c4:= @bT 9 w ab ae aa af aj cc (by decide)
 exact (lL (d:= .aL [(gu (m.at (u64 (m.pc+u64 (ck 9 w ab ae aa af aj cc)))) ⟨9,w,ab,ae,aa,af,aj,cc⟩ ld).1.d,av 0]) ([aw c0,tF,aw c1,tT,tT,aO,aO,.aU [(4,ay (aq.cw m (de m 9 w ab ae aa af aj cc) (xT 9 w ab ae aa af aj cc ld)))],.jM rT 9 (some (ao 0)) rfl,.cX _ true (cu d0 d1),.get _ _ _ (@bj m ab ((fT m (de m 9 w ab ae aa af aj cc) (xT 9 w ab ae aa af aj cc ld))) d0 d1),aO]++Z7 8 tF++Z7 9 tT++ [.aU [(4,ay (aq.cw m (de m 9 w ab ae aa af aj cc) (xT 9 w ab ae aa af aj cc ld)))],aw c2,tF,tT,aw c3,aw c4,tC (nt (@jd 9 w ab ae aa af aj cc hm d0 d1 (rfl:true=true))),.cX _ true (cu d0 d1),.ej _ _ _ _ (@bO m ab (ft 0 w (rg (aq.rl m) ab) (abz.wrap abz.u64 aj)) ([ax true,ax (yL w (rg (aq.rl m) ab) (abz.wrap abz.u64 aj)),ax (aI (u64 (rg (aq.rl m) ab+abz.wrap abz.u64 aj)) w==0),ax (fG (u64 (rg (aq.rl m) ab+abz.wrap abz.u64 aj)) w),ax (yK w (rg (aq.rl m) ab) (abz.wrap abz.u64 aj)),au (de m 9 w ab ae aa af aj cc),ao 9,ao w,ao ab,ao ae,ao aa,av af,av aj,ao cc,au ld]) d0 d1),tF]) (by kernel_rfl))
theorem DF:od 10:=by
 intro m w ab ae aa af aj cc ld d0 d1 s0 s1 b0 b1 hm hw
 have c0:= @a9 10 w ab ae aa af aj cc (by decide)
 rw [hm] at c0
 have c1:= @cP 10 w ab ae aa af aj cc (by decide)
 have c2:= @Bx w (rg (aq.rl m) ab) (abz.wrap abz.u64 aj) hw
 have c3:= @kK w (ft 4 w (rg (aq.rl m) ab) (abz.wrap abz.u64 aj)) hw
 have c4:= @bT 10 w ab ae aa af aj cc (by decide)
 exact (lL (d:= .aL [(gu (m.at (u64 (m.pc+u64 (ck 10 w ab ae aa af aj cc)))) ⟨10,w,ab,ae,aa,af,aj,cc⟩ ld).1.d,av 0]) ([aw c0,tF,aw c1,tT,tT,aO,aO,.aU [(4,ay (aq.cw m (de m 10 w ab ae aa af aj cc) (xT 10 w ab ae aa af aj cc ld)))],.jM rT 10 (some (ao 4)) rfl,.cX _ true (cu d0 d1),.get _ _ _ (@bj m ab ((fT m (de m 10 w ab ae aa af aj cc) (xT 10 w ab ae aa af aj cc ld))) d0 d1),aO]++Z7 8 tF++Z7 9 tT++ [.aU [(4,ay (aq.cw m (de m 10 w ab ae aa af aj cc) (xT 10 w ab ae aa af aj cc ld)))],aw c2,tF,tF,tF,tF,tT,tT,aw c3,aw c4,tC (nt (@jd 10 w ab ae aa af aj cc hm d0 d1 (rfl:true=true))),.cX _ true (cu d0 d1),.ej _ _ _ _ (@bO m ab (ft 4 w (rg (aq.rl m) ab) (abz.wrap abz.u64 aj)) ([ax true,ax false,ax (aI (ft 4 w (rg (aq.rl m) ab) (abz.wrap abz.u64 aj)) w==0),ax (fG (ft 4 w (rg (aq.rl m) ab) (abz.wrap abz.u64 aj)) w),ax false,au (de m 10 w ab ae aa af aj cc),ao 10,ao w,ao ab,ao ae,ao aa,av af,av aj,ao cc,au ld]) d0 d1),tF]) (by kernel_rfl))
theorem DE:od 11:=by
 intro m w ab ae aa af aj cc ld d0 d1 s0 s1 b0 b1 hm hw
 have c0:= @a9 11 w ab ae aa af aj cc (by decide)
 rw [hm] at c0
 have c1:= @cP 11 w ab ae aa af aj cc (by decide)
 have c2:= @pB w (rg (aq.rl m) ab) (abz.wrap abz.u64 aj) hw
 have c3:= @kK w (ft 5 w (rg (aq.rl m) ab) (abz.wrap abz.u64 aj)) hw
 have c4:= @bT 11 w ab ae aa af aj cc (by decide)
 exact (lL (d:= .aL [(gu (m.at (u64 (m.pc+u64 (ck 11 w ab ae aa af aj cc)))) ⟨11,w,ab,ae,aa,af,aj,cc⟩ ld).1.d,av 0]) ([aw c0,tF,aw c1,tT,tT,aO,aO,.aU [(4,ay (aq.cw m (de m 11 w ab ae aa af aj cc) (xT 11 w ab ae aa af aj cc ld)))],.jM rT 11 (some (ao 5)) rfl,.cX _ true (cu d0 d1),.get _ _ _ (@bj m ab ((fT m (de m 11 w ab ae aa af aj cc) (xT 11 w ab ae aa af aj cc ld))) d0 d1),aO]++Z7 8 tF++Z7 9 tT++ [.aU [(4,ay (aq.cw m (de m 11 w ab ae aa af aj cc) (xT 11 w ab ae aa af aj cc ld)))],aw c2,tF,tF,tF,tF,tF,tT,tT,aw c3,aw c4,tC (nt (@jd 11 w ab ae aa af aj cc hm d0 d1 (rfl:true=true))),.cX _ true (cu d0 d1),.ej _ _ _ _ (@bO m ab (ft 5 w (rg (aq.rl m) ab) (abz.wrap abz.u64 aj)) ([ax true,ax false,ax (aI (ft 5 w (rg (aq.rl m) ab) (abz.wrap abz.u64 aj)) w==0),ax (fG (ft 5 w (rg (aq.rl m) ab) (abz.wrap abz.u64 aj)) w),ax false,au (de m 11 w ab ae aa af aj cc),ao 11,ao w,ao ab,ao ae,ao aa,av af,av aj,ao cc,au ld]) d0 d1),tF]) (by kernel_rfl))
theorem DC:od 13:=by
 intro m w ab ae aa af aj cc ld d0 d1 s0 s1 b0 b1 hm hw
 have c0:= @a9 13 w ab ae aa af aj cc (by decide)
 rw [hm] at c0
 have c1:= @cP 13 w ab ae aa af aj cc (by decide)
 have c2:= @vH w (rg (aq.rl m) ab) (abz.wrap abz.u64 aj) hw
 have c3:= @kK w (ft 10 w (rg (aq.rl m) ab) (abz.wrap abz.u64 aj)) hw
 have c4:= @bT 13 w ab ae aa af aj cc (by decide)
 exact (lL (d:= .aL [(gu (m.at (u64 (m.pc+u64 (ck 13 w ab ae aa af aj cc)))) ⟨13,w,ab,ae,aa,af,aj,cc⟩ ld).1.d,av 0]) ([aw c0,tF,aw c1,tT,tT,aO,aO,.aU [(4,ay (aq.cw m (de m 13 w ab ae aa af aj cc) (xT 13 w ab ae aa af aj cc ld)))],.jM rT 13 (some (ao 10)) rfl,.cX _ true (cu d0 d1),.get _ _ _ (@bj m ab ((fT m (de m 13 w ab ae aa af aj cc) (xT 13 w ab ae aa af aj cc ld))) d0 d1),aO]++Z7 8 tF++Z7 9 tT++ [.aU [(4,ay (aq.cw m (de m 13 w ab ae aa af aj cc) (xT 13 w ab ae aa af aj cc ld)))],aw c2,tF,tF,tF,tF,tF,tF,tT,aw c3,aw c4,tC (nt (@jd 13 w ab ae aa af aj cc hm d0 d1 (rfl:true=true))),.cX _ true (cu d0 d1),.ej _ _ _ _ (@bO m ab (ft 10 w (rg (aq.rl m) ab) (abz.wrap abz.u64 aj)) ([ax true,ax false,ax (aI (ft 10 w (rg (aq.rl m) ab) (abz.wrap abz.u64 aj)) w==0),ax (fG (ft 10 w (rg (aq.rl m) ab) (abz.wrap abz.u64 aj)) w),ax false,au (de m 13 w ab ae aa af aj cc),ao 13,ao w,ao ab,ao ae,ao aa,av af,av aj,ao cc,au ld]) d0 d1),tF]) (by kernel_rfl))
theorem DB:od 14:=by
 intro m w ab ae aa af aj cc ld d0 d1 s0 s1 b0 b1 hm hw
 have c0:= @a9 14 w ab ae aa af aj cc (by decide)
 rw [hm] at c0
 have c1:= @cP 14 w ab ae aa af aj cc (by decide)
 have c2:= @pC w (rg (aq.rl m) ab) (abz.wrap abz.u64 aj) hw
 have c3:= @pq w (rg (aq.rl m) ab) (abz.wrap abz.u64 aj) hw
 have c4:= @bT 14 w ab ae aa af aj cc (by decide)
 exact (lL (d:= .aL [(gu (m.at (u64 (m.pc+u64 (ck 14 w ab ae aa af aj cc)))) ⟨14,w,ab,ae,aa,af,aj,cc⟩ ld).1.d,av 0]) ([aw c0,tF,aw c1,tT,tT,aO,aO,.aU [(4,ay (aq.cw m (de m 14 w ab ae aa af aj cc) (xT 14 w ab ae aa af aj cc ld)))],.jM rT 14 (some (ao 1)) rfl,.cX _ true (cu d0 d1),.get _ _ _ (@bj m ab ((fT m (de m 14 w ab ae aa af aj cc) (xT 14 w ab ae aa af aj cc ld))) d0 d1),aO]++Z7 8 tF++Z7 9 tT++ [.aU [(4,ay (aq.cw m (de m 14 w ab ae aa af aj cc) (xT 14 w ab ae aa af aj cc ld)))],aw c2,tF,tF,tT,aw c3,aw c4,tC (nt (cK 0 true (eq_of_beq (@L9 14 w ab ae aa af aj cc (rfl:false=false))))),tF]) (by kernel_rfl))
theorem DA:od 15:=by
 intro m w ab ae aa af aj cc ld d0 d1 s0 s1 b0 b1 hm hw
 have c0:= @a9 15 w ab ae aa af aj cc (by decide)
 rw [hm] at c0
 have c1:= @cP 15 w ab ae aa af aj cc (by decide)
 have c2:= @pB w (rg (aq.rl m) ab) (abz.wrap abz.u64 aj) hw
 have c3:= @kK w (ft 5 w (rg (aq.rl m) ab) (abz.wrap abz.u64 aj)) hw
 have c4:= @bT 15 w ab ae aa af aj cc (by decide)
 exact (lL (d:= .aL [(gu (m.at (u64 (m.pc+u64 (ck 15 w ab ae aa af aj cc)))) ⟨15,w,ab,ae,aa,af,aj,cc⟩ ld).1.d,av 0]) ([aw c0,tF,aw c1,tT,tT,aO,aO,.aU [(4,ay (aq.cw m (de m 15 w ab ae aa af aj cc) (xT 15 w ab ae aa af aj cc ld)))],.jM rT 15 (some (ao 5)) rfl,.cX _ true (cu d0 d1),.get _ _ _ (@bj m ab ((fT m (de m 15 w ab ae aa af aj cc) (xT 15 w ab ae aa af aj cc ld))) d0 d1),aO]++Z7 8 tF++Z7 9 tT++ [.aU [(4,ay (aq.cw m (de m 15 w ab ae aa af aj cc) (xT 15 w ab ae aa af aj cc ld)))],aw c2,tF,tF,tF,tF,tF,tT,tT,aw c3,aw c4,tC (nt (cK 0 true (eq_of_beq (@L9 15 w ab ae aa af aj cc (rfl:false=false))))),tF]) (by kernel_rfl))
theorem Dz:od 16:=by
 intro m w ab ae aa af aj cc ld d0 d1 s0 s1 b0 b1 hm hw
 have c0:= @a9 16 w ab ae aa af aj cc (by decide)
 rw [hm] at c0
 have c1:= @cP 16 w ab ae aa af aj cc (by decide)
 have c2:= @LJ w (rg (aq.rl m) ab) (rg (aq.rl m) ae) hw
 have c3:= @eI
 have c4:= @bT 16 w ab ae aa af aj cc (by decide)
 exact (lL (d:= .aL [(gu (m.at (u64 (m.pc+u64 (ck 16 w ab ae aa af aj cc)))) ⟨16,w,ab,ae,aa,af,aj,cc⟩ ld).1.d,av 0]) ([aw c0,tF,aw c1,tT,tT,aO,aO,.aU [(4,ay (aq.cw m (de m 16 w ab ae aa af aj cc) (xT 16 w ab ae aa af aj cc ld)))],.jM rT 16 (some (ao 2)) rfl,.cX _ true (cu d0 d1),.get _ _ _ (@bj m ab ((fT m (de m 16 w ab ae aa af aj cc) (xT 16 w ab ae aa af aj cc ld))) d0 d1),aO]++Z7 8 tF++ [tT,tT,tT,tT,tT,tT,tT]++Z7 9 tF++ [.cX _ true (cu s0 s1),.get _ _ _ (@bj m ae ((fT m (de m 16 w ab ae aa af aj cc) (xT 16 w ab ae aa af aj cc ld))) s0 s1),.aU [(4,ay (aq.cw m (de m 16 w ab ae aa af aj cc) (xT 16 w ab ae aa af aj cc ld)))],aw c2,tF,tF,tF,tF,tF,tF,tF,aw c3,aw c4,tC (nt (@jd 16 w ab ae aa af aj cc hm d0 d1 (rfl:true=true))),.cX _ true (cu d0 d1),.ej _ _ _ _ (@bO m ab (ft 2 w (rg (aq.rl m) ab) (rg (aq.rl m) ae)) ([ax false,ax false,ax false,ax false,ax false,au (de m 16 w ab ae aa af aj cc),ao 16,ao w,ao ab,ao ae,ao aa,av af,av aj,ao cc,au ld]) d0 d1),tF]) (by kernel_rfl))
theorem H0 (m:aq) (x:XS) (ld:Int) (ho:x.op≤127):aP Z9 83 [m.d,x.d,au ld] (.aL [(fg m x ld).1.d,av (fg m x ld).2]):=by
 cases hm:x.may
 ·rw [Bg hm]
  obtain ⟨q0,q1,q2,q3,q4,q5,q6,q7,q8,q9,cZ,dj,dq,dp,dn,di,fk,fc,fz,fs,fo,pc⟩:=m
  obtain ⟨op,w,ab,ae,aa,af,aj,cc⟩:=x
  exact Di q0 q1 q2 q3 q4 q5 q6 q7 q8 q9 cZ dj dq dp dn di pc fk fc fz fs fo op w ab ae aa af aj cc ld ho hm
 ·rw [qh hm]
  obtain ⟨op,w,ab,ae,aa,af,aj,cc⟩:=x
  replace hm:bC op w ab ae aa af aj cc=true:=hm
  have VO:aA op≠0:=by
   intro e
   have hs:=(dw hm).2
   rw [e] at hs
   simp [iy] at hs
  obtain ⟨⟨d0,d1,s0,s1,b0,b1,_⟩,hs⟩:=dw hm
  rcases gQ VO with rfl|rfl|rfl|rfl|rfl|rfl|rfl|rfl|rfl|rfl|rfl|rfl|rfl|rfl|rfl|rfl|rfl|rfl|rfl|rfl|rfl|rfl|rfl|rfl|rfl|rfl|rfl|rfl|rfl|rfl|rfl|rfl
  ·exact Ib m _ _ _ _ _ _ _ _ d0 d1 s0 s1 b0 b1 hm
  ·exact Ia m _ _ _ _ _ _ _ _ d0 d1 s0 s1 b0 b1 hm
  ·exact H9 m _ _ _ _ _ _ _ _ d0 d1 s0 s1 b0 b1 hm (bz hs (by decide))
  ·exact H8 m _ _ _ _ _ _ _ _ d0 d1 s0 s1 b0 b1 hm (bz hs (by decide))
  ·exact H7 m _ _ _ _ _ _ _ _ d0 d1 s0 s1 b0 b1 hm (bz hs (by decide))
  ·exact H6 m _ _ _ _ _ _ _ _ d0 d1 s0 s1 b0 b1 hm (bz hs (by decide))
  ·exact H5 m _ _ _ _ _ _ _ _ d0 d1 s0 s1 b0 b1 hm (bz hs (by decide))
  ·exact H4 m _ _ _ _ _ _ _ _ d0 d1 s0 s1 b0 b1 hm (bz hs (by decide))
  ·exact H3 m _ _ _ _ _ _ _ _ d0 d1 s0 s1 b0 b1 hm (bz hs (by decide))
  ·exact H2 m _ _ _ _ _ _ _ _ d0 d1 s0 s1 b0 b1 hm (bz hs (by decide))
  ·exact DF m _ _ _ _ _ _ _ _ d0 d1 s0 s1 b0 b1 hm (bz hs (by decide))
  ·exact DE m _ _ _ _ _ _ _ _ d0 d1 s0 s1 b0 b1 hm (bz hs (by decide))
  ·exact DD m _ _ _ _ _ _ _ _ d0 d1 s0 s1 b0 b1 hm (bz hs (by decide))
  ·exact DC m _ _ _ _ _ _ _ _ d0 d1 s0 s1 b0 b1 hm (bz hs (by decide))
  ·exact DB m _ _ _ _ _ _ _ _ d0 d1 s0 s1 b0 b1 hm (bz hs (by decide))
  ·exact DA m _ _ _ _ _ _ _ _ d0 d1 s0 s1 b0 b1 hm (bz hs (by decide))
  ·exact Dz m _ _ _ _ _ _ _ _ d0 d1 s0 s1 b0 b1 hm (bz hs (by decide))
  ·exact Dy m _ _ _ _ _ _ _ _ d0 d1 s0 s1 b0 b1 hm (bz hs (by decide))
  ·exact Dx m _ _ _ _ _ _ _ _ d0 d1 s0 s1 b0 b1 hm (bz hs (by decide))
  ·exact Dw m _ _ _ _ _ _ _ _ d0 d1 s0 s1 b0 b1 hm (bz hs (by decide))
  ·exact Dv m _ _ _ _ _ _ _ _ d0 d1 s0 s1 b0 b1 hm (bz hs (by decide))
  ·exact Du m _ _ _ _ _ _ _ _ d0 d1 s0 s1 b0 b1 hm (bz hs (by decide))
  ·exact Dt m _ _ _ _ _ _ _ _ d0 d1 s0 s1 b0 b1 hm (bz hs (by decide))
  ·exact Ds m _ _ _ _ _ _ _ _ d0 d1 s0 s1 b0 b1 hm (bz hs (by decide))
  ·obtain ⟨q0,q1,q2,q3,q4,q5,q6,q7,q8,q9,cZ,dj,dq,dp,dn,di,fk,fc,fz,fs,fo,pc⟩:=m
   cases hd:(aI (rg [q0,q1,q2,q3,q4,q5,q6,q7,q8,q9,cZ,dj,dq,dp,dn,di] ab) w==0)
   ·cases hz:(aI q2 w==0)
    ·have e:gu ((⟨q0,q1,q2,q3,q4,q5,q6,q7,q8,q9,cZ,dj,dq,dp,dn,di,fk,fc,fz,fs,fo,pc⟩:aq).at (u64 (pc+u64 (XS.len ⟨24,w,ab,ae,aa,af,aj,cc⟩)))) ⟨24,w,ab,ae,aa,af,aj,cc⟩ ld=(.zero,20):=by
      show (match (aI (rg [q0,q1,q2,q3,q4,q5,q6,q7,q8,q9,cZ,dj,dq,dp,dn,di] ab) w==0:Bool) with|true=>((aq.zero,20):aq×Int)|false=>match (aI q2 w==0:Bool) with|false=>(.zero,20)|true=>_)=_
      rw [hd,hz]
     rw [e]
     exact Be q0 q1 q2 q3 q4 q5 q6 q7 q8 q9 cZ dj dq dp dn di pc fk fc fz fs fo w ab ae aa af aj cc ld d0 d1 s0 s1 b0 b1 hm hd hz
    ·have e:gu ((⟨q0,q1,q2,q3,q4,q5,q6,q7,q8,q9,cZ,dj,dq,dp,dn,di,fk,fc,fz,fs,fo,pc⟩:aq).at (u64 (pc+u64 (XS.len ⟨24,w,ab,ae,aa,af,aj,cc⟩)))) ⟨24,w,ab,ae,aa,af,aj,cc⟩ ld=(⟨u64 ((aI q0 w).tdiv (aI (rg [q0,q1,q2,q3,q4,q5,q6,q7,q8,q9,cZ,dj,dq,dp,dn,di] ab) w)),q1,(aI q0 w).tmod (aI (rg [q0,q1,q2,q3,q4,q5,q6,q7,q8,q9,cZ,dj,dq,dp,dn,di] ab) w),q3,q4,q5,q6,q7,q8,q9,cZ,dj,dq,dp,dn,di,false,false,false,false,false,u64 (pc+u64 (XS.len ⟨24,w,ab,ae,aa,af,aj,cc⟩))⟩,0):=by
      show (match (aI (rg [q0,q1,q2,q3,q4,q5,q6,q7,q8,q9,cZ,dj,dq,dp,dn,di] ab) w==0:Bool) with|true=>((aq.zero,20):aq×Int)|false=>match (aI q2 w==0:Bool) with|false=>(.zero,20)|true=>_)=_
      rw [hd,hz]
      rfl
     rw [e]
     exact Dr q0 q1 q2 q3 q4 q5 q6 q7 q8 q9 cZ dj dq dp dn di pc fk fc fz fs fo w ab ae aa af aj cc ld d0 d1 s0 s1 b0 b1 hm hd hz
   ·have e:gu ((⟨q0,q1,q2,q3,q4,q5,q6,q7,q8,q9,cZ,dj,dq,dp,dn,di,fk,fc,fz,fs,fo,pc⟩:aq).at (u64 (pc+u64 (XS.len ⟨24,w,ab,ae,aa,af,aj,cc⟩)))) ⟨24,w,ab,ae,aa,af,aj,cc⟩ ld=(.zero,20):=by
     show (match (aI (rg [q0,q1,q2,q3,q4,q5,q6,q7,q8,q9,cZ,dj,dq,dp,dn,di] ab) w==0:Bool) with|true=>((aq.zero,20):aq×Int)|false=>match (aI q2 w==0:Bool) with|false=>(.zero,20)|true=>_)=_
     rw [hd]
    rw [e]
    exact Bf q0 q1 q2 q3 q4 q5 q6 q7 q8 q9 cZ dj dq dp dn di pc fk fc fz fs fo w ab ae aa af aj cc ld d0 d1 s0 s1 b0 b1 hm hd
  ·obtain ⟨q0,q1,q2,q3,q4,q5,q6,q7,q8,q9,cZ,dj,dq,dp,dn,di,fk,fc,fz,fs,fo,pc⟩:=m
   cases fk
   ·exact Bd q0 q1 q2 q3 q4 q5 q6 q7 q8 q9 cZ dj dq dp dn di pc fc fz fs fo w ab ae aa af aj cc ld d0 d1 s0 s1 b0 b1 hm (x7 hs)
   ·exact Dq q0 q1 q2 q3 q4 q5 q6 q7 q8 q9 cZ dj dq dp dn di pc fc fz fs fo w ab ae aa af aj cc ld d0 d1 s0 s1 b0 b1 hm (x7 hs)
  ·exact Dp m _ _ _ _ _ _ _ _ d0 d1 s0 s1 b0 b1 hm
  ·exact Dn m _ _ _ _ _ _ _ _ d0 d1 s0 s1 b0 b1 hm
  ·exact Dm m _ _ _ _ _ _ _ _ d0 d1 s0 s1 b0 b1 hm
  ·obtain ⟨q0,q1,q2,q3,q4,q5,q6,q7,q8,q9,cZ,dj,dq,dp,dn,di,fk,fc,fz,fs,fo,pc⟩:=m
   cases fk
   ·exact Bc q0 q1 q2 q3 q4 q5 q6 q7 q8 q9 cZ dj dq dp dn di pc fc fz fs fo w ab ae aa af aj cc ld d0 d1 s0 s1 b0 b1 hm (ri hs)
   ·exact Dl q0 q1 q2 q3 q4 q5 q6 q7 q8 q9 cZ dj dq dp dn di pc fc fz fs fo w ab ae aa af aj cc ld d0 d1 s0 s1 b0 b1 hm (ri hs)
  ·exact Dk m _ _ _ _ _ _ _ _ d0 d1 s0 s1 b0 b1 hm
  ·obtain ⟨q0,q1,q2,q3,q4,q5,q6,q7,q8,q9,cZ,dj,dq,dp,dn,di,fk,fc,fz,fs,fo,pc⟩:=m
   exact Dj ⟨q0,q1,q2,q3,q4,q5,q6,q7,q8,q9,cZ,dj,dq,dp,dn,di,fk,fc,fz,fs,fo,pc⟩ w ab ae aa af aj cc ld d0 d1 s0 s1 b0 b1 hm
abbrev eW (m:aq):List D:= [au m.q0,au m.q1,au m.q2,au m.q3,au m.q4,au m.q5,au m.q6,au m.q7,au m.q8,au m.q9,au m.cZ,au m.dj,au m.dq,au m.dp,au m.dn,au m.di,ax m.fk,ax m.fc,ax m.fz,ax m.fs,ax m.fo,au m.pc]
abbrev uC (m:aq) (an tr:List D) (v:Nat) (en:Int):List D:= [au m.q0,au m.q1,au m.q2,au m.q3,au m.q4,au m.q5,au m.q6,au m.q7,au m.q8,au m.q9,au m.cZ,au m.dj,au m.dq,au m.dp,au m.dn,au m.di,ax m.fk,ax m.fc,ax m.fz,ax m.fs,ax m.fo,au m.pc,.ptr false 1 0,aZ 1 an,.aY (.tok 16 v) 3 tr,ao en]
abbrev uD (m:aq) (an tr:List D) (v:Nat):List D:= [au m.q0,au m.q1,au m.q2,au m.q3,au m.q4,au m.q5,au m.q6,au m.q7,au m.q8,au m.q9,au m.cZ,au m.dj,au m.dq,au m.dp,au m.dn,au m.di,ax m.fk,ax m.fc,ax m.fz,ax m.fs,ax m.fo,au m.pc,.ptr false 4 0,aZ 1 an,.aY (.tok 7 v) 3 tr]
abbrev un (n:Nat):List D:=Z7 n .undef
end Go.Proofs.YtbfpahigdpigpaaGreat
namespace Go.Ev
open Go
def nD (pc:Int):Int:=if decide (abz.u64.wrap (pc - 1048576)<16385)=true then abz.i64.wrap (abz.u64.wrap (pc - 1048576)) else -1
theorem Kz (pc:Int): -1≤nD pc∧nD pc≤16384:=by
 unfold nD
 split
 ·rename_i h
  have h:=of_decide_eq_true h
  have h0:0≤abz.u64.wrap (pc - 1048576):=by rw [bN];omega
  generalize abz.u64.wrap (pc - 1048576)=z at*
  rw [aN];omega
 ·decide
def iD (l:List Int):List D:=l.map (.int .i64)
theorem KX (a b:List Int):iD (a++b)=iD a++iD b:=by simp [iD]
theorem p7 (a:List Int):(iD a).length=a.length:=by simp [iD]
theorem KW {l:List Int} {k:Nat} {x:Int} (h:l[k]? =some x):(iD l)[k]? =some (av x):=by simp [iD,h]
def nA (cb:List Int):Nat→kp→List Int
  |0,_=> []
  |f+1,e=>nD e.m.pc::(match bu cb e with
    |(e2,true)=>nA cb f e2
    |(_,false)=> [])
theorem I5 (cb:List Int):∀(f:Nat) (e:kp),∀x∈nA cb f e,-1≤x∧x≤16384
 |0,_,x,h=>by simp [nA] at h
 |f+1,e,x,h=>by
  rw [nA,abj] at h
  rcases h with rfl|h
  ·exact Kz _
  ·cases hs:bu cb e with
   |mk e2 b=>
    rw [hs] at h
    cases b with
    |true=>exact I5 cb f e2 x h
    |false=>simp at h
theorem EA (cb:List Int):∀(f:Nat) (e:kp),(iA cb f e).2+(nA cb f e).length=f
 |0,_=>rfl
 |f+1,e=>by
  rw [iA,nA]
  cases hs:bu cb e with
  |mk e2 b=>
   cases b with
   |true=>
    have:=EA cb f e2
    simp only [List.length_cons];omega
   |false=>simp
def kB (x:Int):Nat:=Int.toNat (abz.i64.wrap (x+1))
def jI:List Int→List Bool→List Bool
  | [],l=>l
  |x::v,l=>jI v (l.set (kB x) true)
def jw (l:List Bool):List D:=l.map D.bool
theorem fF (l:List Bool):∀c∈jw l,c.clean=true:=by
 intro c hc
 obtain ⟨n,_,rfl⟩:=List.mem_map.1 hc
 rfl
theorem gE (l:List Bool):(jw l).map D.bg=jw l:=by
 simp only [jw,List.map_map]
 rfl
theorem EJ (l:List Bool) (i:Nat):(jw l).set i (ax true)=jw (l.set i true):=by simp [jw,List.map_set]
theorem wu {l:List Bool} {i:Nat} {b:Bool} (h:l[i]? =some b):(jw l)[i]? =some (ax b):=by simp [jw,h]
theorem rq (l:List Bool):(jw l).length=l.length:=by simp [jw]
theorem mZ:∀(v:List Int) (l:List Bool),(jI v l).length=l.length
 | [],_=>rfl
 |x::v,l=>by rw [jI,mZ v,List.length_set]
theorem EI:∀(v:List Int) (l:List Bool) (k:Nat),k<l.length→((jI v l)[k]? =some true↔l[k]? =some true∨∃x∈v,kB x=k)
 | [],l,k,h=>by simp [jI]
 |x::v,l,k,h=>by
  rw [jI,EI v _ k (by simpa using h),List.getElem?_set]
  by_cases e:kB x=k
  ·rw [if_pos e,if_pos (by omega)]
   simp [e]
  ·rw [if_neg e]
   constructor
   ·rintro (q|⟨y,q,z⟩)
    ·exact .inl q
    ·exact .inr ⟨y,List.mem_cons_of_mem _ q,z⟩
   ·rintro (q|⟨y,q,z⟩)
    ·exact .inl q
    ·rcases abj.1 q with rfl|q
     ·exact absurd z e
     ·exact .inr ⟨y,q,z⟩
def PW (v:List Int):List D:=(List.range 16386).map fun i=>D.bool (v.any fun x=>kB x==i)
theorem wy (v:List Int):jw (jI v (Z7 16386 false))=PW v:=by
 apply List.ext_getElem?
 intro i
 unfold jw PW
 rw [aau,aau]
 rcases Nat.lt_or_ge i 16386 with h|h
 ·have hl:i<(jI v (Z7 16386 false)).length:=by rw [mZ,aa4];exact h
  have hg:=EI v (Z7 16386 false) i (by rw [aa4];exact h)
  rw [List.getElem?_replicate,if_pos h,aaN hl] at hg
  rw [aaN hl,List.getElem?_range h]
  have e:(jI v (Z7 16386 false))[i]=v.any fun x=>kB x==i:=by
   rw [Bool.eq_iff_iff,List.any_eq_true]
   constructor
   ·intro q
    rcases hg.1 (by rw [q]) with q|⟨x,q,z⟩
    ·cases q
    ·exact ⟨x,q,by rw [z];exact beq_self_eq_true _⟩
   ·rintro ⟨x,q,z⟩
    have:=hg.2 (.inr ⟨x,q,eq_of_beq z⟩)
    exact Option.some.inj this
  rw [e]
  rfl
 ·rw [aam (by rw [mZ,aa4];exact h),aam (by rw [List.length_range];exact h)]
  rfl
theorem wx (v:List Int):(PW v).length=16386:=by rw [PW,List.length_map,List.length_range]
def mF:Nat→List Bool→List Int
  |_,[]=> []
  |k,true::r=>((k:Int) - 1)::mF (k+1) r
  |k,false::r=>mF (k+1) r
theorem xI:∀(l:List Bool) (k:Nat),(mF k l).length≤l.length
 | [],_=>Nat.le_refl _
 |true::r,k=>by rw [mF];have:=xI r (k+1);simp;omega
 |false::r,k=>by rw [mF];have:=xI r (k+1);simp;omega
def xJ (v:List Int):List Int:=mF 0 (jI v (Z7 16386 false))
def Tz (t:Int):List Int→List (Int×D)→List (Int×D)
  | [],es=>es
  |x::v,es=>Tz t v (nB es x (.int .i64 t))
def sF (m:aq):Prop:=0≤m.pc∧m.pc≤18446744073709551615
theorem xM (m:aq) (v:Int):sF (m.at (u64 v)):=by
 unfold sF aq.at
 simp only [u64,bN]
 omega
theorem FD (m:aq) (s w a b v:Int):(FE m s w a b v).pc=m.pc:=by unfold FE;split<;>rfl
theorem PD (m:aq) (x:XS) (ld:Int) (h:sF m) (hl:x.op=30→0≤ld∧ld≤18446744073709551615):sF (gu m x ld).1:=by
 have hz:sF .zero:=⟨by decide,by decide⟩
 unfold gu
 split
 ·simp only []
  split
  ·unfold sF;rw [FD];exact h
  ·unfold sF;simp only [aq.put,FD];exact h
 ·split
  ·exact h
  ·exact h
  ·split
   ·exact hz
   ·split
    ·exact hz
    ·exact h
  ·split
   ·exact hz
   ·exact h
  ·exact h
  ·exact xM _ _
  ·split
   ·exact hz
   ·split
    ·exact xM _ _
    ·exact h
  ·rename_i ho
   exact hl ho
  ·exact h
  ·exact h
theorem mM (m:aq) (x:XS) (ld:Int) (hl:x.op=30→0≤ld∧ld≤18446744073709551615):sF (fg m x ld).1:=by
 unfold fg
 split
 ·exact ⟨Int.le_refl 0,by show (0:Int)≤_;decide⟩
 ·exact PD _ x ld (xM _ _) hl
theorem OC:∀l:List Int,0≤Qf l∧Qf l≤18446744073709551615
 | []=>by decide
 |b::t=>by
  rw [Qf,BD,bN]
  omega
theorem KP {cb cx fr st:List Int} {a n v:Int} (h:jE cb cx fr st a n=some v):0≤v∧v≤18446744073709551615:=by
 unfold jE at h
 repeat' split at h
 all_goals first|(cases h;exact OC _)|(cases h;done)
theorem Mj (cb:List Int) (e:kp) (h:sF e.m):sF (bu cb e).1.m:=by
 have no:∀ {x:XS} {c:Int},x.op=c→c≠30→∀ {ld:Int},x.op=30→0≤ld∧ld≤18446744073709551615:=fun a b _ q=>absurd (a.symm.trans q) b
 unfold bu
 split
 ·split
  ·exact h
  ·split
   ·rename_i ho
    split
    ·split
     ·exact h
     ·exact mM _ _ _ (no ho (by decide))
    ·exact h
   ·split
    ·rename_i ho
     split
     ·exact h
     ·exact mM _ _ _ (no ho (by decide))
    ·split
     ·rename_i ho
      split
      ·exact h
      ·exact mM _ _ _ (no ho (by decide))
     ·split
      ·split
       ·exact h
       ·rename_i v hv
        split<;>exact mM _ _ _ (fun _=>KP hv)
      ·rename_i ho
       split
       ·exact mM _ _ _ (fun q=>absurd q ho)
       ·exact h
 ·exact h
end Go.Ev
namespace Go.Proofs.YtbfpahigdpigpaaGreat
open Go Go.Ev
abbrev oR (k:Int):Ob:= .box [ao k,au 0,.aY .tight 0 [],.aY .tight 0 [],av 0]
def z2 (c:List D):Nat→Ob|0=> .box c|_=> .dead
def zq (nx:Nat):Nat→D|0=> .dm 2 1 nx|_=> .aY .no 1 (bD [])
abbrev uP (m:aq) (an tr:List D) (v:Nat):List D:= [au m.q0,au m.q1,au m.q2,au m.q3,au m.q4,au m.q5,au m.q6,au m.q7,au m.q8,au m.q9,au m.cZ,au m.dj,au m.dq,au m.dp,au m.dn,au m.di,ax m.fk,ax m.fc,ax m.fz,ax m.fs,ax m.fo,au m.pc,.ptr false 4 0,aZ 1 an,.aY (.tok 11 v) 3 tr]
abbrev Lq (r nx:Nat) (cb:List Int) (cx fr st an tr:List D) (m:aq) (k:Int) (w v:Nat) (dd:List Ob):List Ob:=oR 0::aF::z2 cx r::ay fr::ay [aZ 1 (bD cb),zq nx r,.dm 3 1 64,.dm 5 1 264]::ay st::aF::ay (uP m an tr v)::oR k:: .dD w 1:: .dD w 22:: .dD v 3::dd
abbrev L6 (f:Int) (pl l:List D):List D:=((cF)::(cF)::(cF)::(av f)::(un 6++(.ptr false 0 0)::(cF)::(cF)::(cF)::(.ptr false 7 0)::(.aY (.tok 9 0) 1 pl)::(.aY (.tok 10 0) 22 l)::(.ptr false 8 0)::(un 103)))
def Pw:Nat→HS
  |0=>⟨[3,10,14,17],[0,1000002,1000003,4,1000005,7,8],[(15,1),(16,22),(1007024,3)]⟩
  |_=>⟨[3,10,14,17],[0,1000003,4,1000005,7,8],[(15,1),(16,22),(1007024,3)]⟩
abbrev Rq (pc o:Int):Prop:=(decide (pc≥1048576)=false∧o= -1)∨(decide (pc≥1048576)=true∧decide (pc≤1064960)=false∧o= -1)∨(decide (pc≥1048576)=true∧decide (pc≤1064960)=true∧o=abz.i64.wrap (abz.u64.wrap (pc - 1048576)))
section
variable (r nx:Nat) (hr:r=0∨r=1) (cb cx fr st:List Int) (an tr pl l:List D) (m:aq) (f o:Int)
include hr
theorem PA (h:f≤0):aB Z9 (cq Tryz.f13 0) (Pw r) 9 (L6 f pl l) (Lq r nx cb (bD cx) (bD fr) (bD st) an tr m 0 0 0 []) (.exit 0) (L6 f pl l) (Lq r nx cb ((bD cx).map D.bg) ((bD fr).map D.bg) ((bD st).map D.bg) an tr m 0 0 0 []):=by
 have g:decide (f>0)=false:=bF (by omega)
 rcases hr with rfl|rfl
 ·exact aB.ai mixed [tC g,.cl (bD cx) (a7 _),.cl (bD fr) (a7 _),.cl (bD st) (a7 _)] (by kernel_rfl)
 ·exact aB.ai mixed [tC g,.cl (bD fr) (a7 _),.cl (bD st) (a7 _)] (by kernel_rfl)
variable (h:0<f) (la:pl.length≤100000) (ll:l.length≤100000) (UO UI UG:List Int) (Vz Vw:List D) (m2:aq) (k:Int) (dd:List Ob)
include h la ll
theorem Q3 (Xg:Rq m.pc o) (v:Nat) (hv:v=0∨v=1) (hs:ak Z9 29 [.ptr false 7 0] (Lq r nx cb (bD cx) (bD fr) (bD st) an tr m 0 1 0 []) (.aL [ao k,ax true]) (Lq r nx cb (bD UO) (bD UI) (bD UG) Vz Vw m2 0 1 v dd)):
  aB Z9 (cq Tryz.f13 0) (Pw r) 9 (L6 f pl l) (Lq r nx cb (bD cx) (bD fr) (bD st) an tr m 0 0 0 []) .norm (L6 (abz.i64.wrap (f - 1)) (pl++ [av o]) (l++ [.agg (eW m)])) (Lq r nx cb ((bD UO).map D.bg) ((bD UI).map D.bg) ((bD UG).map D.bg) Vz Vw m2 0 0 0 []):=by
 have g:decide (f>0)=true:=b8 h
 have l1:pl.length+1≤2147483648:=by omega
 have l2:l.length+1≤2147483648:=by omega
 rcases Xg with ⟨p0,rfl⟩|⟨p0,p1,rfl⟩|⟨p0,p1,rfl⟩
 ·rcases hr with rfl|rfl
  ·rcases hv with rfl|rfl<;>exact aB.ai mixed (tC g::(Z7 6 (tC (eT p0))++ [tC p0,tF,.len _ _ l1,.len _ _ l2,.aH _ _ _ _ _ hs,tF,.cl _ (a7 UO),.cl _ (a7 UI),.cl _ (a7 UG)])) (by kernel_rfl)
  ·rcases hv with rfl|rfl<;>exact aB.ai mixed (tC g::(Z7 6 (tC (eT p0))++ [tC p0,tF,.len _ _ l1,.len _ _ l2,.aH _ _ _ _ _ hs,tF,.cl _ (a7 UI),.cl _ (a7 UG)])) (by kernel_rfl)
 all_goals
  rcases hr with rfl|rfl
  ·rcases hv with rfl|rfl<;>exact aB.ai mixed (tC g::(Z7 6 (tC (eT p0))++ [tC p0,tC p1,.len _ _ l1,.len _ _ l2,.aH _ _ _ _ _ hs,tF,.cl _ (a7 UO),.cl _ (a7 UI),.cl _ (a7 UG)])) (by kernel_rfl)
  ·rcases hv with rfl|rfl<;>exact aB.ai mixed (tC g::(Z7 6 (tC (eT p0))++ [tC p0,tC p1,.len _ _ l1,.len _ _ l2,.aH _ _ _ _ _ hs,tF,.cl _ (a7 UI),.cl _ (a7 UG)])) (by kernel_rfl)
theorem Q2 (Xg:Rq m.pc o) (hs:ak Z9 29 [.ptr false 7 0] (Lq r nx cb (bD cx) (bD fr) (bD st) an tr m 0 1 0 []) (.aL [ao k,ax false]) (Lq r nx cb (bD UO) (bD UI) (bD UG) Vz Vw m2 0 1 0 dd)):
  aB Z9 (cq Tryz.f13 0) (Pw r) 9 (L6 f pl l) (Lq r nx cb (bD cx) (bD fr) (bD st) an tr m 0 0 0 []) (.exit 0) (L6 (abz.i64.wrap (f - 1)) (pl++ [av o]) (l++ [.agg (eW m)])) (Lq r nx cb ((bD UO).map D.bg) ((bD UI).map D.bg) ((bD UG).map D.bg) Vz Vw m2 k 0 0 []):=by
 have g:decide (f>0)=true:=b8 h
 have l1:pl.length+1≤2147483648:=by omega
 have l2:l.length+1≤2147483648:=by omega
 rcases Xg with ⟨p0,rfl⟩|⟨p0,p1,rfl⟩|⟨p0,p1,rfl⟩
 ·rcases hr with rfl|rfl
  ·exact aB.ai mixed (tC g::(Z7 6 (tC (eT p0))++ [tC p0,tF,.len _ _ l1,.len _ _ l2,.aH _ _ _ _ _ hs,tT,.cl _ (a7 UO),.cl _ (a7 UI),.cl _ (a7 UG)])) (by kernel_rfl)
  ·exact aB.ai mixed (tC g::(Z7 6 (tC (eT p0))++ [tC p0,tF,.len _ _ l1,.len _ _ l2,.aH _ _ _ _ _ hs,tT,.cl _ (a7 UI),.cl _ (a7 UG)])) (by kernel_rfl)
 all_goals
  rcases hr with rfl|rfl
  ·exact aB.ai mixed (tC g::(Z7 6 (tC (eT p0))++ [tC p0,tC p1,.len _ _ l1,.len _ _ l2,.aH _ _ _ _ _ hs,tT,.cl _ (a7 UO),.cl _ (a7 UI),.cl _ (a7 UG)])) (by kernel_rfl)
  ·exact aB.ai mixed (tC g::(Z7 6 (tC (eT p0))++ [tC p0,tC p1,.len _ _ l1,.len _ _ l2,.aH _ _ _ _ _ hs,tT,.cl _ (a7 UI),.cl _ (a7 UG)])) (by kernel_rfl)
end
end Go.Proofs.YtbfpahigdpigpaaGreat
