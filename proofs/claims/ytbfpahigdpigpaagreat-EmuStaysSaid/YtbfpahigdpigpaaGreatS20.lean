import Derived.Test.YtbfpahigdpigpaaGreatS06
import Derived.Test.YtbfpahigdpigpaaGreatS09
import Derived.Test.YtbfpahigdpigpaaGreatS18
import Derived.Test.YtbfpahigdpigpaaGreatS19
open BitVec renaming ofInt→Xf,toNat→Xm
open List renaming replicate→Xg,length→Xj,take→Yz
open Go.Proofs.Tryz renaming prog→Xh,f21→Yh
open Int renaming toNat→Xi
open Bool renaming or_eq_true→XM,or_eq_false_iff→Yc
open List.cons renaming injEq→XU
open Go renaming IntKind→YO
/- Contracts and plain laws that a statement's proof leans on (texts merged:XQ8A,XQ9,XR1,XR2a,XR2b,XR2c,XR2d,XR2e). -/
set_option linter.unusedVariables false
set_option linter.unusedSimpArgs false
set_option maxRecDepth 100000
set_option maxHeartbeats 8000000
namespace Go.Proofs.YtbfpahigdpigpaaGreat
open Go Go.Ev
abbrev NK (b:List Int) (n:Int) (half:Bool):List D:=((aZ 1 (bD b))::(cX)::(.ptr false 0 0)::(cX)::(cX)::(.ptr false 1 0)::(.ptr false 2 0)::(ao n)::(ax half)::(un 19++(ao n)::(un 200)))
abbrev Gy (b:List Int):List D:=((aZ 1 (bD b))::(cX)::(.ptr false 0 0)::(cX)::(cX)::(.ptr false 1 0)::(.ptr false 2 0)::(un 222))
abbrev OT (b:List Int) (at_:Int) (bad w:Bool) (rr mm:Int) (x:List D):List Ob:= [au [aj 0,aj 0,aj 0,aj 0,aj 0,ao 0,ao 0,aj 0],au [aZ 1 (bD b),ao at_,ax bad,ax w,aj rr,aj mm],au x]
abbrev OS (op w ab ae aa af aq cc:Int):List D:= [aj op,aj w,aj ab,aj ae,aj aa,ao af,ao aq,aj cc]
abbrev PO (b:List Int) (r:LH) (w:Bool) (rr mm:Int):List Ob:=OT b (r.at_:Int) r.bad w rr mm (OS r.x.op r.x.w r.x.ab r.x.ae r.x.aa r.x.af r.x.aq r.x.cc)
theorem Ol (a:Int):YO.i8.wrap ((Xf 8 a&&&Xf 8 7).toNat:Int)=a%8:=by
 have:=yz a
 rw [bF] at this
 rw [← this]
 have h:0≤((Xf 8 a&&&Xf 8 7).toNat:Int)∧((Xf 8 a&&&Xf 8 7).toNat:Int)<256:=by
  have:=(Xf 8 a&&&Xf 8 7).isLt
  omega
 congr 1
 omega
theorem cZ {b:List Int} {k:Nat} (h:k<b.length):(bD b)[Xi (k:Int)]? =some (av (aO b k)):=by
 rw [Int.toNat_natCast]
 unfold aO bD
 simp [h,List.getD_eq_getElem?_getD]
set_option maxHeartbeats 2000000 in
theorem Mr (b : List Int) (hb : du b) (hl : b.length ≤ 1000) (k : Nat) (bad w half : Bool) (rr mm W n : Int) (n0 : 0 ≤ n) (n1 : n ≤ 255) :
    aJ Xh (dD Yh 0) ⟨[0,2,5,6],[0,1,2],[]⟩ 3 (NK b n half) (OT b (k:Int) bad w rr mm (OS (-1) W 0 0 0 0 0 0)) .norm (Gy b) (PO b (cK b n half W rr mm k bad) w rr mm):=by
  have hv:=dT hb k
  have hl1:=aK b
  by_cases c:n=137
  · subst c
    by_cases hk:k<b.length
    · have hx:=cZ hk
      by_cases h:aO b k<192
      · cases half
        · have:=KA b hb hl k bad w false rr mm W hv.1 hv.2 (by omega) hx h
          rw [show cK b 137 false W rr mm k bad=⟨⟨27,W,0,dz (aO b k) rr,dw (aO b k) mm,eJ b (dW b k),0,0⟩,dG b (dW b k),dL b (dW b k) (jO b k bad)⟩ by simp [cK,hk,h]]
          exact this
        · have:=Kz b hb hl k bad w true rr mm W hv.1 hv.2 (by omega) hx h
          rw [show cK b 137 true W rr mm k bad=⟨⟨27,16,0,dz (aO b k) rr,dw (aO b k) mm,eJ b (dW b k),0,0⟩,dG b (dW b k),dL b (dW b k) (jO b k bad)⟩ by simp [cK,hk,h]]
          exact this
      · have:=MA b hb hl k bad w half rr mm W hv.1 hv.2 (by omega) hx (by omega)
        rw [show cK b 137 half W rr mm k bad=⟨⟨0,W,dw (aO b k) mm,dz (aO b k) rr,0,0,0,0⟩,aP b k,gD b k bad⟩ by simp [cK,h]]
        exact this
    · have:=Mz b hb hl k bad w half rr mm W hv.1 hv.2 (by omega)
      rw [show cK b 137 half W rr mm k bad=⟨⟨0,W,dw (aO b k) mm,dz (aO b k) rr,0,0,0,0⟩,aP b k,gD b k bad⟩ by simp [cK,hk]]
      exact this
  by_cases c1:n=1
  · subst c1;rw [show cK b 1 half W rr mm k bad=⟨⟨2,W,dw (aO b k) mm,dz (aO b k) rr,0,0,0,0⟩,aP b k,gD b k bad⟩ by simp [cK,pH]];exact Pj b hb hl k bad w half rr mm W hv.1 hv.2
  by_cases c9:n=9
  · subst c9;rw [show cK b 9 half W rr mm k bad=⟨⟨3,W,dw (aO b k) mm,dz (aO b k) rr,0,0,0,0⟩,aP b k,gD b k bad⟩ by simp [cK,pH]];exact Ph b hb hl k bad w half rr mm W hv.1 hv.2
  by_cases VB:n=33
  · subst VB;rw [show cK b 33 half W rr mm k bad=⟨⟨4,W,dw (aO b k) mm,dz (aO b k) rr,0,0,0,0⟩,aP b k,gD b k bad⟩ by simp [cK,pH]];exact NR b hb hl k bad w half rr mm W hv.1 hv.2
  by_cases c41:n=41
  · subst c41;rw [show cK b 41 half W rr mm k bad=⟨⟨5,W,dw (aO b k) mm,dz (aO b k) rr,0,0,0,0⟩,aP b k,gD b k bad⟩ by simp [cK,pH]];exact NQ b hb hl k bad w half rr mm W hv.1 hv.2
  by_cases c49:n=49
  · subst c49;rw [show cK b 49 half W rr mm k bad=⟨⟨6,W,dw (aO b k) mm,dz (aO b k) rr,0,0,0,0⟩,aP b k,gD b k bad⟩ by simp [cK,pH]];exact NP b hb hl k bad w half rr mm W hv.1 hv.2
  by_cases c57:n=57
  · subst c57;rw [show cK b 57 half W rr mm k bad=⟨⟨7,W,dw (aO b k) mm,dz (aO b k) rr,0,0,0,0⟩,aP b k,gD b k bad⟩ by simp [cK,pH]];exact NN b hb hl k bad w half rr mm W hv.1 hv.2
  by_cases c133:n=133
  · subst c133;rw [show cK b 133 half W rr mm k bad=⟨⟨8,W,dw (aO b k) mm,dz (aO b k) rr,0,0,0,0⟩,aP b k,gD b k bad⟩ by simp [cK,pH]];exact Mt b hb hl k bad w half rr mm W hv.1 hv.2
  have hg:∀aa:Int,(aa=129∨aa=193∨aa=211∨aa=247)→aY Xh 36 [ao aa,aj (YO.i8.wrap ((Xf 8 (dz (aO b k) rr)&&&Xf 8 7).toNat:Int))] (aj (kg aa (dz (aO b k) rr%8))):=by
    intro aa h
    rw [Ol]
    exact IX h (by omega) (by omega)
  by_cases c129:n=129
  · subst c129
    rw [oD (.inl rfl)]
    have:=Mw b hb hl k bad w half rr mm W hv.1 hv.2 _ (hg 129 (by decide))
    unfold nY
    rw [if_pos (.inl rfl)]
    exact this
  by_cases c193:n=193
  · subst c193
    have ho:kg 193 (dz (aO b k) rr%8)≠15:=rN (.inl rfl) (by omega) (by omega)
    rw [oD (.inr (.inl rfl))]
    have:=Mv b hb hl k bad w half rr mm W hv.1 hv.2 _ (hg 193 (by decide)) ho
    unfold nY
    rw [if_neg (by rintro (h | h); · omega
                   · exact ho h),if_pos rfl]
    exact this
  by_cases c211:n=211
  · subst c211
    have ho:kg 211 (dz (aO b k) rr%8)≠15:=rN (.inr rfl) (by omega) (by omega)
    rw [oD (.inr (.inr (.inl rfl)))]
    have:=Mu b hb hl k bad w half rr mm W hv.1 hv.2 _ (hg 211 (by decide)) ho
    unfold nY
    rw [if_neg (by rintro (h | h); · omega
                   · exact ho h),if_neg (by decide)]
    exact this
  by_cases c247:n=247
  · subst c247
    rw [oD (.inr (.inr (.inr rfl)))]
    have hq:=hg 247 (by decide)
    by_cases ho:kg 247 (dz (aO b k) rr%8)=15
    · rw [ho] at hq ⊢
      have:=Ku b hb hl k bad w half rr mm W hv.1 hv.2 hq
      unfold nY
      rw [if_pos (.inr rfl)]
      exact this
    · have:=Kv b hb hl k bad w half rr mm W hv.1 hv.2 _ hq ho
      unfold nY
      rw [if_neg (by rintro (h | h); · omega
                     · exact ho h),if_neg (by decide)]
      exact this
  by_cases c199:n=199
  · subst c199;rw [show cK b 199 half W rr mm k bad=⟨⟨1,W,dw (aO b k) mm,0,0,0,eJ b (aP b k),0⟩,dG b (aP b k),dL b (aP b k) (gD b k bad)⟩ by simp [cK]];exact NU b hb hl k bad w half rr mm W hv.1 hv.2
  by_cases c139:n=139
  · subst c139;rw [show cK b 139 half W rr mm k bad=⟨⟨26,W,dz (aO b k) rr,0,dw (aO b k) mm,eJ b (dW b k),0,0⟩,dG b (dW b k),dL b (dW b k) (jO b k bad)⟩ by simp [cK]];exact NW b hb hl k bad w half rr mm W hv.1 hv.2
  by_cases c136:n=136
  · subst c136;rw [show cK b 136 half W rr mm k bad=⟨⟨27,8,0,dz (aO b k) rr,dw (aO b k) mm,eJ b (dW b k),0,0⟩,dG b (dW b k),dL b (dW b k) (jO b k bad)⟩ by simp [cK]];exact NX b hb hl k bad w half rr mm W hv.1 hv.2
  by_cases c235:n=235
  · subst c235;rw [show cK b 235 half W rr mm k bad=⟨⟨28,8,0,0,0,0,x8 b k,0⟩,aP b k,cC b k bad⟩ by simp [cK]];exact NS b hb hl k bad w half rr mm W hv.1 hv.2
  by_cases c233:n=233
  · subst c233;rw [show cK b 233 half W rr mm k bad=⟨⟨28,W,0,0,0,0,eJ b k,0⟩,dG b k,dL b k bad⟩ by simp [cK]];exact NT b hb hl k bad w half rr mm W hv.1 hv.2
  by_cases c195:n=195
  · subst c195;rw [show cK b 195 half W rr mm k bad=⟨⟨30,0,0,0,0,0,0,0⟩,k,bad⟩ by simp [cK]];exact NV b hb hl k bad w half rr mm W hv.1 hv.2
  by_cases R6:n=15
  · subst R6
    rw [show cK b 15 half W rr mm k bad=tp b W rr mm k bad by simp [cK]]
    unfold tp
    by_cases h175:aO b k=175
    · simp only [if_pos h175];exact Kw b hb hl k bad w half rr mm W hv.1 hv.2 h175
    by_cases h5:aO b k=5
    · simp only [if_neg h175,if_pos h5];exact HJ b hb hl k bad w half rr mm W hv.1 hv.2 h5
    by_cases h64:64≤aO b k∧aO b k<80
    · simp only [if_neg h175,if_neg h5,if_pos h64];exact HK b hb hl k bad w half rr mm W hv.1 hv.2 h64.1 h64.2
    by_cases h128:128≤aO b k∧aO b k<144
    · simp only [if_neg h175,if_neg h5,if_neg h64,if_pos h128];exact Ky b hb hl k bad w half rr mm W hv.1 hv.2 h128.1 h128.2
    by_cases h182:aO b k=182
    · simp only [if_neg h175,if_neg h5,if_neg h64,if_neg h128,if_pos h182];exact My b hb hl k bad w half rr mm W hv.1 hv.2 h182
    by_cases h183:aO b k=183
    · simp only [if_neg h175,if_neg h5,if_neg h64,if_neg h128,if_neg h182,if_pos h183];exact Kx b hb hl k bad w half rr mm W hv.1 hv.2 h183
    simp only [if_neg h175,if_neg h5,if_neg h64,if_neg h128,if_neg h182,if_neg h183]
    exact Mx b hb hl k bad w half rr mm W hv.1 hv.2 h175 h5 h182 h183 (by omega) (by omega)
  have e:cK b n half W rr mm k bad=x7 b n W mm k bad:=by
    simp only [cK]
    rw [if_neg c,if_neg (by omega),if_neg (by omega),if_neg c199,if_neg c139,if_neg c136,if_neg c235,if_neg c233,if_neg c195,if_neg R6]
  rw [e]
  unfold x7
  by_cases h112:112≤n∧n<128
  · simp only [if_pos h112];exact Kt b hb hl k bad w half rr mm W hv.1 hv.2 n n0 n1 h112.1 h112.2
  by_cases h184:184≤n∧n<192
  · simp only [if_neg h112,if_pos h184];exact Ks b hb hl k bad w half rr mm W hv.1 hv.2 n n0 n1 h184.1 h184.2
  simp only [if_neg h112,if_neg h184]
  exact Ms b hb hl k bad w half rr mm W hv.1 hv.2 n n0 n1 (by omega) (by omega) c c1 c9 VB c41 c49 c57 c133 c129 c193 c211 c247 c199 c139 c136 c235 c233 c195 R6
abbrev Hj (b:List Int):List D:=NK b (Gz b 0) (aO b 0==102)
abbrev Hk (b:List Int) (w:Bool) (W:Int):List Ob:=OT b (Cv b 0:Int) (KB b 0 false) w (HM b 0) (HO b 0) (OS (-1) W 0 0 0 0 0 0)
abbrev JP (b:List Int) (at_:Nat) (w bad:Bool) (op wd ab ae aa af aq cc:Int):List Ob:=OT b (at_:Int) bad w (HM b 0) (HO b 0) (OS op wd ab ae aa af aq cc)
theorem kO {n0:Nat} {c:Code} {t:List D} {s:List Ob} {ex:Ex} {t':List D} {s':List Ob} (h:cB Xh n0 c t s ex t' s'):cB Xh n0 c t s ex t' s':=h
theorem fY (X0 X2:List D) (b:List Int) (hb:du b) (hl:b.length≤1000):ak Xh 32 [.ptr false 1 0] [au X0,au [aZ 1 (bD b),ao 0,ax false,ax false,aj 0,aj 0],au X2] (.aQ [ao (Gz b 0),ax (aO b 0==102)]) (zW X0 X2 b (Cv b 0) (KB b 0 false) (ku b 0) (HM b 0) (HO b 0)):=
 D2 X0 X2 b hb hl 0 false
theorem BA (b:List Int) (hb:du b) (hl:b.length≤1000) (hw:ku b 0=false) (at_:Nat) (op w ab ae aa af aq cc:Int) (hx:cB Xh 3 (dD Yh 0) (Hj b) (Hk b (ku b 0) 32) .norm (Gy b) (JP b at_ (ku b 0) true op w ab ae aa af aq cc)):aY Xh 21 ([aZ 1 (bD b)]) (.aQ [xD 0 0 0 0 0 0 0 0,ao 0,ao 30]):=by
 have c0:=kO hx
 exact (JT (d:= .aQ [(xD 0 0 0 0 0 0 0 0),ao 0,ao 30]) [.aD _ _ _ _ _ (@fY (zX) ((xC (-1) 32 0 0 0 0 0 0)) b hb hl),tC hw,.dZ ⟨[0,2,5,6,7,8,28],[0,1,2],[]⟩ _ _ _ _ _ _ _ c0,tF,tF,tF,tT,tT]).to (by first|rfl|(simp [wk];done)|(simp [aI,xD];done)|(simp [aI];done))
theorem Bx (b:List Int) (hb:du b) (hl:b.length≤1000) (hw:ku b 0=false) (at_:Nat) (op w ab ae aa af aq cc:Int) (hx:cB Xh 3 (dD Yh 0) (Hj b) (Hk b (ku b 0) 32) .norm (Gy b) (JP b at_ (ku b 0) false op w ab ae aa af aq cc)) (hm:aY Xh 41 [xD op w ab ae aa af aq cc] (ax false)):aY Xh 21 ([aZ 1 (bD b)]) (.aQ [xD 0 0 0 0 0 0 0 0,ao 0,ao 30]):=by
 have c0:=kO hx
 exact (JT (d:= .aQ [(xD 0 0 0 0 0 0 0 0),ao 0,ao 30]) [.aD _ _ _ _ _ (@fY (zX) ((xC (-1) 32 0 0 0 0 0 0)) b hb hl),tC hw,.dZ ⟨[0,2,5,6,7,8,28],[0,1,2],[]⟩ _ _ _ _ _ _ _ c0,tT,tT,aw hm,tT,tF,tT]).to (by first|rfl|(simp [wk];done)|(simp [aI,xD];done)|(simp [aI];done))
theorem Bz (b:List Int) (hb:du b) (hl:b.length≤1000) (hw:ku b 0=false) (at_:Nat) (op w ab ae aa af aq cc:Int) (hx:cB Xh 3 (dD Yh 0) (Hj b) (Hk b (ku b 0) 32) .norm (Gy b) (JP b at_ (ku b 0) false op w ab ae aa af aq cc)) (hm:aY Xh 41 [xD op w ab ae aa af aq cc] (ax true)) (own:List Int) (TM:aY Xh 42 [xD op w ab ae aa af aq cc] (.aQ [aZ 1 (bD own),ao 0])) (he:(((bD own).length:Int)==(at_:Int))=false):aY Xh 21 ([aZ 1 (bD b)]) (.aQ [xD 0 0 0 0 0 0 0 0,ao 0,ao 30]):=by
 have c0:=kO hx
 exact (JT (d:= .aQ [(xD 0 0 0 0 0 0 0 0),ao 0,ao 30]) ([.aD _ _ _ _ _ (@fY (zX) ((xC (-1) 32 0 0 0 0 0 0)) b hb hl),tC hw,.dZ ⟨[0,2,5,6,7,8,28],[0,1,2],[]⟩ _ _ _ _ _ _ _ c0,tT,tT,aw hm,tT,tF,tF,aw TM]++Xg 10 (tC (eF (nt he)))++ [tC (nt he),tT])).to (by first|rfl|(simp [wk];done)|(simp [aI,xD];done)|(simp [aI];done))
theorem Bw (b:List Int) (hb:du b) (hl:b.length≤1000) (hw:ku b 0=false) (at_:Nat) (op w ab ae aa af aq cc:Int) (hx:cB Xh 3 (dD Yh 0) (Hj b) (Hk b (ku b 0) 32) .norm (Gy b) (JP b at_ (ku b 0) false op w ab ae aa af aq cc)) (hm:aY Xh 41 [xD op w ab ae aa af aq cc] (ax true)) (own:List Int) (TM:aY Xh 42 [xD op w ab ae aa af aq cc] (.aQ [aZ 1 (bD own),ao 0])) (ha:(at_:Int)≤((bD b).length:Int)) (he:(((bD own).length:Int)==(at_:Int))=true) (hs:((gk (bD own)).toList==(gk (Yz (Xi (at_:Int)) (bD b))).toList)=false):aY Xh 21 ([aZ 1 (bD b)]) (.aQ [xD 0 0 0 0 0 0 0 0,ao 0,ao 30]):=by
 have c0:=kO hx
 exact (JT (d:= .aQ [(xD 0 0 0 0 0 0 0 0),ao 0,ao 30]) ([.aD _ _ _ _ _ (@fY (zX) ((xC (-1) 32 0 0 0 0 0 0)) b hb hl),tC hw,.dZ ⟨[0,2,5,6,7,8,28],[0,1,2],[]⟩ _ _ _ _ _ _ _ c0,tT,tT,aw hm,tT,tF,tF,aw TM,tC (eF (nt he)),tC (eF (nt he)),tC (v:=true) (@B0 own)]++Xg 6 (tC (eF (nt he)))++ [.dP (decide (0≤(↑at_:Int)∧(↑at_:Int)≤(↑(Xj (bD b)):Int))) true (by ((try simp only [aK,cY] at*);(try unfold cV at*);omega)),tC (eF (nt he)),tC (v:=true) (@jX b (Xi (↑at_:Int))),tC (eF (nt he)),tC (nt he),tC (nt hs)])).to (by first|rfl|(simp [wk];done)|(simp [aI,xD];done)|(simp [aI];done))
theorem Gb (b:List Int) (hb:du b) (hl:b.length≤1000) (hw:ku b 0=false) (at_:Nat) (op w ab ae aa af aq cc:Int) (hx:cB Xh 3 (dD Yh 0) (Hj b) (Hk b (ku b 0) 32) .norm (Gy b) (JP b at_ (ku b 0) false op w ab ae aa af aq cc)) (hm:aY Xh 41 [xD op w ab ae aa af aq cc] (ax true)) (own:List Int) (TM:aY Xh 42 [xD op w ab ae aa af aq cc] (.aQ [aZ 1 (bD own),ao 0])) (ha:(at_:Int)≤((bD b).length:Int)) (he:(((bD own).length:Int)==(at_:Int))=true) (hs:((gk (bD own)).toList==(gk (Yz (Xi (at_:Int)) (bD b))).toList)=true):aY Xh 21 ([aZ 1 (bD b)]) (.aQ [xD op w ab ae aa af aq cc,ao (at_:Int),ao 0]):=by
 have c0:=kO hx
 exact (JT (d:= .aQ [(xD op w ab ae aa af aq cc),ao (↑at_:Int),ao 0]) ([.aD _ _ _ _ _ (@fY (zX) ((xC (-1) 32 0 0 0 0 0 0)) b hb hl),tC hw,.dZ ⟨[0,2,5,6,7,8,28],[0,1,2],[]⟩ _ _ _ _ _ _ _ c0,tT,tT,aw hm,tT,tF,tF,aw TM,tC (eF (nt he)),tC (eF (nt he)),tC (v:=true) (@B0 own)]++Xg 6 (tC (eF (nt he)))++ [.dP (decide (0≤(↑at_:Int)∧(↑at_:Int)≤(↑(Xj (bD b)):Int))) true (by ((try simp only [aK,cY] at*);(try unfold cV at*);omega)),tC (eF (nt he)),tC (v:=true) (@jX b (Xi (↑at_:Int))),tC (eF (nt he)),tC (nt he),tC (nt hs)])).to (by first|rfl|(simp [wk];done)|(simp [aI,xD];done)|(simp [aI];done))
theorem Bv (b:List Int) (hb:du b) (hl:b.length≤1000) (hw:ku b 0=true) (at_:Nat) (op w ab ae aa af aq cc:Int) (hx:cB Xh 3 (dD Yh 0) (Hj b) (Hk b (ku b 0) 64) .norm (Gy b) (JP b at_ (ku b 0) true op w ab ae aa af aq cc)):aY Xh 21 ([aZ 1 (bD b)]) (.aQ [xD 0 0 0 0 0 0 0 0,ao 0,ao 30]):=by
 have c0:=kO hx
 exact (JT (d:= .aQ [(xD 0 0 0 0 0 0 0 0),ao 0,ao 30]) [.aD _ _ _ _ _ (@fY (zX) ((xC (-1) 32 0 0 0 0 0 0)) b hb hl),tC hw,.dZ ⟨[0,2,5,6,7,8,28],[0,1,2],[]⟩ _ _ _ _ _ _ _ c0,tF,tF,tF,tT,tT]).to (by first|rfl|(simp [wk];done)|(simp [aI,xD];done)|(simp [aI];done))
theorem Bt (b:List Int) (hb:du b) (hl:b.length≤1000) (hw:ku b 0=true) (at_:Nat) (op w ab ae aa af aq cc:Int) (hx:cB Xh 3 (dD Yh 0) (Hj b) (Hk b (ku b 0) 64) .norm (Gy b) (JP b at_ (ku b 0) false op w ab ae aa af aq cc)) (hm:aY Xh 41 [xD op w ab ae aa af aq cc] (ax false)):aY Xh 21 ([aZ 1 (bD b)]) (.aQ [xD 0 0 0 0 0 0 0 0,ao 0,ao 30]):=by
 have c0:=kO hx
 exact (JT (d:= .aQ [(xD 0 0 0 0 0 0 0 0),ao 0,ao 30]) [.aD _ _ _ _ _ (@fY (zX) ((xC (-1) 32 0 0 0 0 0 0)) b hb hl),tC hw,.dZ ⟨[0,2,5,6,7,8,28],[0,1,2],[]⟩ _ _ _ _ _ _ _ c0,tT,tT,aw hm,tT,tF,tT]).to (by first|rfl|(simp [wk];done)|(simp [aI,xD];done)|(simp [aI];done))
theorem Bu (b:List Int) (hb:du b) (hl:b.length≤1000) (hw:ku b 0=true) (at_:Nat) (op w ab ae aa af aq cc:Int) (hx:cB Xh 3 (dD Yh 0) (Hj b) (Hk b (ku b 0) 64) .norm (Gy b) (JP b at_ (ku b 0) false op w ab ae aa af aq cc)) (hm:aY Xh 41 [xD op w ab ae aa af aq cc] (ax true)) (own:List Int) (TM:aY Xh 42 [xD op w ab ae aa af aq cc] (.aQ [aZ 1 (bD own),ao 0])) (he:(((bD own).length:Int)==(at_:Int))=false):aY Xh 21 ([aZ 1 (bD b)]) (.aQ [xD 0 0 0 0 0 0 0 0,ao 0,ao 30]):=by
 have c0:=kO hx
 exact (JT (d:= .aQ [(xD 0 0 0 0 0 0 0 0),ao 0,ao 30]) ([.aD _ _ _ _ _ (@fY (zX) ((xC (-1) 32 0 0 0 0 0 0)) b hb hl),tC hw,.dZ ⟨[0,2,5,6,7,8,28],[0,1,2],[]⟩ _ _ _ _ _ _ _ c0,tT,tT,aw hm,tT,tF,tF,aw TM]++Xg 10 (tC (eF (nt he)))++ [tC (nt he),tT])).to (by first|rfl|(simp [wk];done)|(simp [aI,xD];done)|(simp [aI];done))
theorem Bs (b:List Int) (hb:du b) (hl:b.length≤1000) (hw:ku b 0=true) (at_:Nat) (op w ab ae aa af aq cc:Int) (hx:cB Xh 3 (dD Yh 0) (Hj b) (Hk b (ku b 0) 64) .norm (Gy b) (JP b at_ (ku b 0) false op w ab ae aa af aq cc)) (hm:aY Xh 41 [xD op w ab ae aa af aq cc] (ax true)) (own:List Int) (TM:aY Xh 42 [xD op w ab ae aa af aq cc] (.aQ [aZ 1 (bD own),ao 0])) (ha:(at_:Int)≤((bD b).length:Int)) (he:(((bD own).length:Int)==(at_:Int))=true) (hs:((gk (bD own)).toList==(gk (Yz (Xi (at_:Int)) (bD b))).toList)=false):aY Xh 21 ([aZ 1 (bD b)]) (.aQ [xD 0 0 0 0 0 0 0 0,ao 0,ao 30]):=by
 have c0:=kO hx
 exact (JT (d:= .aQ [(xD 0 0 0 0 0 0 0 0),ao 0,ao 30]) ([.aD _ _ _ _ _ (@fY (zX) ((xC (-1) 32 0 0 0 0 0 0)) b hb hl),tC hw,.dZ ⟨[0,2,5,6,7,8,28],[0,1,2],[]⟩ _ _ _ _ _ _ _ c0,tT,tT,aw hm,tT,tF,tF,aw TM,tC (eF (nt he)),tC (eF (nt he)),tC (v:=true) (@B0 own)]++Xg 6 (tC (eF (nt he)))++ [.dP (decide (0≤(↑at_:Int)∧(↑at_:Int)≤(↑(Xj (bD b)):Int))) true (by ((try simp only [aK,cY] at*);(try unfold cV at*);omega)),tC (eF (nt he)),tC (v:=true) (@jX b (Xi (↑at_:Int))),tC (eF (nt he)),tC (nt he),tC (nt hs)])).to (by first|rfl|(simp [wk];done)|(simp [aI,xD];done)|(simp [aI];done))
theorem Ga (b:List Int) (hb:du b) (hl:b.length≤1000) (hw:ku b 0=true) (at_:Nat) (op w ab ae aa af aq cc:Int) (hx:cB Xh 3 (dD Yh 0) (Hj b) (Hk b (ku b 0) 64) .norm (Gy b) (JP b at_ (ku b 0) false op w ab ae aa af aq cc)) (hm:aY Xh 41 [xD op w ab ae aa af aq cc] (ax true)) (own:List Int) (TM:aY Xh 42 [xD op w ab ae aa af aq cc] (.aQ [aZ 1 (bD own),ao 0])) (ha:(at_:Int)≤((bD b).length:Int)) (he:(((bD own).length:Int)==(at_:Int))=true) (hs:((gk (bD own)).toList==(gk (Yz (Xi (at_:Int)) (bD b))).toList)=true):aY Xh 21 ([aZ 1 (bD b)]) (.aQ [xD op w ab ae aa af aq cc,ao (at_:Int),ao 0]):=by
 have c0:=kO hx
 exact (JT (d:= .aQ [(xD op w ab ae aa af aq cc),ao (↑at_:Int),ao 0]) ([.aD _ _ _ _ _ (@fY (zX) ((xC (-1) 32 0 0 0 0 0 0)) b hb hl),tC hw,.dZ ⟨[0,2,5,6,7,8,28],[0,1,2],[]⟩ _ _ _ _ _ _ _ c0,tT,tT,aw hm,tT,tF,tF,aw TM,tC (eF (nt he)),tC (eF (nt he)),tC (v:=true) (@B0 own)]++Xg 6 (tC (eF (nt he)))++ [.dP (decide (0≤(↑at_:Int)∧(↑at_:Int)≤(↑(Xj (bD b)):Int))) true (by ((try simp only [aK,cY] at*);(try unfold cV at*);omega)),tC (eF (nt he)),tC (v:=true) (@jX b (Xi (↑at_:Int))),tC (eF (nt he)),tC (nt he),tC (nt hs)])).to (by first|rfl|(simp [wk];done)|(simp [aI,xD];done)|(simp [aI];done))
theorem dK (r m:Int) (r0:0≤r) (r1:r≤15) (m0:0≤m) (m1:m≤15) (wide al:Bool) (hn:bX wide r m al=true):aY Xh 67 ([ax wide,aj r,aj m,ax al]) (.bc .tight 1 [av (dm wide r m)]):=by
 cases wide
 ·rcases cQ (decide (r<8)) with h0|h0
  ·rcases cQ (decide (m<8)) with h1|h1
   ·cases al
    ·exact (xq (d:= .bc .tight 0 []) [tF,tC (bJ 7 h0),tC (bJ 7 h1),tT,tT,tT,tT]).to (by (simp only [aI,cT,D.int.injEq,D.bc.injEq,XU,ev,fS,bF,aU,dm,true_or];(try simp only [bP,cq,bX,XM,Yc] at*);first|omega|(simp;omega)|(exfalso;simp at*;omega)))
    exact (xq (d:= .bc .tight 1 [av 64]) [tF,tC (bJ 7 h0),tC (bJ 7 h1),tT,tT,tT,tF]).to (by (simp only [aI,cT,D.int.injEq,D.bc.injEq,XU,ev,fS,bF,aU,dm,true_or];(try simp only [bP,cq,bX,XM,Yc] at*);first|omega|(simp;omega)|(exfalso;simp at*;omega)))
   exact (xq (d:= .bc .tight 1 [av 65]) [tF,tC (bJ 7 h0),tC (bJ 7 h1),tF,tF,tF,tF]).to (by (simp only [aI,cT,D.int.injEq,D.bc.injEq,XU,ev,fS,bF,aU,dm,true_or];(try simp only [bP,cq,bX,XM,Yc] at*);first|omega|(simp;omega)|(exfalso;simp at*;omega)))
  rcases cQ (decide (m<8)) with h2|h2
  ·exact (xq (d:= .bc .tight 1 [av 68]) [tF,tC (bJ 7 h0),tC (bJ 7 h2),tF,tF,tF,tF]).to (by (simp only [aI,cT,D.int.injEq,D.bc.injEq,XU,ev,fS,bF,aU,dm,true_or];(try simp only [bP,cq,bX,XM,Yc] at*);first|omega|(simp;omega)|(exfalso;simp at*;omega)))
  exact (xq (d:= .bc .tight 1 [av 69]) [tF,tC (bJ 7 h0),tC (bJ 7 h2),tF,tF,tF,tF]).to (by (simp only [aI,cT,D.int.injEq,D.bc.injEq,XU,ev,fS,bF,aU,dm,true_or];(try simp only [bP,cq,bX,XM,Yc] at*);first|omega|(simp;omega)|(exfalso;simp at*;omega)))
 rcases cQ (decide (r<8)) with h3|h3
 ·rcases cQ (decide (m<8)) with h4|h4
  ·exact (xq (d:= .bc .tight 1 [av 72]) [tT,tC (bJ 7 h3),tC (bJ 7 h4),tF,tF,tF,tF]).to (by (simp only [aI,cT,D.int.injEq,D.bc.injEq,XU,ev,fS,bF,aU,dm,true_or];(try simp only [bP,cq,bX,XM,Yc] at*);first|omega|(simp;omega)|(exfalso;simp at*;omega)))
  exact (xq (d:= .bc .tight 1 [av 73]) [tT,tC (bJ 7 h3),tC (bJ 7 h4),tF,tF,tF,tF]).to (by (simp only [aI,cT,D.int.injEq,D.bc.injEq,XU,ev,fS,bF,aU,dm,true_or];(try simp only [bP,cq,bX,XM,Yc] at*);first|omega|(simp;omega)|(exfalso;simp at*;omega)))
 rcases cQ (decide (m<8)) with h5|h5
 ·exact (xq (d:= .bc .tight 1 [av 76]) [tT,tC (bJ 7 h3),tC (bJ 7 h5),tF,tF,tF,tF]).to (by (simp only [aI,cT,D.int.injEq,D.bc.injEq,XU,ev,fS,bF,aU,dm,true_or];(try simp only [bP,cq,bX,XM,Yc] at*);first|omega|(simp;omega)|(exfalso;simp at*;omega)))
 exact (xq (d:= .bc .tight 1 [av 77]) [tT,tC (bJ 7 h3),tC (bJ 7 h5),tF,tF,tF,tF]).to (by (simp only [aI,cT,D.int.injEq,D.bc.injEq,XU,ev,fS,bF,aU,dm,true_or];(try simp only [bP,cq,bX,XM,Yc] at*);first|omega|(simp;omega)|(exfalso;simp at*;omega)))
theorem dk (r m:Int) (r0:0≤r) (r1:r≤15) (m0:0≤m) (m1:m≤15) (wide al:Bool) (hn:bX wide r m al=false):aY Xh 67 ([ax wide,aj r,aj m,ax al]) (.bc .tight 1 []):=by
 cases wide
 ·rcases cQ (decide (r<8)) with h0|h0
  ·rcases cQ (decide (m<8)) with h1|h1
   ·cases al
    ·exact (xq (d:= .bc .tight 0 []) [tF,tC (bJ 7 h0),tC (bJ 7 h1),tT,tT,tT,tT]).to (by (simp [aI,cT];done))
    exact (xq (d:= .bc .tight 1 [av 64]) [tF,tC (bJ 7 h0),tC (bJ 7 h1),tT,tT,tT,tF]).to (by (exfalso;simp [bX] at*;done))
   exact (xq (d:= .bc .tight 1 [av 65]) [tF,tC (bJ 7 h0),tC (bJ 7 h1),tF,tF,tF,tF]).to (by (simp only [aI,cT,D.int.injEq,D.bc.injEq,XU,ev,fS,bF,aU,dm,true_or];(try simp only [bP,cq,bX,XM,Yc] at*);first|omega|(simp;omega)|(exfalso;simp at*;omega)))
  rcases cQ (decide (m<8)) with h2|h2
  ·exact (xq (d:= .bc .tight 1 [av 68]) [tF,tC (bJ 7 h0),tC (bJ 7 h2),tF,tF,tF,tF]).to (by (simp only [aI,cT,D.int.injEq,D.bc.injEq,XU,ev,fS,bF,aU,dm,true_or];(try simp only [bP,cq,bX,XM,Yc] at*);first|omega|(simp;omega)|(exfalso;simp at*;omega)))
  exact (xq (d:= .bc .tight 1 [av 69]) [tF,tC (bJ 7 h0),tC (bJ 7 h2),tF,tF,tF,tF]).to (by (simp only [aI,cT,D.int.injEq,D.bc.injEq,XU,ev,fS,bF,aU,dm,true_or];(try simp only [bP,cq,bX,XM,Yc] at*);first|omega|(simp;omega)|(exfalso;simp at*;omega)))
 rcases cQ (decide (r<8)) with h3|h3
 ·rcases cQ (decide (m<8)) with h4|h4
  ·exact (xq (d:= .bc .tight 1 [av 72]) [tT,tC (bJ 7 h3),tC (bJ 7 h4),tF,tF,tF,tF]).to (by (exfalso;simp [bX] at*;done))
  exact (xq (d:= .bc .tight 1 [av 73]) [tT,tC (bJ 7 h3),tC (bJ 7 h4),tF,tF,tF,tF]).to (by (simp only [aI,cT,D.int.injEq,D.bc.injEq,XU,ev,fS,bF,aU,dm,true_or];(try simp only [bP,cq,bX,XM,Yc] at*);first|omega|(simp;omega)|(exfalso;simp at*;omega)))
 rcases cQ (decide (m<8)) with h5|h5
 ·exact (xq (d:= .bc .tight 1 [av 76]) [tT,tC (bJ 7 h3),tC (bJ 7 h5),tF,tF,tF,tF]).to (by (simp only [aI,cT,D.int.injEq,D.bc.injEq,XU,ev,fS,bF,aU,dm,true_or];(try simp only [bP,cq,bX,XM,Yc] at*);first|omega|(simp;omega)|(exfalso;simp at*;omega)))
 exact (xq (d:= .bc .tight 1 [av 77]) [tT,tC (bJ 7 h3),tC (bJ 7 h5),tF,tF,tF,tF]).to (by (simp only [aI,cT,D.int.injEq,D.bc.injEq,XU,ev,fS,bF,aU,dm,true_or];(try simp only [bP,cq,bX,XM,Yc] at*);first|omega|(simp;omega)|(exfalso;simp at*;omega)))
theorem gC (r b af:Int) (r0:0≤r) (r1:r≤15) (m0:0≤b) (m1:b≤15) (h0: -2147483648≤af) (h1:af≤2147483647) (hb:decide (b%8=4)=true):aY Xh 70 ([aj r,aj b,ao af]) (aZ 1 [av (128+8*(r%8)+b%8),av 36,av (af%256),av (af / 256%256),av (af / 65536%256),av (af / 16777216%256)]):=by
 have c0:= @dV af
 exact (PT (d:= .bc (.fresh 1) 1 [av (YO.wrap YO.u8 (YO.i64.wrap (YO.i64.wrap (128+YO.i64.wrap (8*YO.i64.wrap (YO.wrap YO.i8 (↑(Xm (Xf (8:Nat) r&&&Xf (8:Nat) 7)):Int))))+YO.i64.wrap (YO.wrap YO.i8 (↑(Xm (Xf (8:Nat) b&&&Xf (8:Nat) 7)):Int))))),av 36,av (af%256),av (af / 256%256),av (af / 65536%256),av (af / 16777216%256)]) [tC (cP 4 true (eq_of_beq (@LL b hb))),bQ 2,aw c0,bQ 6]).to (by simp only [aI,cT,D.int.injEq,D.bc.injEq,XU,ev,fS,gp,bF,dJ,aU,dt,true_or];(simp;omega))
theorem gB (r b af:Int) (r0:0≤r) (r1:r≤15) (m0:0≤b) (m1:b≤15) (h0: -2147483648≤af) (h1:af≤2147483647) (hb:decide (b%8=4)=false):aY Xh 70 ([aj r,aj b,ao af]) (aZ 1 [av (128+8*(r%8)+b%8),av (af%256),av (af / 256%256),av (af / 65536%256),av (af / 16777216%256)]):=by
 have c0:= @dV af
 exact (PT (d:= .bc (.fresh 1) 1 [av (YO.wrap YO.u8 (YO.i64.wrap (YO.i64.wrap (128+YO.i64.wrap (8*YO.i64.wrap (YO.wrap YO.i8 (↑(Xm (Xf (8:Nat) r&&&Xf (8:Nat) 7)):Int))))+YO.i64.wrap (YO.wrap YO.i8 (↑(Xm (Xf (8:Nat) b&&&Xf (8:Nat) 7)):Int))))),av (af%256),av (af / 256%256),av (af / 65536%256),av (af / 16777216%256)]) [tC (@LM b hb),aw c0,bQ 5]).to (by simp only [aI,cT,D.int.injEq,D.bc.injEq,XU,ev,fS,gp,bF,dJ,aU,dt,true_or];(simp;omega))
def ju (Q3:Int):Prop:= ∀(w ab ae aa af aq cc:Int) (d0:0≤ab) (d1:ab≤15) (s0:0≤ae) (s1:ae≤15) (b0:0≤aa) (b1:aa≤15) (p0: -2147483648≤af) (p1:af≤2147483647) (i0: -2147483648≤aq) (i1:aq≤2147483647) (c0:0≤cc) (c1:cc≤15) (hm:a8 Q3 w ab ae aa af aq cc=true),aY Xh 42 ([xD Q3 w ab ae aa af aq cc]) (.aQ [aZ 1 (bD (aN Q3 w ab ae aa af aq cc)),ao 0])
theorem yi:ju 0:=by
 intro w ab ae aa af aq cc d0 d1 s0 s1 b0 b1 p0 p1 i0 i1 c0 c1 hm
 have c0:= @cG 0 w ab ae aa af aq cc
 rw [hm] at c0
 have c1:= @aR 0
 rcases cQ (bX (w==64) ae ab false) with h2|h2
 ·have c3:= @dK ae ab s0 s1 d0 d1 (w==64) false h2
  generalize g5:dm (w==64) ae ab=r4 at c3
  have c6:= @bp ae ab s0 s1 d0 d1
  generalize g8:bC ae ab=r7 at c6
  exact (gh (d:= .aQ [.bc (.fresh 1) 1 [av r4,av 137,av r7],ao 0]) [aw c0,tF,aW,tT,tF,aw c1,tT,aw c3,aw c6,bQ 3]).to (by (subst_vars;(try simp only [aX] at*);(try simp only [ck] at h);(try simp only [bP,cq] at*);simp_all [aI,cT,aN,show aF 0=1 from rfl,bD,bw,bI,bf,bF,aU,bq,bW];done))
 have c9:= @dk ae ab s0 s1 d0 d1 (w==64) false h2
 have QS:= @bp ae ab s0 s1 d0 d1
 generalize g12:bC ae ab=Rf at QS
 exact (gh (d:= .aQ [.bc (.fresh 1) 1 [av 137,av Rf],ao 0]) [aw c0,tF,aW,tT,tF,aw c1,tT,aw c9,aw QS,bQ 2]).to (by (subst_vars;(try simp only [aX] at*);(try simp only [ck] at h);(try simp only [bP,cq] at*);simp_all [aI,cT,aN,show aF 0=1 from rfl,bD,bw,bI,bf,bF,aU,bq,bW];done))
theorem yg:ju 2:=by
 intro w ab ae aa af aq cc d0 d1 s0 s1 b0 b1 p0 p1 i0 i1 c0 c1 hm
 have c0:= @cG 2 w ab ae aa af aq cc
 rw [hm] at c0
 have c1:= @aR 2
 rcases cQ (bX (w==64) ae ab false) with h2|h2
 ·have c3:= @dK ae ab s0 s1 d0 d1 (w==64) false h2
  generalize g5:dm (w==64) ae ab=r4 at c3
  have c6:= @bp ae ab s0 s1 d0 d1
  generalize g8:bC ae ab=r7 at c6
  exact (gh (d:= .aQ [.bc (.fresh 1) 1 [av r4,av 1,av r7],ao 0]) [aw c0,tF,aW,tF,tT,tF,aw c1,tT,aw c3,aw c6,bQ 3]).to (by (subst_vars;(try simp only [aX] at*);(try simp only [ck] at h);(try simp only [bP,cq] at*);simp_all [aI,cT,aN,show aF 2=1 from rfl,bD,bw,bI,bf,bF,aU,bq,bW];done))
 have c9:= @dk ae ab s0 s1 d0 d1 (w==64) false h2
 have QS:= @bp ae ab s0 s1 d0 d1
 generalize g12:bC ae ab=Rf at QS
 exact (gh (d:= .aQ [.bc (.fresh 1) 1 [av 1,av Rf],ao 0]) [aw c0,tF,aW,tF,tT,tF,aw c1,tT,aw c9,aw QS,bQ 2]).to (by (subst_vars;(try simp only [aX] at*);(try simp only [ck] at h);(try simp only [bP,cq] at*);simp_all [aI,cT,aN,show aF 2=1 from rfl,bD,bw,bI,bf,bF,aU,bq,bW];done))
theorem yf:ju 3:=by
 intro w ab ae aa af aq cc d0 d1 s0 s1 b0 b1 p0 p1 i0 i1 c0 c1 hm
 have c0:= @cG 3 w ab ae aa af aq cc
 rw [hm] at c0
 have c1:= @aR 3
 rcases cQ (bX (w==64) ae ab false) with h2|h2
 ·have c3:= @dK ae ab s0 s1 d0 d1 (w==64) false h2
  generalize g5:dm (w==64) ae ab=r4 at c3
  have c6:= @bp ae ab s0 s1 d0 d1
  generalize g8:bC ae ab=r7 at c6
  exact (gh (d:= .aQ [.bc (.fresh 1) 1 [av r4,av 9,av r7],ao 0]) [aw c0,tF,aW,tF,tF,tT,tF,aw c1,tT,aw c3,aw c6,bQ 3]).to (by (subst_vars;(try simp only [aX] at*);(try simp only [ck] at h);(try simp only [bP,cq] at*);simp_all [aI,cT,aN,show aF 3=1 from rfl,bD,bw,bI,bf,bF,aU,bq,bW];done))
 have c9:= @dk ae ab s0 s1 d0 d1 (w==64) false h2
 have QS:= @bp ae ab s0 s1 d0 d1
 generalize g12:bC ae ab=Rf at QS
 exact (gh (d:= .aQ [.bc (.fresh 1) 1 [av 9,av Rf],ao 0]) [aw c0,tF,aW,tF,tF,tT,tF,aw c1,tT,aw c9,aw QS,bQ 2]).to (by (subst_vars;(try simp only [aX] at*);(try simp only [ck] at h);(try simp only [bP,cq] at*);simp_all [aI,cT,aN,show aF 3=1 from rfl,bD,bw,bI,bf,bF,aU,bq,bW];done))
theorem ye:ju 4:=by
 intro w ab ae aa af aq cc d0 d1 s0 s1 b0 b1 p0 p1 i0 i1 c0 c1 hm
 have c0:= @cG 4 w ab ae aa af aq cc
 rw [hm] at c0
 have c1:= @aR 4
 rcases cQ (bX (w==64) ae ab false) with h2|h2
 ·have c3:= @dK ae ab s0 s1 d0 d1 (w==64) false h2
  generalize g5:dm (w==64) ae ab=r4 at c3
  have c6:= @bp ae ab s0 s1 d0 d1
  generalize g8:bC ae ab=r7 at c6
  exact (gh (d:= .aQ [.bc (.fresh 1) 1 [av r4,av 33,av r7],ao 0]) [aw c0,tF,aW,tF,tF,tF,tT,tF,aw c1,tT,aw c3,aw c6,bQ 3]).to (by (subst_vars;(try simp only [aX] at*);(try simp only [ck] at h);(try simp only [bP,cq] at*);simp_all [aI,cT,aN,show aF 4=1 from rfl,bD,bw,bI,bf,bF,aU,bq,bW];done))
 have c9:= @dk ae ab s0 s1 d0 d1 (w==64) false h2
 have QS:= @bp ae ab s0 s1 d0 d1
 generalize g12:bC ae ab=Rf at QS
 exact (gh (d:= .aQ [.bc (.fresh 1) 1 [av 33,av Rf],ao 0]) [aw c0,tF,aW,tF,tF,tF,tT,tF,aw c1,tT,aw c9,aw QS,bQ 2]).to (by (subst_vars;(try simp only [aX] at*);(try simp only [ck] at h);(try simp only [bP,cq] at*);simp_all [aI,cT,aN,show aF 4=1 from rfl,bD,bw,bI,bf,bF,aU,bq,bW];done))
theorem yd:ju 5:=by
 intro w ab ae aa af aq cc d0 d1 s0 s1 b0 b1 p0 p1 i0 i1 c0 c1 hm
 have c0:= @cG 5 w ab ae aa af aq cc
 rw [hm] at c0
 have c1:= @aR 5
 rcases cQ (bX (w==64) ae ab false) with h2|h2
 ·have c3:= @dK ae ab s0 s1 d0 d1 (w==64) false h2
  generalize g5:dm (w==64) ae ab=r4 at c3
  have c6:= @bp ae ab s0 s1 d0 d1
  generalize g8:bC ae ab=r7 at c6
  exact (gh (d:= .aQ [.bc (.fresh 1) 1 [av r4,av 41,av r7],ao 0]) [aw c0,tF,aW,tF,tF,tF,tF,tT,tF,aw c1,tT,aw c3,aw c6,bQ 3]).to (by (subst_vars;(try simp only [aX] at*);(try simp only [ck] at h);(try simp only [bP,cq] at*);simp_all [aI,cT,aN,show aF 5=1 from rfl,bD,bw,bI,bf,bF,aU,bq,bW];done))
 have c9:= @dk ae ab s0 s1 d0 d1 (w==64) false h2
 have QS:= @bp ae ab s0 s1 d0 d1
 generalize g12:bC ae ab=Rf at QS
 exact (gh (d:= .aQ [.bc (.fresh 1) 1 [av 41,av Rf],ao 0]) [aw c0,tF,aW,tF,tF,tF,tF,tT,tF,aw c1,tT,aw c9,aw QS,bQ 2]).to (by (subst_vars;(try simp only [aX] at*);(try simp only [ck] at h);(try simp only [bP,cq] at*);simp_all [aI,cT,aN,show aF 5=1 from rfl,bD,bw,bI,bf,bF,aU,bq,bW];done))
theorem yc:ju 6:=by
 intro w ab ae aa af aq cc d0 d1 s0 s1 b0 b1 p0 p1 i0 i1 c0 c1 hm
 have c0:= @cG 6 w ab ae aa af aq cc
 rw [hm] at c0
 have c1:= @aR 6
 let E1:EL:= [aw c0,tF,aW,tF,tF,tF,tF,tF,tT,tF,aw c1,tT]
 rcases cQ (bX (w==64) ae ab false) with h2|h2
 ·have c3:= @dK ae ab s0 s1 d0 d1 (w==64) false h2
  generalize g5:dm (w==64) ae ab=r4 at c3
  have c6:= @bp ae ab s0 s1 d0 d1
  generalize g8:bC ae ab=r7 at c6
  exact (gh (d:= .aQ [.bc (.fresh 1) 1 [av r4,av 49,av r7],ao 0]) (E1++ [aw c3,aw c6,bQ 3])).to (by clear E1;(subst_vars;(try simp only [aX] at*);(try simp only [ck] at h);(try simp only [bP,cq] at*);simp_all [aI,cT,aN,show aF 6=1 from rfl,bD,bw,bI,bf,bF,aU,bq,bW];done))
 have c9:= @dk ae ab s0 s1 d0 d1 (w==64) false h2
 have QS:= @bp ae ab s0 s1 d0 d1
 generalize g12:bC ae ab=Rf at QS
 exact (gh (d:= .aQ [.bc (.fresh 1) 1 [av 49,av Rf],ao 0]) (E1++ [aw c9,aw QS,bQ 2])).to (by clear E1;(subst_vars;(try simp only [aX] at*);(try simp only [ck] at h);(try simp only [bP,cq] at*);simp_all [aI,cT,aN,show aF 6=1 from rfl,bD,bw,bI,bf,bF,aU,bq,bW];done))
theorem yb:ju 7:=by
 intro w ab ae aa af aq cc d0 d1 s0 s1 b0 b1 p0 p1 i0 i1 c0 c1 hm
 have c0:= @cG 7 w ab ae aa af aq cc
 rw [hm] at c0
 have c1:= @aR 7
 let E1:EL:=([aw c0,tF,aW]++bK 8 64++ [aw c1,tT])
 rcases cQ (bX (w==64) ae ab false) with h2|h2
 ·have c3:= @dK ae ab s0 s1 d0 d1 (w==64) false h2
  generalize g5:dm (w==64) ae ab=r4 at c3
  have c6:= @bp ae ab s0 s1 d0 d1
  generalize g8:bC ae ab=r7 at c6
  exact (gh (d:= .aQ [.bc (.fresh 1) 1 [av r4,av 57,av r7],ao 0]) (E1++ [aw c3,aw c6,bQ 3])).to (by clear E1;(subst_vars;(try simp only [aX] at*);(try simp only [ck] at h);(try simp only [bP,cq] at*);simp_all [aI,cT,aN,show aF 7=1 from rfl,bD,bw,bI,bf,bF,aU,bq,bW];done))
 have c9:= @dk ae ab s0 s1 d0 d1 (w==64) false h2
 have QS:= @bp ae ab s0 s1 d0 d1
 generalize g12:bC ae ab=Rf at QS
 exact (gh (d:= .aQ [.bc (.fresh 1) 1 [av 57,av Rf],ao 0]) (E1++ [aw c9,aw QS,bQ 2])).to (by clear E1;(subst_vars;(try simp only [aX] at*);(try simp only [ck] at h);(try simp only [bP,cq] at*);simp_all [aI,cT,aN,show aF 7=1 from rfl,bD,bw,bI,bf,bF,aU,bq,bW];done))
theorem ya:ju 8:=by
 intro w ab ae aa af aq cc d0 d1 s0 s1 b0 b1 p0 p1 i0 i1 c0 c1 hm
 have c0:= @cG 8 w ab ae aa af aq cc
 rw [hm] at c0
 have c1:= @aR 8
 let E1:EL:=([aw c0,tF,aW]++bK 9 128++ [aw c1,tT])
 rcases cQ (bX (w==64) ae ab false) with h2|h2
 ·have c3:= @dK ae ab s0 s1 d0 d1 (w==64) false h2
  generalize g5:dm (w==64) ae ab=r4 at c3
  have c6:= @bp ae ab s0 s1 d0 d1
  generalize g8:bC ae ab=r7 at c6
  exact (gh (d:= .aQ [.bc (.fresh 1) 1 [av r4,av 133,av r7],ao 0]) (E1++ [aw c3,aw c6,bQ 3])).to (by clear E1;(subst_vars;(try simp only [aX] at*);(try simp only [ck] at h);(try simp only [bP,cq] at*);simp_all [aI,cT,aN,show aF 8=1 from rfl,bD,bw,bI,bf,bF,aU,bq,bW];done))
 have c9:= @dk ae ab s0 s1 d0 d1 (w==64) false h2
 have QS:= @bp ae ab s0 s1 d0 d1
 generalize g12:bC ae ab=Rf at QS
 exact (gh (d:= .aQ [.bc (.fresh 1) 1 [av 133,av Rf],ao 0]) (E1++ [aw c9,aw QS,bQ 2])).to (by clear E1;(subst_vars;(try simp only [aX] at*);(try simp only [ck] at h);(try simp only [bP,cq] at*);simp_all [aI,cT,aN,show aF 8=1 from rfl,bD,bw,bI,bf,bF,aU,bq,bW];done))
theorem vN:ju 16:=by
 intro w ab ae aa af aq cc d0 d1 s0 s1 b0 b1 p0 p1 i0 i1 c0 c1 hm
 have c0:= @cG 16 w ab ae aa af aq cc
 rw [hm] at c0
 rcases cQ (bX (w==64) ab ae false) with h1|h1
 ·have c2:= @dK ab ae d0 d1 s0 s1 (w==64) false h1
  generalize g4:dm (w==64) ab ae=r3 at c2
  have c5:= @bp ab ae d0 d1 s0 s1
  generalize g7:bC ab ae=r6 at c5
  exact (gh (d:= .aQ [.bc (.fresh 1) 1 [av r3,av 15,av 175,av r6],ao 0]) ([aw c0,tF,aW]++Xg 23 tF++ [tT,aw c2,aw c5,bQ 4])).to (by (subst_vars;(try simp only [aX] at*);(try simp only [ck] at h);(try simp only [bP,cq] at*);simp_all [aI,cT,aN,show aF 16=2 from rfl,bD,bw,bI,bf,bF,aU,bq,bW];done))
 have c8:= @dk ab ae d0 d1 s0 s1 (w==64) false h1
 have c9:= @bp ab ae d0 d1 s0 s1
 generalize g11:bC ab ae=RC at c9
 exact (gh (d:= .aQ [.bc (.fresh 1) 1 [av 15,av 175,av RC],ao 0]) ([aw c0,tF,aW]++Xg 23 tF++ [tT,aw c8,aw c9,bQ 3])).to (by (subst_vars;(try simp only [aX] at*);(try simp only [ck] at h);(try simp only [bP,cq] at*);simp_all [aI,cT,aN,show aF 16=2 from rfl,bD,bw,bI,bf,bF,aU,bq,bW];done))
theorem vE:ju 25:=by
 intro w ab ae aa af aq cc d0 d1 s0 s1 b0 b1 p0 p1 i0 i1 c0 c1 hm
 have c0:= @cG 25 w ab ae aa af aq cc
 rw [hm] at c0
 have c1:= @aR 25
 have c2:= @aR 25
 have c3:= @aR 25
 have c4:= @aR 25
 let E1:EL:=([aw c0,tF,aW]++Xg 24 tF++ [aw c1,tF,tF,aw c2,tF,aw c3,tF,aw c4,tF,tT])
 rcases cQ (bX (w==64) ab ae false) with h5|h5
 ·have c6:= @dK ab ae d0 d1 s0 s1 (w==64) false h5
  generalize g8:dm (w==64) ab ae=r7 at c6
  have c9:= @bp ab ae d0 d1 s0 s1
  generalize g11:bC ab ae=RC at c9
  exact (gh (d:= .aQ [.bc (.fresh 1) 1 [av r7,av 15,av (YO.wrap YO.u8 (YO.i64.wrap (64+YO.wrap YO.i64 cc))),av RC],ao 0]) (E1++ [aw c6,aw c9,bQ 4])).to (by clear E1;(subst_vars;(try simp only [aX] at*);(try simp only [ck] at h);(try simp only [bP,cq] at*);simp_all [aI,cT,aN,show aF 25=6 from rfl,bD,bw,bI,bf,bF,aU];omega))
 have Q0:= @dk ab ae d0 d1 s0 s1 (w==64) false h5
 have Q8:= @bp ab ae d0 d1 s0 s1
 generalize g15:bC ab ae=RG at Q8
 exact (gh (d:= .aQ [.bc (.fresh 1) 1 [av 15,av (YO.wrap YO.u8 (YO.i64.wrap (64+YO.wrap YO.i64 cc))),av RG],ao 0]) (E1++ [aw Q0,aw Q8,bQ 3])).to (by clear E1;(subst_vars;(try simp only [aX] at*);(try simp only [ck] at h);(try simp only [bP,cq] at*);simp_all [aI,cT,aN,show aF 25=6 from rfl,bD,bw,bI,bf,bF,aU];omega))
theorem yh (w ab ae aa af aq cc:Int) (d0:0≤ab) (d1:ab≤15) (s0:0≤ae) (s1:ae≤15) (b0:0≤aa) (b1:aa≤15) (p0: -2147483648≤af) (p1:af≤2147483647) (i0: -2147483648≤aq) (i1:aq≤2147483647) (c0:0≤cc) (c1:cc≤15) (hw:w=32∨w=64) (hm:a8 1 w ab ae aa af aq cc=true):aY Xh 42 ([xD 1 w ab ae aa af aq cc]) (.aQ [aZ 1 (bD (aN 1 w ab ae aa af aq cc)),ao 0]):=by
 have c0:= @cG 1 w ab ae aa af aq cc
 rw [hm] at c0
 have c1:= @aR 1
 let E1:EL:=([aw c0,tF,aW]++Xg 24 tF++ [aw c1,tF,tT])
 rcases cQ (bX (w==64) 0 ab false) with h2|h2
 ·have c3:= @dK 0 ab (by decide) (by decide) d0 d1 (w==64) false h2
  generalize g5:dm (w==64) 0 ab=r4 at c3
  by_cases h6:w=64
  ·subst h6
   have c7:= @bp 0 ab (by decide) (by decide) d0 d1
   generalize g9:bC 0 ab=r8 at c7
   have QS:= @dV aq
   exact (gh (d:= .aQ [.bc (.fresh 1) 1 [av r4,av 199,av r8,av (aq%256),av (aq / 256%256),av (aq / 65536%256),av (aq / 16777216%256)],ao 0]) (E1++ [aw c3,tT,aw c7,bQ 3,aw QS,bQ 7])).to (by clear E1;((try simp only [gp]);subst_vars;(try simp only [aX] at*);(try simp only [ck] at h);(try simp only [bP,cq] at*);simp_all [aI,cT,aN,show aF 1=3 from rfl,bD,bw,bI,bf,bF,aU,dJ,bq,bW];done))
  have Rc:= @dV aq
  exact (gh (d:= .aQ [.bc (.fresh 1) 1 [av r4,av (YO.wrap YO.u8 (YO.i64.wrap (184+YO.i64.wrap (YO.wrap YO.i8 (↑(Xm (Xf (8:Nat) ab&&&Xf (8:Nat) 7)):Int))))),av (aq%256),av (aq / 256%256),av (aq / 65536%256),av (aq / 16777216%256)],ao 0]) (E1++ [aw c3,tC (aH h6),bQ 2,aw Rc,bQ 6])).to (by clear E1;((try simp only [gp]);subst_vars;(try simp only [aX] at*);(try simp only [ck] at h);(try simp only [bP,cq] at*);simp_all [aI,cT,aN,show aF 1=3 from rfl,bD,bw,bI,bf,bF,aU,dJ];omega))
 have Q0:= @dk 0 ab (by decide) (by decide) d0 d1 (w==64) false h2
 by_cases h13:w=64
 ·subst h13
  have RB:= @bp 0 ab (by decide) (by decide) d0 d1
  generalize g16:bC 0 ab=Tv at RB
  have Tc:= @dV aq
  exact (gh (d:= .aQ [.bc (.fresh 1) 1 [av 199,av Tv,av (aq%256),av (aq / 256%256),av (aq / 65536%256),av (aq / 16777216%256)],ao 0]) (E1++ [aw Q0,tT,aw RB,bQ 2,aw Tc,bQ 6])).to (by clear E1;((try simp only [gp]);subst_vars;(try simp only [aX] at*);(try simp only [ck] at h);(try simp only [bP,cq] at*);simp_all [aI,cT,aN,show aF 1=3 from rfl,bD,bw,bI,bf,bF,aU,dJ,bq,bW];done))
 have S6:= @dV aq
 exact (gh (d:= .aQ [.bc (.fresh 1) 1 [av (YO.wrap YO.u8 (YO.i64.wrap (184+YO.i64.wrap (YO.wrap YO.i8 (↑(Xm (Xf (8:Nat) ab&&&Xf (8:Nat) 7)):Int))))),av (aq%256),av (aq / 256%256),av (aq / 65536%256),av (aq / 16777216%256)],ao 0]) (E1++ [aw Q0,tC (aH h13),bQ 1,aw S6,bQ 5])).to (by clear E1;((try simp only [gp]);subst_vars;(try simp only [aX] at*);(try simp only [ck] at h);(try simp only [bP,cq] at*);simp_all [aI,cT,aN,show aF 1=3 from rfl,bD,bw,bI,bf,bF,aU,dJ];omega))
def lH (Q3:Int):Prop:= ∀(w ab ae aa af aq cc:Int) (d0:0≤ab) (d1:ab≤15) (s0:0≤ae) (s1:ae≤15) (b0:0≤aa) (b1:aa≤15) (p0: -2147483648≤af) (p1:af≤2147483647) (i0: -2147483648≤aq) (i1:aq≤2147483647) (c0:0≤cc) (c1:cc≤15) (hm:a8 Q3 w ab ae aa af aq cc=true),aY Xh 42 ([xD Q3 w ab ae aa af aq cc]) (.aQ [aZ 1 (bD (aN Q3 w ab ae aa af aq cc)),ao 0])
theorem x9:lH 9:=by
 intro w ab ae aa af aq cc d0 d1 s0 s1 b0 b1 p0 p1 i0 i1 c0 c1 hm
 have c0:= @cG 9 w ab ae aa af aq cc
 rw [hm] at c0
 have c1:= @aR 9
 have c2:= @aR 9
 let E1:EL:=([aw c0,tF,aW]++Xg 8 tF++ [tT,tT,tF,aw c1,tF,tF,aw c2,tT])
 rcases cQ (bX (w==64) 0 ab false) with h3|h3
 ·have c4:= @dK 0 ab (by decide) (by decide) d0 d1 (w==64) false h3
  generalize g6:dm (w==64) 0 ab=r5 at c4
  have c7:= @bp 0 ab (by decide) (by decide) d0 d1
  generalize g9:bC 0 ab=r8 at c7
  have QS:= @dV aq
  exact (gh (d:= .aQ [.bc (.fresh 1) 1 [av r5,av 129,av r8,av (aq%256),av (aq / 256%256),av (aq / 65536%256),av (aq / 16777216%256)],ao 0]) (E1++ [aw c4,tF,bQ 2,aw c7,bQ 3,aw QS,bQ 7])).to (by clear E1;((try simp only [gp]);subst_vars;(try simp only [aX] at*);(try simp only [ck] at h);(try simp only [bP,cq] at*);simp_all [aI,cT,aN,show aF 9=3 from rfl,bD,bw,bI,bf,bF,aU,dJ,bq,bW];done))
 have Rc:= @dk 0 ab (by decide) (by decide) d0 d1 (w==64) false h3
 have Q0:= @bp 0 ab (by decide) (by decide) d0 d1
 generalize g14:bC 0 ab=Sq at Q0
 have R6:= @dV aq
 exact (gh (d:= .aQ [.bc (.fresh 1) 1 [av 129,av Sq,av (aq%256),av (aq / 256%256),av (aq / 65536%256),av (aq / 16777216%256)],ao 0]) (E1++ [aw Rc,tF,bQ 1,aw Q0,bQ 2,aw R6,bQ 6])).to (by clear E1;((try simp only [gp]);subst_vars;(try simp only [aX] at*);(try simp only [ck] at h);(try simp only [bP,cq] at*);simp_all [aI,cT,aN,show aF 9=3 from rfl,bD,bw,bI,bf,bF,aU,dJ,bq,bW];done))
theorem vT:lH 10:=by
 intro w ab ae aa af aq cc d0 d1 s0 s1 b0 b1 p0 p1 i0 i1 c0 c1 hm
 have c0:= @cG 10 w ab ae aa af aq cc
 rw [hm] at c0
 have c1:= @aR 10
 have c2:= @aR 10
 let E1:EL:=([aw c0,tF,aW]++Xg 10 tF++ [tT,tF,aw c1,tF,tF,aw c2,tT])
 rcases cQ (bX (w==64) 0 ab false) with h3|h3
 ·have c4:= @dK 0 ab (by decide) (by decide) d0 d1 (w==64) false h3
  generalize g6:dm (w==64) 0 ab=r5 at c4
  have c7:= @bp 1 ab (by decide) (by decide) d0 d1
  generalize g9:bC 1 ab=r8 at c7
  have QS:= @dV aq
  exact (gh (d:= .aQ [.bc (.fresh 1) 1 [av r5,av 129,av r8,av (aq%256),av (aq / 256%256),av (aq / 65536%256),av (aq / 16777216%256)],ao 0]) (E1++ [aw c4,tF,bQ 2,aw c7,bQ 3,aw QS,bQ 7])).to (by clear E1;((try simp only [gp]);subst_vars;(try simp only [aX] at*);(try simp only [ck] at h);(try simp only [bP,cq] at*);simp_all [aI,cT,aN,show aF 10=3 from rfl,bD,bw,bI,bf,bF,aU,dJ,bq,bW];done))
 have Rc:= @dk 0 ab (by decide) (by decide) d0 d1 (w==64) false h3
 have Q0:= @bp 1 ab (by decide) (by decide) d0 d1
 generalize g14:bC 1 ab=Sq at Q0
 have R6:= @dV aq
 exact (gh (d:= .aQ [.bc (.fresh 1) 1 [av 129,av Sq,av (aq%256),av (aq / 256%256),av (aq / 65536%256),av (aq / 16777216%256)],ao 0]) (E1++ [aw Rc,tF,bQ 1,aw Q0,bQ 2,aw R6,bQ 6])).to (by clear E1;((try simp only [gp]);subst_vars;(try simp only [aX] at*);(try simp only [ck] at h);(try simp only [bP,cq] at*);simp_all [aI,cT,aN,show aF 10=3 from rfl,bD,bw,bI,bf,bF,aU,dJ,bq,bW];done))
theorem vS:lH 11:=by
 intro w ab ae aa af aq cc d0 d1 s0 s1 b0 b1 p0 p1 i0 i1 c0 c1 hm
 have c0:= @cG 11 w ab ae aa af aq cc
 rw [hm] at c0
 have c1:= @aR 11
 have c2:= @aR 11
 let E1:EL:=([aw c0,tF,aW]++Xg 11 tF++ [tT,tT,tF,aw c1,tF,tF,aw c2,tT])
 rcases cQ (bX (w==64) 0 ab false) with h3|h3
 ·have c4:= @dK 0 ab (by decide) (by decide) d0 d1 (w==64) false h3
  generalize g6:dm (w==64) 0 ab=r5 at c4
  have c7:= @bp 4 ab (by decide) (by decide) d0 d1
  generalize g9:bC 4 ab=r8 at c7
  have QS:= @dV aq
  exact (gh (d:= .aQ [.bc (.fresh 1) 1 [av r5,av 129,av r8,av (aq%256),av (aq / 256%256),av (aq / 65536%256),av (aq / 16777216%256)],ao 0]) (E1++ [aw c4,tF,bQ 2,aw c7,bQ 3,aw QS,bQ 7])).to (by clear E1;((try simp only [gp]);subst_vars;(try simp only [aX] at*);(try simp only [ck] at h);(try simp only [bP,cq] at*);simp_all [aI,cT,aN,show aF 11=3 from rfl,bD,bw,bI,bf,bF,aU,dJ,bq,bW];done))
 have Rc:= @dk 0 ab (by decide) (by decide) d0 d1 (w==64) false h3
 have Q0:= @bp 4 ab (by decide) (by decide) d0 d1
 generalize g14:bC 4 ab=Sq at Q0
 have R6:= @dV aq
 exact (gh (d:= .aQ [.bc (.fresh 1) 1 [av 129,av Sq,av (aq%256),av (aq / 256%256),av (aq / 65536%256),av (aq / 16777216%256)],ao 0]) (E1++ [aw Rc,tF,bQ 1,aw Q0,bQ 2,aw R6,bQ 6])).to (by clear E1;((try simp only [gp]);subst_vars;(try simp only [aX] at*);(try simp only [ck] at h);(try simp only [bP,cq] at*);simp_all [aI,cT,aN,show aF 11=3 from rfl,bD,bw,bI,bf,bF,aU,dJ,bq,bW];done))
theorem vR:lH 12:=by
 intro w ab ae aa af aq cc d0 d1 s0 s1 b0 b1 p0 p1 i0 i1 c0 c1 hm
 have c0:= @cG 12 w ab ae aa af aq cc
 rw [hm] at c0
 have c1:= @aR 12
 have c2:= @aR 12
 let E1:EL:=([aw c0,tF,aW]++Xg 14 tF++ [tT,tT,tF,aw c1,tF,tF,aw c2,tT])
 rcases cQ (bX (w==64) 0 ab false) with h3|h3
 ·have c4:= @dK 0 ab (by decide) (by decide) d0 d1 (w==64) false h3
  generalize g6:dm (w==64) 0 ab=r5 at c4
  have c7:= @bp 5 ab (by decide) (by decide) d0 d1
  generalize g9:bC 5 ab=r8 at c7
  have QS:= @dV aq
  exact (gh (d:= .aQ [.bc (.fresh 1) 1 [av r5,av 129,av r8,av (aq%256),av (aq / 256%256),av (aq / 65536%256),av (aq / 16777216%256)],ao 0]) (E1++ [aw c4,tF,bQ 2,aw c7,bQ 3,aw QS,bQ 7])).to (by clear E1;((try simp only [gp]);subst_vars;(try simp only [aX] at*);(try simp only [ck] at h);(try simp only [bP,cq] at*);simp_all [aI,cT,aN,show aF 12=3 from rfl,bD,bw,bI,bf,bF,aU,dJ,bq,bW];done))
 have Rc:= @dk 0 ab (by decide) (by decide) d0 d1 (w==64) false h3
 have Q0:= @bp 5 ab (by decide) (by decide) d0 d1
 generalize g14:bC 5 ab=Sq at Q0
 have R6:= @dV aq
 exact (gh (d:= .aQ [.bc (.fresh 1) 1 [av 129,av Sq,av (aq%256),av (aq / 256%256),av (aq / 65536%256),av (aq / 16777216%256)],ao 0]) (E1++ [aw Rc,tF,bQ 1,aw Q0,bQ 2,aw R6,bQ 6])).to (by clear E1;((try simp only [gp]);subst_vars;(try simp only [aX] at*);(try simp only [ck] at h);(try simp only [bP,cq] at*);simp_all [aI,cT,aN,show aF 12=3 from rfl,bD,bw,bI,bf,bF,aU,dJ,bq,bW];done))
theorem vQ:lH 13:=by
 intro w ab ae aa af aq cc d0 d1 s0 s1 b0 b1 p0 p1 i0 i1 c0 c1 hm
 have c0:= @cG 13 w ab ae aa af aq cc
 rw [hm] at c0
 have c1:= @aR 13
 have c2:= @aR 13
 let E1:EL:=([aw c0,tF,aW]++Xg 17 tF++ [tT,tT,tF,aw c1,tF,tF,aw c2,tT])
 rcases cQ (bX (w==64) 0 ab false) with h3|h3
 ·have c4:= @dK 0 ab (by decide) (by decide) d0 d1 (w==64) false h3
  generalize g6:dm (w==64) 0 ab=r5 at c4
  have c7:= @bp 6 ab (by decide) (by decide) d0 d1
  generalize g9:bC 6 ab=r8 at c7
  have QS:= @dV aq
  exact (gh (d:= .aQ [.bc (.fresh 1) 1 [av r5,av 129,av r8,av (aq%256),av (aq / 256%256),av (aq / 65536%256),av (aq / 16777216%256)],ao 0]) (E1++ [aw c4,tF,bQ 2,aw c7,bQ 3,aw QS,bQ 7])).to (by clear E1;((try simp only [gp]);subst_vars;(try simp only [aX] at*);(try simp only [ck] at h);(try simp only [bP,cq] at*);simp_all [aI,cT,aN,show aF 13=3 from rfl,bD,bw,bI,bf,bF,aU,dJ,bq,bW];done))
 have Rc:= @dk 0 ab (by decide) (by decide) d0 d1 (w==64) false h3
 have Q0:= @bp 6 ab (by decide) (by decide) d0 d1
 generalize g14:bC 6 ab=Sq at Q0
 have R6:= @dV aq
 exact (gh (d:= .aQ [.bc (.fresh 1) 1 [av 129,av Sq,av (aq%256),av (aq / 256%256),av (aq / 65536%256),av (aq / 16777216%256)],ao 0]) (E1++ [aw Rc,tF,bQ 1,aw Q0,bQ 2,aw R6,bQ 6])).to (by clear E1;((try simp only [gp]);subst_vars;(try simp only [aX] at*);(try simp only [ck] at h);(try simp only [bP,cq] at*);simp_all [aI,cT,aN,show aF 13=3 from rfl,bD,bw,bI,bf,bF,aU,dJ,bq,bW];done))
theorem vP:lH 14:=by
 intro w ab ae aa af aq cc d0 d1 s0 s1 b0 b1 p0 p1 i0 i1 c0 c1 hm
 have c0:= @cG 14 w ab ae aa af aq cc
 rw [hm] at c0
 have c1:= @aR 14
 have c2:= @aR 14
 let E1:EL:=([aw c0,tF,aW]++Xg 19 tF++ [tT,tT,tF,aw c1,tF,tF,aw c2,tT])
 rcases cQ (bX (w==64) 0 ab false) with h3|h3
 ·have c4:= @dK 0 ab (by decide) (by decide) d0 d1 (w==64) false h3
  generalize g6:dm (w==64) 0 ab=r5 at c4
  have c7:= @bp 7 ab (by decide) (by decide) d0 d1
  generalize g9:bC 7 ab=r8 at c7
  have QS:= @dV aq
  exact (gh (d:= .aQ [.bc (.fresh 1) 1 [av r5,av 129,av r8,av (aq%256),av (aq / 256%256),av (aq / 65536%256),av (aq / 16777216%256)],ao 0]) (E1++ [aw c4,tF,bQ 2,aw c7,bQ 3,aw QS,bQ 7])).to (by clear E1;((try simp only [gp]);subst_vars;(try simp only [aX] at*);(try simp only [ck] at h);(try simp only [bP,cq] at*);simp_all [aI,cT,aN,show aF 14=3 from rfl,bD,bw,bI,bf,bF,aU,dJ,bq,bW];done))
 have Rc:= @dk 0 ab (by decide) (by decide) d0 d1 (w==64) false h3
 have Q0:= @bp 7 ab (by decide) (by decide) d0 d1
 generalize g14:bC 7 ab=Sq at Q0
 have R6:= @dV aq
 exact (gh (d:= .aQ [.bc (.fresh 1) 1 [av 129,av Sq,av (aq%256),av (aq / 256%256),av (aq / 65536%256),av (aq / 16777216%256)],ao 0]) (E1++ [aw Rc,tF,bQ 1,aw Q0,bQ 2,aw R6,bQ 6])).to (by clear E1;((try simp only [gp]);subst_vars;(try simp only [aX] at*);(try simp only [ck] at h);(try simp only [bP,cq] at*);simp_all [aI,cT,aN,show aF 14=3 from rfl,bD,bw,bI,bf,bF,aU,dJ,bq,bW];done))
theorem vO:lH 15:=by
 intro w ab ae aa af aq cc d0 d1 s0 s1 b0 b1 p0 p1 i0 i1 c0 c1 hm
 have c0:= @cG 15 w ab ae aa af aq cc
 rw [hm] at c0
 have c1:= @aR 15
 have c2:= @aR 15
 let E1:EL:=([aw c0,tF,aW]++Xg 9 tF++ [tT,tF,aw c1,tF,tF,aw c2,tT])
 rcases cQ (bX (w==64) 0 ab false) with h3|h3
 ·have c4:= @dK 0 ab (by decide) (by decide) d0 d1 (w==64) false h3
  generalize g6:dm (w==64) 0 ab=r5 at c4
  have c7:= @bp 0 ab (by decide) (by decide) d0 d1
  generalize g9:bC 0 ab=r8 at c7
  have QS:= @dV aq
  exact (gh (d:= .aQ [.bc (.fresh 1) 1 [av r5,av 247,av r8,av (aq%256),av (aq / 256%256),av (aq / 65536%256),av (aq / 16777216%256)],ao 0]) (E1++ [aw c4,tT,bQ 2,aw c7,bQ 3,aw QS,bQ 7])).to (by clear E1;((try simp only [gp]);subst_vars;(try simp only [aX] at*);(try simp only [ck] at h);(try simp only [bP,cq] at*);simp_all [aI,cT,aN,show aF 15=3 from rfl,bD,bw,bI,bf,bF,aU,dJ,bq,bW];done))
 have Rc:= @dk 0 ab (by decide) (by decide) d0 d1 (w==64) false h3
 have Q0:= @bp 0 ab (by decide) (by decide) d0 d1
 generalize g14:bC 0 ab=Sq at Q0
 have R6:= @dV aq
 exact (gh (d:= .aQ [.bc (.fresh 1) 1 [av 247,av Sq,av (aq%256),av (aq / 256%256),av (aq / 65536%256),av (aq / 16777216%256)],ao 0]) (E1++ [aw Rc,tT,bQ 1,aw Q0,bQ 2,aw R6,bQ 6])).to (by clear E1;((try simp only [gp]);subst_vars;(try simp only [aX] at*);(try simp only [ck] at h);(try simp only [bP,cq] at*);simp_all [aI,cT,aN,show aF 15=3 from rfl,bD,bw,bI,bf,bF,aU,dJ,bq,bW];done))
def kJ (Q3:Int):Prop:= ∀(w ab ae aa af aq cc:Int) (d0:0≤ab) (d1:ab≤15) (s0:0≤ae) (s1:ae≤15) (b0:0≤aa) (b1:aa≤15) (p0: -2147483648≤af) (p1:af≤2147483647) (i0: -2147483648≤aq) (i1:aq≤2147483647) (c0:0≤cc) (c1:cc≤15) (hm:a8 Q3 w ab ae aa af aq cc=true),aY Xh 42 ([xD Q3 w ab ae aa af aq cc]) (.aQ [aZ 1 (bD (aN Q3 w ab ae aa af aq cc)),ao 0])
theorem vM:kJ 17:=by
 intro w ab ae aa af aq cc d0 d1 s0 s1 b0 b1 p0 p1 i0 i1 c0 c1 hm
 have c0:= @cG 17 w ab ae aa af aq cc
 rw [hm] at c0
 have c1:= @aR 17
 have c2:= @aR 17
 have c3:= @aR 17
 let E1:EL:=([aw c0,tF,aW]++Xg 12 tF++ [tT,tT,tF,aw c1,tF,tF,aw c2,tF,aw c3,tT])
 rcases cQ (bX (w==64) 0 ab false) with h4|h4
 ·have c5:= @dK 0 ab (by decide) (by decide) d0 d1 (w==64) false h4
  generalize g7:dm (w==64) 0 ab=r6 at c5
  have c8:= @bp 4 ab (by decide) (by decide) d0 d1
  generalize g10:bC 4 ab=r9 at c8
  exact (gh (d:= .aQ [.bc (.fresh 1) 1 [av r6,av 193,av r9,av (YO.wrap YO.u8 aq)],ao 0]) (E1++ [aw c5,aw c8,bQ 4])).to (by clear E1;(subst_vars;(try simp only [aX] at*);(try simp only [ck] at h);(try simp only [bP,cq] at*);simp_all [aI,cT,aN,show aF 17=4 from rfl,bD,bw,bI,bf,bF,bq,bW];done))
 have Rc:= @dk 0 ab (by decide) (by decide) d0 d1 (w==64) false h4
 have Q0:= @bp 4 ab (by decide) (by decide) d0 d1
 generalize g14:bC 4 ab=Sq at Q0
 exact (gh (d:= .aQ [.bc (.fresh 1) 1 [av 193,av Sq,av (YO.wrap YO.u8 aq)],ao 0]) (E1++ [aw Rc,aw Q0,bQ 3])).to (by clear E1;(subst_vars;(try simp only [aX] at*);(try simp only [ck] at h);(try simp only [bP,cq] at*);simp_all [aI,cT,aN,show aF 17=4 from rfl,bD,bw,bI,bf,bF,bq,bW];done))
theorem vL:kJ 18:=by
 intro w ab ae aa af aq cc d0 d1 s0 s1 b0 b1 p0 p1 i0 i1 c0 c1 hm
 have c0:= @cG 18 w ab ae aa af aq cc
 rw [hm] at c0
 have c1:= @aR 18
 have c2:= @aR 18
 have c3:= @aR 18
 let E1:EL:=([aw c0,tF,aW]++Xg 15 tF++ [tT,tT,tF,aw c1,tF,tF,aw c2,tF,aw c3,tT])
 rcases cQ (bX (w==64) 0 ab false) with h4|h4
 ·have c5:= @dK 0 ab (by decide) (by decide) d0 d1 (w==64) false h4
  generalize g7:dm (w==64) 0 ab=r6 at c5
  have c8:= @bp 5 ab (by decide) (by decide) d0 d1
  generalize g10:bC 5 ab=r9 at c8
  exact (gh (d:= .aQ [.bc (.fresh 1) 1 [av r6,av 193,av r9,av (YO.wrap YO.u8 aq)],ao 0]) (E1++ [aw c5,aw c8,bQ 4])).to (by clear E1;(subst_vars;(try simp only [aX] at*);(try simp only [ck] at h);(try simp only [bP,cq] at*);simp_all [aI,cT,aN,show aF 18=4 from rfl,bD,bw,bI,bf,bF,bq,bW];done))
 have Rc:= @dk 0 ab (by decide) (by decide) d0 d1 (w==64) false h4
 have Q0:= @bp 5 ab (by decide) (by decide) d0 d1
 generalize g14:bC 5 ab=Sq at Q0
 exact (gh (d:= .aQ [.bc (.fresh 1) 1 [av 193,av Sq,av (YO.wrap YO.u8 aq)],ao 0]) (E1++ [aw Rc,aw Q0,bQ 3])).to (by clear E1;(subst_vars;(try simp only [aX] at*);(try simp only [ck] at h);(try simp only [bP,cq] at*);simp_all [aI,cT,aN,show aF 18=4 from rfl,bD,bw,bI,bf,bF,bq,bW];done))
theorem vK:kJ 19:=by
 intro w ab ae aa af aq cc d0 d1 s0 s1 b0 b1 p0 p1 i0 i1 c0 c1 hm
 have c0:= @cG 19 w ab ae aa af aq cc
 rw [hm] at c0
 have c1:= @aR 19
 have c2:= @aR 19
 have c3:= @aR 19
 let E1:EL:=([aw c0,tF,aW]++Xg 20 tF++ [tT,tT,tF,aw c1,tF,tF,aw c2,tF,aw c3,tT])
 rcases cQ (bX (w==64) 0 ab false) with h4|h4
 ·have c5:= @dK 0 ab (by decide) (by decide) d0 d1 (w==64) false h4
  generalize g7:dm (w==64) 0 ab=r6 at c5
  have c8:= @bp 7 ab (by decide) (by decide) d0 d1
  generalize g10:bC 7 ab=r9 at c8
  exact (gh (d:= .aQ [.bc (.fresh 1) 1 [av r6,av 193,av r9,av (YO.wrap YO.u8 aq)],ao 0]) (E1++ [aw c5,aw c8,bQ 4])).to (by clear E1;(subst_vars;(try simp only [aX] at*);(try simp only [ck] at h);(try simp only [bP,cq] at*);simp_all [aI,cT,aN,show aF 19=4 from rfl,bD,bw,bI,bf,bF,bq,bW];done))
 have Rc:= @dk 0 ab (by decide) (by decide) d0 d1 (w==64) false h4
 have Q0:= @bp 7 ab (by decide) (by decide) d0 d1
 generalize g14:bC 7 ab=Sq at Q0
 exact (gh (d:= .aQ [.bc (.fresh 1) 1 [av 193,av Sq,av (YO.wrap YO.u8 aq)],ao 0]) (E1++ [aw Rc,aw Q0,bQ 3])).to (by clear E1;(subst_vars;(try simp only [aX] at*);(try simp only [ck] at h);(try simp only [bP,cq] at*);simp_all [aI,cT,aN,show aF 19=4 from rfl,bD,bw,bI,bf,bF,bq,bW];done))
theorem vJ:kJ 20:=by
 intro w ab ae aa af aq cc d0 d1 s0 s1 b0 b1 p0 p1 i0 i1 c0 c1 hm
 have c0:= @cG 20 w ab ae aa af aq cc
 rw [hm] at c0
 have c1:= @aR 20
 have c2:= @aR 20
 have c3:= @aR 20
 have c4:= @aR 20
 let E1:EL:=([aw c0,tF,aW]++Xg 13 tF++ [tT,tF,aw c1,tF,tF,aw c2,tF,aw c3,tF,aw c4,tT])
 rcases cQ (bX (w==64) 0 ab false) with h5|h5
 ·have c6:= @dK 0 ab (by decide) (by decide) d0 d1 (w==64) false h5
  generalize g8:dm (w==64) 0 ab=r7 at c6
  have c9:= @bp 4 ab (by decide) (by decide) d0 d1
  generalize g11:bC 4 ab=RC at c9
  exact (gh (d:= .aQ [.bc (.fresh 1) 1 [av r7,av 211,av RC],ao 0]) (E1++ [aw c6,tT,tT,tT,tF,tF,aw c9,bQ 3])).to (by clear E1;(subst_vars;(try simp only [aX] at*);(try simp only [ck] at h);(try simp only [bP,cq] at*);simp_all [aI,cT,aN,show aF 20=5 from rfl,bD,bw,bI,bf,bF,bq,bW];done))
 have Q0:= @dk 0 ab (by decide) (by decide) d0 d1 (w==64) false h5
 have Q8:= @bp 4 ab (by decide) (by decide) d0 d1
 generalize g15:bC 4 ab=RG at Q8
 exact (gh (d:= .aQ [.bc (.fresh 1) 1 [av 211,av RG],ao 0]) (E1++ [aw Q0,tT,tT,tT,tF,tF,aw Q8,bQ 2])).to (by clear E1;(subst_vars;(try simp only [aX] at*);(try simp only [ck] at h);(try simp only [bP,cq] at*);simp_all [aI,cT,aN,show aF 20=5 from rfl,bD,bw,bI,bf,bF,bq,bW];done))
theorem vI:kJ 21:=by
 intro w ab ae aa af aq cc d0 d1 s0 s1 b0 b1 p0 p1 i0 i1 c0 c1 hm
 have c0:= @cG 21 w ab ae aa af aq cc
 rw [hm] at c0
 have c1:= @aR 21
 have c2:= @aR 21
 have c3:= @aR 21
 have c4:= @aR 21
 let E1:EL:=([aw c0,tF,aW]++Xg 16 tF++ [tT,tF,aw c1,tF,tF,aw c2,tF,aw c3,tF,aw c4,tT])
 rcases cQ (bX (w==64) 0 ab false) with h5|h5
 ·have c6:= @dK 0 ab (by decide) (by decide) d0 d1 (w==64) false h5
  generalize g8:dm (w==64) 0 ab=r7 at c6
  have c9:= @bp 5 ab (by decide) (by decide) d0 d1
  generalize g11:bC 5 ab=RC at c9
  exact (gh (d:= .aQ [.bc (.fresh 1) 1 [av r7,av 211,av RC],ao 0]) (E1++ [aw c6,tT,tT,tT,tF,tF,aw c9,bQ 3])).to (by clear E1;(subst_vars;(try simp only [aX] at*);(try simp only [ck] at h);(try simp only [bP,cq] at*);simp_all [aI,cT,aN,show aF 21=5 from rfl,bD,bw,bI,bf,bF,bq,bW];done))
 have Q0:= @dk 0 ab (by decide) (by decide) d0 d1 (w==64) false h5
 have Q8:= @bp 5 ab (by decide) (by decide) d0 d1
 generalize g15:bC 5 ab=RG at Q8
 exact (gh (d:= .aQ [.bc (.fresh 1) 1 [av 211,av RG],ao 0]) (E1++ [aw Q0,tT,tT,tT,tF,tF,aw Q8,bQ 2])).to (by clear E1;(subst_vars;(try simp only [aX] at*);(try simp only [ck] at h);(try simp only [bP,cq] at*);simp_all [aI,cT,aN,show aF 21=5 from rfl,bD,bw,bI,bf,bF,bq,bW];done))
theorem vH:kJ 22:=by
 intro w ab ae aa af aq cc d0 d1 s0 s1 b0 b1 p0 p1 i0 i1 c0 c1 hm
 have c0:= @cG 22 w ab ae aa af aq cc
 rw [hm] at c0
 have c1:= @aR 22
 have c2:= @aR 22
 have c3:= @aR 22
 have c4:= @aR 22
 let E1:EL:=([aw c0,tF,aW]++Xg 21 tF++ [tT,tF,aw c1,tF,tF,aw c2,tF,aw c3,tF,aw c4,tT])
 rcases cQ (bX (w==64) 0 ab false) with h5|h5
 ·have c6:= @dK 0 ab (by decide) (by decide) d0 d1 (w==64) false h5
  generalize g8:dm (w==64) 0 ab=r7 at c6
  have c9:= @bp 7 ab (by decide) (by decide) d0 d1
  generalize g11:bC 7 ab=RC at c9
  exact (gh (d:= .aQ [.bc (.fresh 1) 1 [av r7,av 211,av RC],ao 0]) (E1++ [aw c6,tT,tT,tT,tF,tF,aw c9,bQ 3])).to (by clear E1;(subst_vars;(try simp only [aX] at*);(try simp only [ck] at h);(try simp only [bP,cq] at*);simp_all [aI,cT,aN,show aF 22=5 from rfl,bD,bw,bI,bf,bF,bq,bW];done))
 have Q0:= @dk 0 ab (by decide) (by decide) d0 d1 (w==64) false h5
 have Q8:= @bp 7 ab (by decide) (by decide) d0 d1
 generalize g15:bC 7 ab=RG at Q8
 exact (gh (d:= .aQ [.bc (.fresh 1) 1 [av 211,av RG],ao 0]) (E1++ [aw Q0,tT,tT,tT,tF,tF,aw Q8,bQ 2])).to (by clear E1;(subst_vars;(try simp only [aX] at*);(try simp only [ck] at h);(try simp only [bP,cq] at*);simp_all [aI,cT,aN,show aF 22=5 from rfl,bD,bw,bI,bf,bF,bq,bW];done))
theorem vG:kJ 23:=by
 intro w ab ae aa af aq cc d0 d1 s0 s1 b0 b1 p0 p1 i0 i1 c0 c1 hm
 have c0:= @cG 23 w ab ae aa af aq cc
 rw [hm] at c0
 have c1:= @aR 23
 have c2:= @aR 23
 have c3:= @aR 23
 have c4:= @aR 23
 let E1:EL:=([aw c0,tF,aW]++Xg 22 tF++ [tT,tF,aw c1,tF,tF,aw c2,tF,aw c3,tF,aw c4,tT])
 rcases cQ (bX (w==64) 0 ab false) with h5|h5
 ·have c6:= @dK 0 ab (by decide) (by decide) d0 d1 (w==64) false h5
  generalize g8:dm (w==64) 0 ab=r7 at c6
  have c9:= @bp 3 ab (by decide) (by decide) d0 d1
  generalize g11:bC 3 ab=RC at c9
  exact (gh (d:= .aQ [.bc (.fresh 1) 1 [av r7,av 247,av RC],ao 0]) (E1++ [aw c6,tF,tF,tF,tT,tT,aw c9,bQ 3])).to (by clear E1;(subst_vars;(try simp only [aX] at*);(try simp only [ck] at h);(try simp only [bP,cq] at*);simp_all [aI,cT,aN,show aF 23=5 from rfl,bD,bw,bI,bf,bF,bq,bW];done))
 have Q0:= @dk 0 ab (by decide) (by decide) d0 d1 (w==64) false h5
 have Q8:= @bp 3 ab (by decide) (by decide) d0 d1
 generalize g15:bC 3 ab=RG at Q8
 exact (gh (d:= .aQ [.bc (.fresh 1) 1 [av 247,av RG],ao 0]) (E1++ [aw Q0,tF,tF,tF,tT,tT,aw Q8,bQ 2])).to (by clear E1;(subst_vars;(try simp only [aX] at*);(try simp only [ck] at h);(try simp only [bP,cq] at*);simp_all [aI,cT,aN,show aF 23=5 from rfl,bD,bw,bI,bf,bF,bq,bW];done))
theorem vF:kJ 24:=by
 intro w ab ae aa af aq cc d0 d1 s0 s1 b0 b1 p0 p1 i0 i1 c0 c1 hm
 have c0:= @cG 24 w ab ae aa af aq cc
 rw [hm] at c0
 have c1:= @aR 24
 have c2:= @aR 24
 have c3:= @aR 24
 have c4:= @aR 24
 let E1:EL:=([aw c0,tF,aW]++Xg 18 tF++ [tT,tF,aw c1,tF,tF,aw c2,tF,aw c3,tF,aw c4,tT])
 rcases cQ (bX (w==64) 0 ab false) with h5|h5
 ·have c6:= @dK 0 ab (by decide) (by decide) d0 d1 (w==64) false h5
  generalize g8:dm (w==64) 0 ab=r7 at c6
  have c9:= @bp 6 ab (by decide) (by decide) d0 d1
  generalize g11:bC 6 ab=RC at c9
  exact (gh (d:= .aQ [.bc (.fresh 1) 1 [av r7,av 247,av RC],ao 0]) (E1++ [aw c6,tT,tT,tT,tF,tT,aw c9,bQ 3])).to (by clear E1;(subst_vars;(try simp only [aX] at*);(try simp only [ck] at h);(try simp only [bP,cq] at*);simp_all [aI,cT,aN,show aF 24=5 from rfl,bD,bw,bI,bf,bF,bq,bW];done))
 have Q0:= @dk 0 ab (by decide) (by decide) d0 d1 (w==64) false h5
 have Q8:= @bp 6 ab (by decide) (by decide) d0 d1
 generalize g15:bC 6 ab=RG at Q8
 exact (gh (d:= .aQ [.bc (.fresh 1) 1 [av 247,av RG],ao 0]) (E1++ [aw Q0,tT,tT,tT,tF,tT,aw Q8,bQ 2])).to (by clear E1;(subst_vars;(try simp only [aX] at*);(try simp only [ck] at h);(try simp only [bP,cq] at*);simp_all [aI,cT,aN,show aF 24=5 from rfl,bD,bw,bI,bf,bF,bq,bW];done))
theorem vD (w ab ae aa af aq cc:Int) (d0:0≤ab) (d1:ab≤15) (s0:0≤ae) (s1:ae≤15) (b0:0≤aa) (b1:aa≤15) (p0: -2147483648≤af) (p1:af≤2147483647) (i0: -2147483648≤aq) (i1:aq≤2147483647) (c0:0≤cc) (c1:cc≤15) (hm:a8 26 w ab ae aa af aq cc=true):aY Xh 42 ([xD 26 w ab ae aa af aq cc]) (.aQ [aZ 1 (bD (aN 26 w ab ae aa af aq cc)),ao 0]):=by
 have c0:= @cG 26 w ab ae aa af aq cc
 rw [hm] at c0
 have c1:= @aR 26
 have c2:= @aR 26
 have c3:= @aR 26
 have c4:= @aR 26
 let E1:EL:=([aw c0,tF,aW]++Xg 24 tF++ [aw c1,tF,tF,aw c2,tF,aw c3,tF,aw c4,tF,tF,tT])
 rcases cQ (bX (w==64) ab aa false) with h5|h5
 ·have c6:= @dK ab aa d0 d1 b0 b1 (w==64) false h5
  generalize g8:dm (w==64) ab aa=r7 at c6
  let E2:EL:=E1++ [aw c6]
  by_cases h9:w=8
  ·subst h9
   let E3:EL:=E2++ [tT,bQ 3]
   rcases cQ (decide (aa%8=4)) with Sz|Sz
   ·have Rc:= @gC ab aa af d0 d1 b0 b1 p0 p1 Sz
    exact (gh (d:= .aQ [.bc (.fresh 1) 1 [av r7,av 15,av 182,av (128+8*(ab%8)+aa%8),av 36,av (af%256),av (af / 256%256),av (af / 65536%256),av (af / 16777216%256)],ao 0]) (E3++ [aw Rc,bQ 9])).to (by clear E1 E2 E3;(subst_vars;(try simp only [aX] at*);(try simp only [ck] at h);(try simp only [bP,cq] at*);simp_all [aI,cT,aN,show aF 26=7 from rfl,bD,bw,bI,bf,bF,aU];done))
   have Q0:= @gB ab aa af d0 d1 b0 b1 p0 p1 Sz
   exact (gh (d:= .aQ [.bc (.fresh 1) 1 [av r7,av 15,av 182,av (128+8*(ab%8)+aa%8),av (af%256),av (af / 256%256),av (af / 65536%256),av (af / 16777216%256)],ao 0]) (E3++ [aw Q0,bQ 8])).to (by clear E1 E2 E3;(subst_vars;(try simp only [aX] at*);(try simp only [ck] at h);(try simp only [bP,cq] at*);simp_all [aI,cT,aN,show aF 26=7 from rfl,bD,bw,bI,bf,bF,aU];done))
  by_cases h13:w=16
  ·subst h13
   let E4:EL:=E2++ [tC (aH h9),tT,bQ 3]
   rcases cQ (decide (aa%8=4)) with h14|h14
   ·have R6:= @gC ab aa af d0 d1 b0 b1 p0 p1 h14
    exact (gh (d:= .aQ [.bc (.fresh 1) 1 [av r7,av 15,av 183,av (128+8*(ab%8)+aa%8),av 36,av (af%256),av (af / 256%256),av (af / 65536%256),av (af / 16777216%256)],ao 0]) (E4++ [aw R6,bQ 9])).to (by clear E1 E2 E4;(subst_vars;(try simp only [aX] at*);(try simp only [ck] at h);(try simp only [bP,cq] at*);simp_all [aI,cT,aN,show aF 26=7 from rfl,bD,bw,bI,bf,bF,aU];done))
   have Q9:= @gB ab aa af d0 d1 b0 b1 p0 p1 h14
   exact (gh (d:= .aQ [.bc (.fresh 1) 1 [av r7,av 15,av 183,av (128+8*(ab%8)+aa%8),av (af%256),av (af / 256%256),av (af / 65536%256),av (af / 16777216%256)],ao 0]) (E4++ [aw Q9,bQ 8])).to (by clear E1 E2 E4;(subst_vars;(try simp only [aX] at*);(try simp only [ck] at h);(try simp only [bP,cq] at*);simp_all [aI,cT,aN,show aF 26=7 from rfl,bD,bw,bI,bf,bF,aU];done))
  let E5:EL:=E2++ [tC (aH h9),tC (aH h13),bQ 2]
  rcases cQ (decide (aa%8=4)) with h17|h17
  ·have S6:= @gC ab aa af d0 d1 b0 b1 p0 p1 h17
   exact (gh (d:= .aQ [.bc (.fresh 1) 1 [av r7,av 139,av (128+8*(ab%8)+aa%8),av 36,av (af%256),av (af / 256%256),av (af / 65536%256),av (af / 16777216%256)],ao 0]) (E5++ [aw S6,bQ 8])).to (by clear E1 E2 E5;(subst_vars;(try simp only [aX] at*);(try simp only [ck] at h);(try simp only [bP,cq] at*);simp_all [aI,cT,aN,show aF 26=7 from rfl,bD,bw,bI,bf,bF,aU];done))
  have RO:= @gB ab aa af d0 d1 b0 b1 p0 p1 h17
  exact (gh (d:= .aQ [.bc (.fresh 1) 1 [av r7,av 139,av (128+8*(ab%8)+aa%8),av (af%256),av (af / 256%256),av (af / 65536%256),av (af / 16777216%256)],ao 0]) (E5++ [aw RO,bQ 7])).to (by clear E1 E2 E5;(subst_vars;(try simp only [aX] at*);(try simp only [ck] at h);(try simp only [bP,cq] at*);simp_all [aI,cT,aN,show aF 26=7 from rfl,bD,bw,bI,bf,bF,aU];done))
 have Te:= @dk ab aa d0 d1 b0 b1 (w==64) false h5
 let E6:EL:=E1++ [aw Te]
 by_cases h21:w=8
 ·subst h21
  let E7:EL:=E6++ [tT,bQ 2]
  rcases cQ (decide (aa%8=4)) with h22|h22
  ·have RS:= @gC ab aa af d0 d1 b0 b1 p0 p1 h22
   exact (gh (d:= .aQ [.bc (.fresh 1) 1 [av 15,av 182,av (128+8*(ab%8)+aa%8),av 36,av (af%256),av (af / 256%256),av (af / 65536%256),av (af / 16777216%256)],ao 0]) (E7++ [aw RS,bQ 8])).to (by clear E1 E6 E7;(subst_vars;(try simp only [aX] at*);(try simp only [ck] at h);(try simp only [bP,cq] at*);simp_all [aI,cT,aN,show aF 26=7 from rfl,bD,bw,bI,bf,bF,aU];done))
  have Ss:= @gB ab aa af d0 d1 b0 b1 p0 p1 h22
  exact (gh (d:= .aQ [.bc (.fresh 1) 1 [av 15,av 182,av (128+8*(ab%8)+aa%8),av (af%256),av (af / 256%256),av (af / 65536%256),av (af / 16777216%256)],ao 0]) (E7++ [aw Ss,bQ 7])).to (by clear E1 E6 E7;(subst_vars;(try simp only [aX] at*);(try simp only [ck] at h);(try simp only [bP,cq] at*);simp_all [aI,cT,aN,show aF 26=7 from rfl,bD,bw,bI,bf,bF,aU];done))
 by_cases h25:w=16
 ·subst h25
  let E8:EL:=E6++ [tC (aH h21),tT,bQ 2]
  rcases cQ (decide (aa%8=4)) with h26|h26
  ·have Sh:= @gC ab aa af d0 d1 b0 b1 p0 p1 h26
   exact (gh (d:= .aQ [.bc (.fresh 1) 1 [av 15,av 183,av (128+8*(ab%8)+aa%8),av 36,av (af%256),av (af / 256%256),av (af / 65536%256),av (af / 16777216%256)],ao 0]) (E8++ [aw Sh,bQ 8])).to (by clear E1 E6 E8;(subst_vars;(try simp only [aX] at*);(try simp only [ck] at h);(try simp only [bP,cq] at*);simp_all [aI,cT,aN,show aF 26=7 from rfl,bD,bw,bI,bf,bF,aU];done))
  have UR:= @gB ab aa af d0 d1 b0 b1 p0 p1 h26
  exact (gh (d:= .aQ [.bc (.fresh 1) 1 [av 15,av 183,av (128+8*(ab%8)+aa%8),av (af%256),av (af / 256%256),av (af / 65536%256),av (af / 16777216%256)],ao 0]) (E8++ [aw UR,bQ 7])).to (by clear E1 E6 E8;(subst_vars;(try simp only [aX] at*);(try simp only [ck] at h);(try simp only [bP,cq] at*);simp_all [aI,cT,aN,show aF 26=7 from rfl,bD,bw,bI,bf,bF,aU];done))
 let E9:EL:=E6++ [tC (aH h21),tC (aH h25),bQ 1]
 rcases cQ (decide (aa%8=4)) with h29|h29
 ·have Tj:= @gC ab aa af d0 d1 b0 b1 p0 p1 h29
  exact (gh (d:= .aQ [.bc (.fresh 1) 1 [av 139,av (128+8*(ab%8)+aa%8),av 36,av (af%256),av (af / 256%256),av (af / 65536%256),av (af / 16777216%256)],ao 0]) (E9++ [aw Tj,bQ 7])).to (by clear E1 E6 E9;(subst_vars;(try simp only [aX] at*);(try simp only [ck] at h);(try simp only [bP,cq] at*);simp_all [aI,cT,aN,show aF 26=7 from rfl,bD,bw,bI,bf,bF,aU];done))
 have S5:= @gB ab aa af d0 d1 b0 b1 p0 p1 h29
 exact (gh (d:= .aQ [.bc (.fresh 1) 1 [av 139,av (128+8*(ab%8)+aa%8),av (af%256),av (af / 256%256),av (af / 65536%256),av (af / 16777216%256)],ao 0]) (E9++ [aw S5,bQ 6])).to (by clear E1 E6 E9;(subst_vars;(try simp only [aX] at*);(try simp only [ck] at h);(try simp only [bP,cq] at*);simp_all [aI,cT,aN,show aF 26=7 from rfl,bD,bw,bI,bf,bF,aU];done))
theorem vC (w ab ae aa af aq cc:Int) (d0:0≤ab) (d1:ab≤15) (s0:0≤ae) (s1:ae≤15) (b0:0≤aa) (b1:aa≤15) (p0: -2147483648≤af) (p1:af≤2147483647) (i0: -2147483648≤aq) (i1:aq≤2147483647) (c0:0≤cc) (c1:cc≤15) (hm:a8 27 w ab ae aa af aq cc=true):aY Xh 42 ([xD 27 w ab ae aa af aq cc]) (.aQ [aZ 1 (bD (aN 27 w ab ae aa af aq cc)),ao 0]):=by
 have c0:= @cG 27 w ab ae aa af aq cc
 rw [hm] at c0
 have c1:= @aR 27
 have c2:= @aR 27
 have c3:= @aR 27
 have c4:= @aR 27
 let E1:EL:=([aw c0,tF,aW]++Xg 24 tF++ [aw c1,tF,tF,aw c2,tF,aw c3,tF,aw c4,tF,tF,tF,tT])
 by_cases h5:w=16
 ·subst h5
  let E2:EL:=E1++ [tT,bQ 1]
  rcases cQ (bX false ae aa false) with h6|h6
  ·have c7:= @dK ae aa s0 s1 b0 b1 false false h6
   generalize g9:dm false ae aa=r8 at c7
   let E3:EL:=E2++ [aw c7,bQ 2,tF,bQ 3]
   rcases cQ (decide (aa%8=4)) with Sz|Sz
   ·have Rc:= @gC ae aa af s0 s1 b0 b1 p0 p1 Sz
    exact (gh (d:= .aQ [.bc (.fresh (1:Nat)) (1:Nat) [av 102,av r8,av 137,av (128+8*(ae%8)+aa%8),av 36,av (af%256),av (af / 256%256),av (af / 65536%256),av (af / 16777216%256)],ao 0]) (E3++ [aw Rc,bQ 9])).to (by clear E1 E2 E3;((try simp only [gp]);subst_vars;(try simp only [aX] at*);(try simp only [ck] at h);(try simp only [bP,cq] at*);simp_all [aI,cT,aN,show aF 27=8 from rfl,bD,bw,bI,bf,bF,aU,dJ];done))
   have Q0:= @gB ae aa af s0 s1 b0 b1 p0 p1 Sz
   exact (gh (d:= .aQ [.bc (.fresh (1:Nat)) (1:Nat) [av 102,av r8,av 137,av (128+8*(ae%8)+aa%8),av (af%256),av (af / 256%256),av (af / 65536%256),av (af / 16777216%256)],ao 0]) (E3++ [aw Q0,bQ 8])).to (by clear E1 E2 E3;((try simp only [gp]);subst_vars;(try simp only [aX] at*);(try simp only [ck] at h);(try simp only [bP,cq] at*);simp_all [aI,cT,aN,show aF 27=8 from rfl,bD,bw,bI,bf,bF,aU,dJ];done))
  have Q8:= @dk ae aa s0 s1 b0 b1 false false h6
  let E4:EL:=E2++ [aw Q8,bQ 1,tF,bQ 2]
  rcases cQ (decide (aa%8=4)) with h14|h14
  ·have R6:= @gC ae aa af s0 s1 b0 b1 p0 p1 h14
   exact (gh (d:= .aQ [.bc (.fresh (1:Nat)) (1:Nat) [av 102,av 137,av (128+8*(ae%8)+aa%8),av 36,av (af%256),av (af / 256%256),av (af / 65536%256),av (af / 16777216%256)],ao 0]) (E4++ [aw R6,bQ 8])).to (by clear E1 E2 E4;((try simp only [gp]);subst_vars;(try simp only [aX] at*);(try simp only [ck] at h);(try simp only [bP,cq] at*);simp_all [aI,cT,aN,show aF 27=8 from rfl,bD,bw,bI,bf,bF,aU,dJ];done))
  have Q9:= @gB ae aa af s0 s1 b0 b1 p0 p1 h14
  exact (gh (d:= .aQ [.bc (.fresh (1:Nat)) (1:Nat) [av 102,av 137,av (128+8*(ae%8)+aa%8),av (af%256),av (af / 256%256),av (af / 65536%256),av (af / 16777216%256)],ao 0]) (E4++ [aw Q9,bQ 7])).to (by clear E1 E2 E4;((try simp only [gp]);subst_vars;(try simp only [aX] at*);(try simp only [ck] at h);(try simp only [bP,cq] at*);simp_all [aI,cT,aN,show aF 27=8 from rfl,bD,bw,bI,bf,bF,aU,dJ];done))
 let E5:EL:=E1++ [tC (aH h5)]
 rcases cQ (bX (w==64) ae aa (w==8)) with h17|h17
 ·have S6:= @dK ae aa s0 s1 b0 b1 (w==64) (w==8) h17
  generalize g20:dm (w==64) ae aa=r19 at S6
  let E6:EL:=E5++ [aw S6,bQ 1]
  by_cases h21:w=8
  ·subst h21
   let E7:EL:=E6++ [tT,bQ 2]
   rcases cQ (decide (aa%8=4)) with h22|h22
   ·have RS:= @gC ae aa af s0 s1 b0 b1 p0 p1 h22
    exact (gh (d:= .aQ [.bc (.fresh (1:Nat)) (1:Nat) [av r19,av 136,av (128+8*(ae%8)+aa%8),av 36,av (af%256),av (af / 256%256),av (af / 65536%256),av (af / 16777216%256)],ao 0]) (E7++ [aw RS,bQ 8])).to (by clear E1 E5 E6 E7;((try simp only [gp]);subst_vars;(try simp only [aX] at*);(try simp only [ck] at h);(try simp only [bP,cq] at*);simp_all [aI,cT,aN,show aF 27=8 from rfl,bD,bw,bI,bf,bF,aU,dJ];done))
   have Ss:= @gB ae aa af s0 s1 b0 b1 p0 p1 h22
   exact (gh (d:= .aQ [.bc (.fresh (1:Nat)) (1:Nat) [av r19,av 136,av (128+8*(ae%8)+aa%8),av (af%256),av (af / 256%256),av (af / 65536%256),av (af / 16777216%256)],ao 0]) (E7++ [aw Ss,bQ 7])).to (by clear E1 E5 E6 E7;((try simp only [gp]);subst_vars;(try simp only [aX] at*);(try simp only [ck] at h);(try simp only [bP,cq] at*);simp_all [aI,cT,aN,show aF 27=8 from rfl,bD,bw,bI,bf,bF,aU,dJ];done))
  let E8:EL:=E6++ [tC (aH h21),bQ 2]
  rcases cQ (decide (aa%8=4)) with h25|h25
  ·have SO:= @gC ae aa af s0 s1 b0 b1 p0 p1 h25
   exact (gh (d:= .aQ [.bc (.fresh (1:Nat)) (1:Nat) [av r19,av 137,av (128+8*(ae%8)+aa%8),av 36,av (af%256),av (af / 256%256),av (af / 65536%256),av (af / 16777216%256)],ao 0]) (E8++ [aw SO,bQ 8])).to (by clear E1 E5 E6 E8;((try simp only [gp]);subst_vars;(try simp only [aX] at*);(try simp only [ck] at h);(try simp only [bP,cq] at*);simp_all [aI,cT,aN,show aF 27=8 from rfl,bD,bw,bI,bf,bF,aU,dJ];done))
  have Sh:= @gB ae aa af s0 s1 b0 b1 p0 p1 h25
  exact (gh (d:= .aQ [.bc (.fresh (1:Nat)) (1:Nat) [av r19,av 137,av (128+8*(ae%8)+aa%8),av (af%256),av (af / 256%256),av (af / 65536%256),av (af / 16777216%256)],ao 0]) (E8++ [aw Sh,bQ 7])).to (by clear E1 E5 E6 E8;((try simp only [gp]);subst_vars;(try simp only [aX] at*);(try simp only [ck] at h);(try simp only [bP,cq] at*);simp_all [aI,cT,aN,show aF 27=8 from rfl,bD,bw,bI,bf,bF,aU,dJ];done))
 have UR:= @dk ae aa s0 s1 b0 b1 (w==64) (w==8) h17
 let E9:EL:=E5++ [aw UR,bQ 0]
 by_cases h29:w=8
 ·subst h29
  let E10:EL:=E9++ [tT,bQ 1]
  rcases cQ (decide (aa%8=4)) with h30|h30
  ·have S5:= @gC ae aa af s0 s1 b0 b1 p0 p1 h30
   exact (gh (d:= .aQ [.bc (.fresh (1:Nat)) (1:Nat) [av 136,av (128+8*(ae%8)+aa%8),av 36,av (af%256),av (af / 256%256),av (af / 65536%256),av (af / 16777216%256)],ao 0]) (E10++ [aw S5,bQ 7])).to (by clear E1 E5 E9 E10;((try simp only [gp]);subst_vars;(try simp only [aX] at*);(try simp only [ck] at h);(try simp only [bP,cq] at*);simp_all [aI,cT,aN,show aF 27=8 from rfl,bD,bw,bI,bf,bF,aU,dJ];done))
  have WN:= @gB ae aa af s0 s1 b0 b1 p0 p1 h30
  exact (gh (d:= .aQ [.bc (.fresh (1:Nat)) (1:Nat) [av 136,av (128+8*(ae%8)+aa%8),av (af%256),av (af / 256%256),av (af / 65536%256),av (af / 16777216%256)],ao 0]) (E10++ [aw WN,bQ 6])).to (by clear E1 E5 E9 E10;((try simp only [gp]);subst_vars;(try simp only [aX] at*);(try simp only [ck] at h);(try simp only [bP,cq] at*);simp_all [aI,cT,aN,show aF 27=8 from rfl,bD,bw,bI,bf,bF,aU,dJ];done))
 let E11:EL:=E9++ [tC (aH h29),bQ 1]
 rcases cQ (decide (aa%8=4)) with h33|h33
 ·have V4:= @gC ae aa af s0 s1 b0 b1 p0 p1 h33
  exact (gh (d:= .aQ [.bc (.fresh (1:Nat)) (1:Nat) [av 137,av (128+8*(ae%8)+aa%8),av 36,av (af%256),av (af / 256%256),av (af / 65536%256),av (af / 16777216%256)],ao 0]) (E11++ [aw V4,bQ 7])).to (by clear E1 E5 E9 E11;((try simp only [gp]);subst_vars;(try simp only [aX] at*);(try simp only [ck] at h);(try simp only [bP,cq] at*);simp_all [aI,cT,aN,show aF 27=8 from rfl,bD,bw,bI,bf,bF,aU,dJ];done))
 have Wr:= @gB ae aa af s0 s1 b0 b1 p0 p1 h33
 exact (gh (d:= .aQ [.bc (.fresh (1:Nat)) (1:Nat) [av 137,av (128+8*(ae%8)+aa%8),av (af%256),av (af / 256%256),av (af / 65536%256),av (af / 16777216%256)],ao 0]) (E11++ [aw Wr,bQ 6])).to (by clear E1 E5 E9 E11;((try simp only [gp]);subst_vars;(try simp only [aX] at*);(try simp only [ck] at h);(try simp only [bP,cq] at*);simp_all [aI,cT,aN,show aF 27=8 from rfl,bD,bw,bI,bf,bF,aU,dJ];done))
end Go.Proofs.YtbfpahigdpigpaaGreat
