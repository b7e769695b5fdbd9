import Derived.ProofKit
import Derived.Carry
import Derived.SizedLaws
import Derived.Test.YtbfpahigdpigpaaGreatS04
import Derived.Test.YtbfpahigdpigpaaGreatS06
import Derived.Test.YtbfpahigdpigpaaGreatS09
open Go.Proofs.Tryz renaming prog→Xh,f81→X9
/- Contracts and plain laws that a statement's proof leans on (texts merged:XD3,XD4,XD4A,EM16,EvR). -/
set_option linter.unusedVariables false
set_option linter.unusedSimpArgs false
set_option maxRecDepth 100000
set_option maxHeartbeats 8000000
namespace Go.Proofs.YtbfpahigdpigpaaGreat
open Go Go.Ev
abbrev gT (n:Int):List D:=([.je 5,.ptr false 4 0,cX,.ptr false 7 0]++e8 11++ [.agg jH,ao n]++e8 16)
abbrev gU:List D:=(e8 33)
abbrev Py (ag bd:Code) (k:Lk):Ob:= .lp k ([cX,.ptr false 0 0,.ptr false 1 0,.ptr false 2 0,.ptr false 3 0]++e8 34) #[10] ag bd
abbrev P1:Ob:= .box [aj 0,aj 0,aj 0,aj 0,aj 0,ao 0,ao 0,aj 0]
abbrev gS (ag bd:Code) (b:List Int) (s:aM):List Ob:= [au [aZ 1 (bD b)],P1,au [ao 0],au [ao 0],au [aZ 1 (bD b)],Py ag bd .ready,aA,
  .box [aj s.w,ax s.fw,av s.code,aj s.r,aj s.m,ao s.af,ao s.aq,ao s.small,ao s.gi,ao s.gL,aj s.high],aA]
abbrev P2:Option XS→Ex
  |none=> .exit 0
  |some _=> .ret
abbrev Lh (ag bd:Code):Option XS→List Ob
  |none=> [aA,P1,au [.int .i64 0],au [.int .i64 0],aA,Py ag bd .ready,aA,aA,aA]
  |some x=> [aA,au [.int .i8 x.op,.int .i8 x.w,.int .i8 x.ab,.int .i8 x.ae,.int .i8 x.aa,.int .i64 x.af,.int .i64 x.aq,.int .i8 x.cc],au [.int .i64 (dF x).length],au [.int .i64 0],aA,Py ag bd .ret,aA,aA,aA]
theorem lA (b:List Int) (hb:du b) (s:aM) (v0:0≤s.code) (v1:s.code≤255) (hh:s.high=0∨s.high=8):∀(m n:Nat),n+m=32→
  cA Xh (db Tryz.f141 0) 9 (gT n) (gS (dg X9 0) (de X9 0) b s) (P2 (gd b s (gR.drop n))) gU (Lh (dg X9 0) (de X9 0) (gd b s (gR.drop n)))
 |0,n,hn=>by
  obtain rfl:n=32:=by omega
  exact cA.last (Mq b s) (fun h=>by cases h)
 |m+1,n,hn=>by
  have QQ:n<32:=by omega
  rw [ym QQ]
  have So:=Nr s (n:Int)
  have hle:(fM s (n:Int)).op≤127:=by rw [So];omega
  have hw:IntKind.i64.wrap ((n:Int)+1)=((n+1:Nat):Int):=by rw [aU];omega
  have ih:=lA b hb s v0 v1 hh m (n+1) (by omega)
  have hy:aY Xh 72 [lV (fM s (n:Int))] (ax (rp (fM s (n:Int)))):=bm _ _ _ _ _ _ _ _ hle
  have go:∀ {t2:List D} {s2:List Ob},aJ Xh (db Tryz.f141 0) ⟨[0,1,3,15,16],[0,1,2,3,4,5,7],[]⟩ 9 (gT n) (gS (dg X9 0) (de X9 0) b s) .norm (gT (IntKind.i64.wrap ((n:Int)+1))) (gS (dg X9 0) (de X9 0) b s)→kh b (fM s (n:Int))=false→
    cA Xh (db Tryz.f141 0) 9 (gT n) (gS (dg X9 0) (de X9 0) b s) (P2 (gd b s ((n:Int)::gR.drop (n+1)))) gU (Lh (dg X9 0) (de X9 0) (gd b s ((n:Int)::gR.drop (n+1)))):=by
   intro _ _ h hf
   have e:gd b s ((n:Int)::gR.drop (n+1))=gd b s (gR.drop (n+1)):=by simp only [gd,hf,Bool.false_eq_true,if_false]
   rw [e]
   rw [hw] at h
   exact cA.ic h ih
  cases hm:rp (fM s (n:Int)) with
  |false=>
   rw [hm] at hy
   exact go (t2:= []) (s2:= []) (Mo b [] s n (by omega) (by omega) v0 v1 hh hy) (by simp [kh,hm])
  |true=>
   rw [hm] at hy
   have ho:=pW hm
   have Vc:aY Xh 43 [lV (fM s (n:Int))] (.aQ [aZ 1 (bD (dF (fM s (n:Int)))),ao 0]):=by
    have:=jS (fM s (n:Int)).op (fM s (n:Int)).w (fM s (n:Int)).ab (fM s (n:Int)).ae (fM s (n:Int)).aa (fM s (n:Int)).af (fM s (n:Int)).aq (fM s (n:Int)).cc hle
    have TG:a8 (fM s (n:Int)).op (fM s (n:Int)).w (fM s (n:Int)).ab (fM s (n:Int)).ae (fM s (n:Int)).aa (fM s (n:Int)).af (fM s (n:Int)).aq (fM s (n:Int)).cc=true:=hm
    simp only [mo,pB,TG,if_true] at this
    exact this
   have SE:=Li ho hb
   by_cases hp:(dF (fM s (n:Int))).isPrefixOf b=true
   ·obtain ⟨h1,h2⟩:=SE.1 hp
    have e:gd b s ((n:Int)::gR.drop (n+1))=some (fM s (n:Int)):=by simp only [gd,kh,hm,hp,Bool.and_self,if_true]
    rw [e]
    have:=Mp b (dF (fM s (n:Int))) s n (by omega) (by omega) v0 v1 hh hy Vc h1 h2
    rw [aK] at this
    exact cA.last this (fun h=>by cases h)
   ·have hf:kh b (fM s (n:Int))=false:=by simp [kh,hm,hp]
    by_cases hl:((bD (dF (fM s (n:Int)))).length:Int)≤((bD b).length:Int)
    ·have hs:((gk (bD (dF (fM s (n:Int))))).toList==(gk (List.take (Int.toNat ((List.length (bD (dF (fM s (n:Int)))):Nat):Int)) (bD b))).toList)=false:=by
      cases e:((gk (bD (dF (fM s (n:Int))))).toList==(gk (List.take (Int.toNat ((List.length (bD (dF (fM s (n:Int)))):Nat):Int)) (bD b))).toList) with
      |false=>rfl
      |true=>exact absurd (SE.2 ⟨hl,e⟩) hp
     exact go (t2:= []) (s2:= []) (Mn b _ s n (by omega) (by omega) v0 v1 hh hy Vc hl hs) hf
    ·exact go (t2:= []) (s2:= []) (Ko b _ s n (by omega) (by omega) v0 v1 hh hy Vc (by omega)) hf
theorem AF (b:List Int) (hb:du b) (s:aM) (v0:0≤s.code) (v1:s.code≤255) (hh:s.high=0∨s.high=8) (hf:gd b s gR=none):
  cB Xh 9 (.loop (db Tryz.f141 0)) (gT 0) (gS (dg X9 0) (de X9 0) b s) (.exit 0) gU (Lh (dg X9 0) (de X9 0) none):=by
 have h:=lA b hb s v0 v1 hh 32 0 rfl
 rw [List.drop_zero,hf] at h
 exact cB.gI (Nat.le_refl _) h
theorem AE (b:List Int) (hb:du b) (s:aM) (v0:0≤s.code) (v1:s.code≤255) (hh:s.high=0∨s.high=8) (x:XS) (hf:gd b s gR=some x):
  cB Xh 9 (.loop (db Tryz.f141 0)) (gT 0) (gS (dg X9 0) (de X9 0) b s) .ret gU (Lh (dg X9 0) (de X9 0) (some x)):=by
 have h:=lA b hb s v0 v1 hh 32 0 rfl
 rw [List.drop_zero,hf] at h
 exact cB.gI (Nat.le_refl _) h
theorem HA (b:List Int) (s:aM) (hp:aY Xh 142 [aZ 1 (bD b)] (.aQ [ei s,ax false])):aY Xh 81 ([aZ 1 (bD b)]) (.aQ [xD 0 0 0 0 0 0 0 0,ao 0,ao 30]):=(aY.ai (d:= .aQ [(xD 0 0 0 0 0 0 0 0),ao 0,ao 30]) mixed Tryz.func81 (by kernel_rfl) [aW,.JQ [1,2,3,4],aw hp,tT]).to (by simp [aI,lV])
theorem Hz (b:List Int) (hb:du b) (s:aM) (v0:0≤s.code) (v1:s.code≤255) (hh:s.high=0∨s.high=8) (hp:aY Xh 142 [aZ 1 (bD b)] (.aQ [ei s,ax true])) (hf:gd b s gR=none):aY Xh 81 ([aZ 1 (bD b)]) (.aQ [xD 0 0 0 0 0 0 0 0,ao 0,ao 30]):=by
 have c0:= @AF (b) hb (s) v0 v1 hh hf
 exact (aY.ai (d:= .aQ [(xD 0 0 0 0 0 0 0 0),ao 0,ao 30]) mixed Tryz.func81 (by kernel_rfl) [aW,.JQ [1,2,3,4],aw hp,tF,aW,.head ⟨[0,1,3,15,16],[0,1,2,3,4,5,7],[]⟩ _ _ _ _ _ _ _ c0]).to (by simp [aI,lV])
theorem Hy (b:List Int) (hb:du b) (s:aM) (v0:0≤s.code) (v1:s.code≤255) (hh:s.high=0∨s.high=8) (hp:aY Xh 142 [aZ 1 (bD b)] (.aQ [ei s,ax true])) (x:XS) (hf:gd b s gR=some x):aY Xh 81 ([aZ 1 (bD b)]) (.aQ [lV x,ao (dF x).length,ao 0]):=by
 have c0:= @AE (b) hb (s) v0 v1 hh _ hf
 exact (aY.ai (d:= .aQ [(xD (XS.op x) (XS.w x) (XS.ab x) (XS.ae x) (XS.aa x) (XS.af x) (XS.aq x) (XS.cc x)),ao (↑(List.length (dF x)):Int),ao 0]) mixed Tryz.func81 (by kernel_rfl) [aW,.JQ [1,2,3,4],aw hp,tF,aW,.head ⟨[0,1,3,15,16],[0,1,2,3,4,5,7],[]⟩ _ _ _ _ _ _ _ c0]).to (by simp [aI,lV])
theorem Hx (b:List Int) (hb:du b):aY Xh 81 [aZ 1 (bD b)] (HB (lN b)):=by
 obtain ⟨s,hp,hs⟩:=HR b hb
 cases e:k7 b with
 |none=>
  rw [e] at hp
  rw [DH e]
  obtain ⟨x,hx⟩:∃x:aM,x=⟨s.w,s.fw,0,s.r,s.m,s.af,s.aq,s.small,s.gi,s.gL,s.high⟩:=⟨_,rfl⟩
  exact HA b s hp
 |some s'=>
  obtain rfl:=hs s' e
  rw [e] at hp
  obtain ⟨v0,v1,hh⟩:=D6 hb e
  rw [← AJ e]
  cases hf:gd b s gR with
  |none=>exact Hz b hb s v0 v1 hh hp hf
  |some x=>exact Hy b hb s v0 v1 hh hp x hf
theorem BD:aY Xh 22 ([aZ 8 [xD 1 32 0 0 0 0 5 0,xD 30 0 0 0 0 0 0 0]]) (.bc (.fresh 1) 1 [av 184,av 5,av 0,av 0,av 0,av 195]):=by
 have c0:= @jS ((1:Int)) ((32:Int)) ((0:Int)) ((0:Int)) ((0:Int)) ((0:Int)) ((5:Int)) ((0:Int)) (by first|rfl|decide)
 have c1:= @jS ((30:Int)) ((0:Int)) ((0:Int)) ((0:Int)) ((0:Int)) ((0:Int)) ((0:Int)) ((0:Int)) (by first|rfl|decide)
 exact (aY.ai (d:= .bc (.fresh 1) 1 [av 184,av 5,av 0,av 0,av 0,av 195]) mixed Tryz.func22 (by kernel_rfl) [.go 64,tT,tT,aw c0,tF,.len ((5:Nat)) ((2147483648:Nat)) (by first|decide|omega|(simp;omega)),tT,tT,aw c1,tF,.len ((6:Nat)) ((2147483648:Nat)) (by first|decide|omega|(simp;omega)),tF]).to (by simp [aI,cT])
end Go.Proofs.YtbfpahigdpigpaaGreat
namespace Go.Ev
open Go Go.RowKit Go.ChangeShapes Go.WideShapes
theorem nj {H:Type} {enc:TypeId×Value→H} {P:Program} (hl:laidOutB P=true) {W W':World} (hb:Below W.heap.size W W'):∀ {ts:List TypeId} {vs:List Value} {ds:List (DataW H)} {ps:List MemPlace},
  (∀t∈ts,P.readableRec t=true∧t<P.types.size)→DataW.TrodAll enc P W 0 (fun _=>true) true ts vs ds ps→(∀x∈ps,x.block<W.heap.size)→DataW.TrodAll enc P W' 0 (fun b=>decide (b<W.heap.size)) true ts vs ds ps
 | [],vs,ds,ps,_,h,_=>by
  obtain ⟨rfl,rfl,rfl⟩:=trodAll_nil h
  rfl
 |t::ts,vs,ds,ps,hr,h,hp=>by
  obtain ⟨v,vs',d,VP,p,q,rfl,rfl,rfl,h1,h2⟩:=trodAll_cons h
  have W0:=hr t (by simp)
  exact ⟨p,q,Below.trod hl W0.1 W0.2 h1 hb (fun x hx=>hp x (by simp [hx])),nj hl hb (fun t ht=>hr t (by simp [ht])) h2 (fun x hx=>hp x (by simp [hx])),rfl⟩
theorem lL {H:Type} {enc:TypeId×Value→H} {P:Program} {W:World} {b:Nat} {sp:Nat→Bool} {hd:Bool} :∀ {ts:List TypeId} {vs:List Value} {ds:List (DataW H)} {ps:List MemPlace},DataW.TrodAll enc P W b sp hd ts vs ds ps→vs.length=ts.length∧ds.length=ts.length
 | [],vs,ds,ps,h=>by
  obtain ⟨rfl,rfl,rfl⟩:=trodAll_nil h
  exact ⟨rfl,rfl⟩
 |t::ts,vs,ds,ps,h=>by
  obtain ⟨v,vs',d,VP,p,q,rfl,rfl,rfl,h1,h2⟩:=trodAll_cons h
  obtain ⟨k1,k2⟩:=lL h2
  exact ⟨by simp [k1],by simp [k2]⟩
theorem Ay {a:Assume} {H:Type} {enc:TypeId×Value→H} {C:Checked} {os:Os} {f:FuncId} {fn:Func} {s:ChangeSpec} {conds:List PathCond} {fresh handsOn:Bool} {tb:TypeId}
  (own:ownKnob C.prog.godebug=none) (started:os.Started) (UL:C.prog.inits.idxOf? f=none) (hfn:C.prog.funcs[f]? =some fn) (hl:laidOutB C.prog=true) (TI:s.vars= [])
  (T9:∀t∈fn.params.toList,C.prog.readableRec t=true∧t<C.prog.types.size) (WG:fn.resultTypes= #[tb]) (htb:C.prog.underlying tb=some .bool)
  (Vj:∀ds:List (DataW H),ds.length=fn.params.toList.length→(s.fn H ds).results= [.lit (.bool true)]∧(s.fn H ds).args=ds∧(s.fn H ds).vars= [])
  (witness:∃(w:World) (tape:Tape) (i:Input),w.os=os∧(w.forCall tape i).Shaped C.prog∧i.vars= []∧Input.okWide C.prog (w.forCall tape i) .any w.heap.size f i∧
   s.pre6 enc C.prog fn conds false (w.forCall tape i).memory i.args∧a.holds C.prog (lone (Frame.enter C.prog f i.args .normal) [] (w.forCall tape i)))
  (Pu:∀(W:World) (base:Nat) (args:Array Value) (ds:List (DataW H)) (ps:List MemPlace),(∀(j:Nat) t v,fn.params[j]? =some t→args[j]? =some v→Value.okWide C.prog W .any base t v)→
   args.toList.length=fn.params.toList.length→DataW.TrodAll enc C.prog W 0 (fun _=>true) true fn.params.toList args.toList ds ps→(DataW.weightsEach C.prog fn.params.toList ds).all (· ≤reachBytes)=true→
   Calls C.prog f args W fun e W'=>e= .returned (.bool true)∧Below W.heap.size W W'):
  ReturnsInHanded a C os f .any (s.pre6 enc C.prog fn conds false) (s.post enc C.prog fn false fresh handsOn false):=by
 refine returnsInHanded_of_change_sized own started UL hfn witness ?_
 intro W base args ds gs before Rb hW _ hz _
 have W3:=hW
 obtain ⟨p,q,hA,hV,rfl,UK,hnd⟩:=hW
 rw [TI] at hV
 obtain ⟨rfl,rfl⟩:=trodVars_none hV
 obtain ⟨l1,l2⟩:=lL hA
 have hz':(DataW.weightsEach C.prog fn.params.toList ds).all (· ≤reachBytes)=true:=by
  have e:s.plain.varTypes C.prog= []:=by simp [ChangeSpec.plain,DataSpec.varTypes,TI]
  rw [e,List.append_nil,List.append_nil] at hz
  exact hz
 refine (Pu W base args ds p Rb l1 hA hz').mono fun e W' ⟨he,hb⟩=> ?_
 subst he
 refine ⟨_,rfl,ds,[],p++ [],[],p,[],W3,?_⟩
 rw [List.append_nil]
 obtain ⟨s1,s2,s3⟩:=Vj ds l2
 rw [s1,s2,s3,WG,TI]
 refine ⟨?_,nj hl hb T9 hA (fun x hx=>by simpa using W3.lt x (by simpa using hx)),rfl,Below.frame hb _,fun h=>nomatch h⟩
 exact trodAll_mk1 (shut_bool htb true)
def oh:List LK→List D→Prop
  | [],ds=>ds= []
  | .bool::ks,ds=> ∃(b:Bool) (r:List D),ds= .bool b::r∧oh ks r
  | .int k::ks,ds=> ∃(n:Int) (r:List D),ds= .int k n::r∧k.has n∧oh ks r
  | .str::ks,ds=> ∃(b:ByteArray) (r:List D),ds= .str b::r∧(b.size:Int)≤IntKind.i64.max∧oh ks r
def rD (P:Program) (t:TypeId):Option LK:=match P.underlying t with
  |some .bool=>some .bool
  |some (.int k)=>some (.int k)
  |some .string=>some .str
  |_=>none
def KX (P:Program):List TypeId→Option (List LK)
  | []=>some []
  |t::r=>match rD P t,KX P r with
    |some k,some l=>some (k::l)
    |_,_=>none
theorem Gi {P:Program} {w:World} {r:Reach} {b:Nat} {t:TypeId} {v:Value} {k:LK} (hk:rD P t=some k) (h:Cell.okWide P w r b t v):∃d:D,tk v=some d∧∀ks ds,oh ks ds→oh (k::ks) (d::ds):=by
 unfold rD at hk
 unfold Cell.okWide Cell.ok at h
 split at hk
 ·rename_i hu
  obtain rfl:=Option.some.inj hk
  rw [hu] at h
  cases v<;>simp at h
  exact ⟨_,rfl,fun ks ds q=>⟨_,_,rfl,q⟩⟩
 ·rename_i k' hu
  obtain rfl:=Option.some.inj hk
  rw [hu] at h
  cases v<;>simp at h
  obtain ⟨rfl,h⟩:=h
  exact ⟨_,rfl,fun ks ds q=>⟨_,_,rfl,h,q⟩⟩
 ·rename_i hu
  obtain rfl:=Option.some.inj hk
  rw [hu] at h
  cases v<;>simp at h
  exact ⟨_,rfl,fun ks ds q=>⟨_,_,rfl,h,q⟩⟩
 ·cases hk
theorem HV {P:Program} {w:World} {r:Reach} {b:Nat} {t:TypeId} {v:Value} {k:LK} {M:MM} (hk:rD P t=some k) (h:Value.okWide P w r b t v):∃d:D,oh [k] [d]∧cz M d v:=by
 have hc:Cell.okWide P w r b t v:=by
  unfold Value.okWide at h
  unfold rD at hk
  split at hk
  ·rename_i hu;rw [hu] at h;exact h
  ·rename_i hu;rw [hu] at h;exact h
  ·rename_i hu;rw [hu] at h;exact h
  ·cases hk
 obtain ⟨d,h1,h2⟩:=Gi hk hc
 exact ⟨d,h2 [] [] rfl,qj h1⟩
def zn (w:World):Nat→Nat→Option Value:=fun b o=>w.cell? ⟨b,o,none⟩
theorem aY.Pu {P:Program} {f:FuncId} {args:List D} (h:aY P f args (ax true)) {W:World} {vs:Array Value} (hr:cN (gn (zn W)) args vs):Calls P f vs W fun e W'=>e= .returned (.bool true)∧Below W.heap.size W W':=by
 refine Calls.mono (h.run W (zn W) vs (fun b o v k=>k) hr) ?_
 rintro e W' ⟨v,C',rfl,hext,QR,_⟩
 cases QR
 exact ⟨rfl,hext.below⟩
end Go.Ev
