import Derived.ProofKit
import Derived.Carry
import Derived.SizedLaws
import Derived.Test.YtbfpahigdpigpaaGreatQ04
import Derived.Test.YtbfpahigdpigpaaGreatQ05
open BitVec renaming ofInt→Z8
/- Contracts and plain laws that a statement's proof leans on (texts merged:MdM,EvR). -/
set_option linter.unusedVariables false
set_option linter.unusedSimpArgs false
namespace Go.Ev
open Go
def u64 (n:Int):Int:=IntKind.u64.wrap n
def aI (v w:Int):Int:=if w=8 then v%256 else if w=16 then v%65536 else if w=32 then v%4294967296 else v
def eV (v w:Int):Int:=
  if w=8 then u64 (IntKind.i8.wrap v) else if w=16 then u64 (IntKind.i16.wrap v) else if w=32 then u64 (IntKind.i32.wrap v) else v
def fG (v w:Int):Bool:=decide (IntKind.i64.wrap (eV v w)<0)
def rJ (a b:Int):Int:=u64 ((Z8 64 a^^^Z8 64 b).toNat:Int)
def qn (a b:Int):Int:=u64 ((Z8 64 a&&&Z8 64 b).toNat:Int)
def Qz (a b:Int):Int:=u64 ((Z8 64 a|||Z8 64 b).toNat:Int)
def fD (k c z s o:Bool):D:= .agg [ax k,ax c,ax z,ax s,ax o]
def TL (b w:Int):Int:=qn b (u64 (IntKind.i8.wrap (w - 1)))
def tX (op a b Y2 w:Int):Int:=
  if op=0 then u64 (a+b)
  else if op=1 then u64 (a - b)
  else if op=2 then u64 (a*b)
  else if op=3 then (if b=0 then 0 else u64 (a.tdiv b))
  else if op=4 then Qz a b
  else if op=5 then qn a b
  else if op=6 then u64 (a*2^(min Y2.toNat 64))
  else if op=7 then a.fdiv (2^(min Y2.toNat 64))
  else if op=8 then u64 (0 - a)
  else if op=9 then (if b=0 then a else a.tmod b)
  else if op=10 then rJ a b
  else if op=11 then b
  else u64 ((IntKind.i64.wrap (eV a w)).fdiv (2^(min Y2.toNat 64)))
def ft (op w a b:Int):Int:=aI (tX op (aI a w) (aI b w) (TL (aI b w) w) w) w
theorem Rv {x c:Int} {v:Bool} (h:(x==c)=v):decide (x≠c)= !v:=by
 rw [← h];by_cases e:x=c<;>simp [e]
def rg (l:List Int) (i:Int):Int:=l.getD i.toNat 0
def st (j i v r:Int):Int:=if i=j then v else r
theorem cu {i:Int} (h0:0≤i) (h1:i≤15):decide ((0:Int)≤i∧i<((16:Nat):Int))=true:=by
 rw [bS];omega
def Th (i v r0 r1 r2 r3 r4 r5 r6 r7 r8 r9 UC Un WI Vc UD V6:Int) (tl:List D):List D:= .int .u64 (st 0 i v r0)::au (st 1 i v r1)::au (st 2 i v r2)::au (st 3 i v r3)::au (st 4 i v r4)::au (st 5 i v r5)::au (st 6 i v r6)::au (st 7 i v r7)::au (st 8 i v r8)::au (st 9 i v r9)::au (st 10 i v UC)::au (st 11 i v Un)::au (st 12 i v WI)::au (st 13 i v Vc)::au (st 14 i v UD)::au (st 15 i v V6)::tl
abbrev uu:D:= .undef
abbrev nM (l:List D) (i:Nat) (xs l':List D):Prop:=l.take i++(xs++l.drop (i+xs.length))=l'∧i+xs.length≤l.length
abbrev nN (l:List D) (i n:Nat) (l':List D):Prop:=(l.drop i).take n=l'∧i+n≤l.length
section
variable {r0 r1 r2 r3 r4 r5 r6 r7 r8 r9 UC Un WI Vc UD V6 i v:Int} {tl:List D}
theorem iX (h0:0≤i) (h1:i≤15):(D.int .u64 r0::D.int .u64 r1::D.int .u64 r2::D.int .u64 r3::D.int .u64 r4::D.int .u64 r5::D.int .u64 r6::D.int .u64 r7::D.int .u64 r8::D.int .u64 r9::D.int .u64 UC::D.int .u64 Un::D.int .u64 WI::D.int .u64 Vc::D.int .u64 UD::D.int .u64 V6::tl:List D)[0+i.toNat*1]? =
  some (au (rg [r0,r1,r2,r3,r4,r5,r6,r7,r8,r9,UC,Un,WI,Vc,UD,V6] i)):=by
 obtain ⟨n,rfl⟩:=iC h0 h1
 have:n.val=0∨n.val=1∨n.val=2∨n.val=3∨n.val=4∨n.val=5∨n.val=6∨n.val=7∨n.val=8∨n.val=9∨n.val=10∨n.val=11∨n.val=12∨n.val=13∨n.val=14∨n.val=15:=by omega
 rcases this with e|e|e|e|e|e|e|e|e|e|e|e|e|e|e|e<;>rw [e]<;>rfl
theorem oU (h0:0≤i) (h1:i≤15):nM (D.int .u64 r0::D.int .u64 r1::D.int .u64 r2::D.int .u64 r3::D.int .u64 r4::D.int .u64 r5::D.int .u64 r6::D.int .u64 r7::D.int .u64 r8::D.int .u64 r9::D.int .u64 UC::D.int .u64 Un::D.int .u64 WI::D.int .u64 Vc::D.int .u64 UD::D.int .u64 V6::tl:List D) (0+i.toNat*1) [D.int .u64 v]
  (D.int .u64 (st 0 i v r0)::D.int .u64 (st 1 i v r1)::D.int .u64 (st 2 i v r2)::D.int .u64 (st 3 i v r3)::D.int .u64 (st 4 i v r4)::D.int .u64 (st 5 i v r5)::D.int .u64 (st 6 i v r6)::D.int .u64 (st 7 i v r7)::D.int .u64 (st 8 i v r8)::D.int .u64 (st 9 i v r9)::D.int .u64 (st 10 i v UC)::D.int .u64 (st 11 i v Un)::D.int .u64 (st 12 i v WI)::D.int .u64 (st 13 i v Vc)::D.int .u64 (st 14 i v UD)::D.int .u64 (st 15 i v V6)::tl):=by
 obtain ⟨n,rfl⟩:=iC h0 h1
 have:n.val=0∨n.val=1∨n.val=2∨n.val=3∨n.val=4∨n.val=5∨n.val=6∨n.val=7∨n.val=8∨n.val=9∨n.val=10∨n.val=11∨n.val=12∨n.val=13∨n.val=14∨n.val=15:=by omega
 rcases this with e|e|e|e|e|e|e|e|e|e|e|e|e|e|e|e<;>rw [e]<;>refine ⟨rfl,by simp⟩
end
open Go Go.RowKit Go.ChangeShapes Go.WideShapes
theorem nG {H:Type} {enc:TypeId×Value→H} {P:Program} (hl:laidOutB P=true) {W W':World} (hb:Below W.heap.size W W'):∀ {ts:List TypeId} {vs:List Value} {ds:List (DataW H)} {ps:List MemPlace},
  (∀t∈ts,P.readableRec t=true∧t<P.types.size)→DataW.TrodAll enc P W 0 (fun _=>true) true ts vs ds ps→(∀x∈ps,x.block<W.heap.size)→DataW.TrodAll enc P W' 0 (fun b=>decide (b<W.heap.size)) true ts vs ds ps
 | [],vs,ds,ps,_,h,_=>by
  obtain ⟨rfl,rfl,rfl⟩:=trodAll_nil h
  rfl
 |t::ts,vs,ds,ps,hr,h,hp=>by
  obtain ⟨v,vs',d,YR,p,q,rfl,rfl,rfl,h1,h2⟩:=trodAll_cons h
  have Z3:=hr t (by simp)
  exact ⟨p,q,Below.trod hl Z3.1 Z3.2 h1 hb (fun x hx=>hp x (by simp [hx])),nG hl hb (fun t ht=>hr t (by simp [ht])) h2 (fun x hx=>hp x (by simp [hx])),rfl⟩
theorem l5 {H:Type} {enc:TypeId×Value→H} {P:Program} {W:World} {b:Nat} {sp:Nat→Bool} {hd:Bool} :∀ {ts:List TypeId} {vs:List Value} {ds:List (DataW H)} {ps:List MemPlace},DataW.TrodAll enc P W b sp hd ts vs ds ps→vs.length=ts.length∧ds.length=ts.length
 | [],vs,ds,ps,h=>by
  obtain ⟨rfl,rfl,rfl⟩:=trodAll_nil h
  exact ⟨rfl,rfl⟩
 |t::ts,vs,ds,ps,h=>by
  obtain ⟨v,vs',d,YR,p,q,rfl,rfl,rfl,h1,h2⟩:=trodAll_cons h
  obtain ⟨k1,k2⟩:=l5 h2
  exact ⟨by simp [k1],by simp [k2]⟩
theorem C7 {a:Assume} {H:Type} {enc:TypeId×Value→H} {C:Checked} {os:Os} {f:FuncId} {fn:Func} {s:ChangeSpec} {conds:List PathCond} {fresh handsOn:Bool} {tb:TypeId}
  (own:ownKnob C.prog.godebug=none) (started:os.Started) (Xo:C.prog.inits.idxOf? f=none) (hfn:C.prog.funcs[f]? =some fn) (hl:laidOutB C.prog=true) (Wy:s.vars= [])
  (W3:∀t∈fn.params.toList,C.prog.readableRec t=true∧t<C.prog.types.size) (Y7:fn.resultTypes= #[tb]) (htb:C.prog.underlying tb=some .bool)
  (Yr:∀ds:List (DataW H),ds.length=fn.params.toList.length→(s.fn H ds).results= [.lit (.bool true)]∧(s.fn H ds).args=ds∧(s.fn H ds).vars= [])
  (witness:∃(w:World) (tape:Tape) (i:Input),w.os=os∧(w.forCall tape i).Shaped C.prog∧i.vars= []∧Input.okWide C.prog (w.forCall tape i) .any w.heap.size f i∧
   s.pre6 enc C.prog fn conds false (w.forCall tape i).memory i.args∧a.holds C.prog (lone (Frame.enter C.prog f i.args .normal) [] (w.forCall tape i)))
  (Sf:∀(W:World) (base:Nat) (args:Array Value) (ds:List (DataW H)) (ps:List MemPlace),(∀(j:Nat) t v,fn.params[j]? =some t→args[j]? =some v→Value.okWide C.prog W .any base t v)→
   args.toList.length=fn.params.toList.length→DataW.TrodAll enc C.prog W 0 (fun _=>true) true fn.params.toList args.toList ds ps→(DataW.weightsEach C.prog fn.params.toList ds).all (· ≤reachBytes)=true→
   Calls C.prog f args W fun e W'=>e= .returned (.bool true)∧Below W.heap.size W W'):
  ReturnsInHanded a C os f .any (s.pre6 enc C.prog fn conds false) (s.post enc C.prog fn false fresh handsOn false):=by
 refine returnsInHanded_of_change_sized own started Xo hfn witness ?_
 intro W base args ds gs before Uj hW _ hz _
 have ZQ:=hW
 obtain ⟨p,q,hA,hV,rfl,Xs,hnd⟩:=hW
 rw [Wy] at hV
 obtain ⟨rfl,rfl⟩:=trodVars_none hV
 obtain ⟨l1,l2⟩:=l5 hA
 have hz':(DataW.weightsEach C.prog fn.params.toList ds).all (· ≤reachBytes)=true:=by
  have e:s.plain.varTypes C.prog= []:=by simp [ChangeSpec.plain,DataSpec.varTypes,Wy]
  rw [e,List.append_nil,List.append_nil] at hz
  exact hz
 refine (Sf W base args ds p Uj l1 hA hz').mono fun e W' ⟨he,hb⟩=> ?_
 subst he
 refine ⟨_,rfl,ds,[],p++ [],[],p,[],ZQ,?_⟩
 rw [List.append_nil]
 obtain ⟨s1,s2,s3⟩:=Yr ds l2
 rw [s1,s2,s3,Y7,Wy]
 refine ⟨?_,nG hl hb W3 hA (fun x hx=>by simpa using ZQ.lt x (by simpa using hx)),rfl,Below.frame hb _,fun h=>nomatch h⟩
 exact trodAll_mk1 (shut_bool htb true)
def pb:List LK→List D→Prop
  | [],ds=>ds= []
  | .bool::ks,ds=> ∃(b:Bool) (r:List D),ds= .bool b::r∧pb ks r
  | .int k::ks,ds=> ∃(n:Int) (r:List D),ds= .int k n::r∧k.has n∧pb ks r
  | .str::ks,ds=> ∃(b:ByteArray) (r:List D),ds= .str b::r∧(b.size:Int)≤IntKind.i64.max∧pb ks r
def sP (P:Program) (t:TypeId):Option LK:=match P.underlying t with
  |some .bool=>some .bool
  |some (.int k)=>some (.int k)
  |some .string=>some .str
  |_=>none
def MP (P:Program):List TypeId→Option (List LK)
  | []=>some []
  |t::r=>match sP P t,MP P r with
    |some k,some l=>some (k::l)
    |_,_=>none
theorem IA {P:Program} {w:World} {r:Reach} {b:Nat} {t:TypeId} {v:Value} {k:LK} (hk:sP P t=some k) (h:Cell.okWide P w r b t v):∃d:D,uI v=some d∧∀ks ds,pb ks ds→pb (k::ks) (d::ds):=by
 unfold sP at hk
 unfold Cell.okWide Cell.ok at h
 split at hk
 ·rename_i hu
  obtain rfl:=Option.some.inj hk
  rw [hu] at h
  cases v<;>simp at h
  exact ⟨_,rfl,fun ks ds q=>⟨_,_,rfl,q⟩⟩
 ·rename_i k' hu
  obtain rfl:=Option.some.inj hk
  rw [hu] at h
  cases v<;>simp at h
  obtain ⟨rfl,h⟩:=h
  exact ⟨_,rfl,fun ks ds q=>⟨_,_,rfl,h,q⟩⟩
 ·rename_i hu
  obtain rfl:=Option.some.inj hk
  rw [hu] at h
  cases v<;>simp at h
  exact ⟨_,rfl,fun ks ds q=>⟨_,_,rfl,h,q⟩⟩
 ·cases hk
theorem Ks {P:Program} {w:World} {r:Reach} {b:Nat} {t:TypeId} {v:Value} {k:LK} {M:MM} (hk:sP P t=some k) (h:Value.okWide P w r b t v):∃d:D,pb [k] [d]∧b7 M d v:=by
 have hc:Cell.okWide P w r b t v:=by
  unfold Value.okWide at h
  unfold sP at hk
  split at hk
  ·rename_i hu;rw [hu] at h;exact h
  ·rename_i hu;rw [hu] at h;exact h
  ·rename_i hu;rw [hu] at h;exact h
  ·cases hk
 obtain ⟨d,h1,h2⟩:=IA hk hc
 exact ⟨d,h2 [] [] rfl,qY h1⟩
def BB (w:World):Nat→Nat→Option Value:=fun b o=>w.cell? ⟨b,o,none⟩
theorem aP.Sf {P:Program} {f:FuncId} {args:List D} (h:aP P f args (ax true)) {W:World} {vs:Array Value} (hr:cy (gr (BB W)) args vs):Calls P f vs W fun e W'=>e= .returned (.bool true)∧Below W.heap.size W W':=by
 refine Calls.mono (h.run W (BB W) vs (fun b o v k=>k) hr) ?_
 rintro e W' ⟨v,C',rfl,hext,T0,_⟩
 cases T0
 exact ⟨rfl,hext.below⟩
end Go.Ev
