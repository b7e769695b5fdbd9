import Derived.ProofKit
import Derived.Carry
import Derived.SizedLaws
import Derived.Test.YtkpneibifdoecaaGreatU04
open Option.some renaming inj→Vk,injEq→Vs
/- Contracts and plain laws that a statement's proof leans on (texts merged:EvR). -/
set_option linter.unusedVariables false
set_option linter.unusedSimpArgs false
namespace Go.Ev
open Go Go.RowKit Go.ChangeShapes Go.WideShapes
theorem lq {H:Type} {enc:TypeId×Value→H} {P:Program} (hl:laidOutB P=true) {W W':World} (hb:Below W.heap.size W W'):∀ {ts:List TypeId} {vs:List Value} {ds:List (DataW H)} {ps:List MemPlace},
  (∀t∈ts,P.readableRec t=true∧t<P.types.size)→DataW.TrodAll enc P W 0 (fun _=>true) true ts vs ds ps→(∀x∈ps,x.block<W.heap.size)→DataW.TrodAll enc P W' 0 (fun b=>decide (b<W.heap.size)) true ts vs ds ps
 | [],vs,ds,ps,_,h,_=>by
  obtain ⟨rfl,rfl,rfl⟩:=trodAll_nil h
  rfl
 |t::ts,vs,ds,ps,hr,h,hp=>by
  obtain ⟨v,vs',d,TN,p,q,rfl,rfl,rfl,h1,h2⟩:=trodAll_cons h
  have U3:=hr t (by simp)
  exact ⟨p,q,Below.trod hl U3.1 U3.2 h1 hb (fun x hx=>hp x (by simp [hx])),lq hl hb (fun t ht=>hr t (by simp [ht])) h2 (fun x hx=>hp x (by simp [hx])),rfl⟩
theorem jX {H:Type} {enc:TypeId×Value→H} {P:Program} {W:World} {b:Nat} {sp:Nat→Bool} {hd:Bool} :∀ {ts:List TypeId} {vs:List Value} {ds:List (DataW H)} {ps:List MemPlace},DataW.TrodAll enc P W b sp hd ts vs ds ps→vs.length=ts.length∧ds.length=ts.length
 | [],vs,ds,ps,h=>by
  obtain ⟨rfl,rfl,rfl⟩:=trodAll_nil h
  exact ⟨rfl,rfl⟩
 |t::ts,vs,ds,ps,h=>by
  obtain ⟨v,vs',d,TN,p,q,rfl,rfl,rfl,h1,h2⟩:=trodAll_cons h
  obtain ⟨k1,k2⟩:=jX h2
  exact ⟨by simp [k1],by simp [k2]⟩
theorem xR {a:Assume} {H:Type} {enc:TypeId×Value→H} {C:Checked} {os:Os} {f:FuncId} {fn:Func} {s:ChangeSpec} {conds:List PathCond} {fresh handsOn:Bool} {tb:TypeId}
  (own:ownKnob C.prog.godebug=none) (started:os.Started) (Sz:C.prog.inits.idxOf? f=none) (hfn:C.prog.funcs[f]? =some fn) (hl:laidOutB C.prog=true) (Rm:s.vars= [])
  (RR:∀t∈fn.params.toList,C.prog.readableRec t=true∧t<C.prog.types.size) (TV:fn.resultTypes= #[tb]) (htb:C.prog.underlying tb=some .bool)
  (S1:∀ds:List (DataW H),ds.length=fn.params.toList.length→(s.fn H ds).results= [.lit (.bool true)]∧(s.fn H ds).args=ds∧(s.fn H ds).vars= [])
  (witness:∃(w:World) (tape:Tape) (i:Input),w.os=os∧(w.forCall tape i).Shaped C.prog∧i.vars= []∧Input.okWide C.prog (w.forCall tape i) .any w.heap.size f i∧
   s.pre6 enc C.prog fn conds false (w.forCall tape i).memory i.args∧a.holds C.prog (lone (Frame.enter C.prog f i.args .normal) [] (w.forCall tape i)))
  (K4:∀(W:World) (base:Nat) (args:Array Value) (ds:List (DataW H)) (ps:List MemPlace),(∀(j:Nat) t v,fn.params[j]? =some t→args[j]? =some v→Value.okWide C.prog W .any base t v)→
   args.toList.length=fn.params.toList.length→DataW.TrodAll enc C.prog W 0 (fun _=>true) true fn.params.toList args.toList ds ps→(DataW.weightsEach C.prog fn.params.toList ds).all (· ≤reachBytes)=true→
   Calls C.prog f args W fun e W'=>e= .returned (.bool true)∧Below W.heap.size W W'):
  ReturnsInHanded a C os f .any (s.pre6 enc C.prog fn conds false) (s.post enc C.prog fn false fresh handsOn false):=by
 refine returnsInHanded_of_change_sized own started Sz hfn witness ?_
 intro W base args ds gs before Pa hW _ hz _
 have UO:=hW
 obtain ⟨p,q,hA,hV,rfl,Sr,hnd⟩:=hW
 rw [Rm] at hV
 obtain ⟨rfl,rfl⟩:=trodVars_none hV
 obtain ⟨l1,l2⟩:=jX hA
 have hz':(DataW.weightsEach C.prog fn.params.toList ds).all (· ≤reachBytes)=true:=by
  have e:s.plain.varTypes C.prog= []:=by simp [ChangeSpec.plain,DataSpec.varTypes,Rm]
  rw [e,List.append_nil,List.append_nil] at hz
  exact hz
 refine (K4 W base args ds p Pa l1 hA hz').mono fun e W' ⟨he,hb⟩=> ?_
 subst he
 refine ⟨_,rfl,ds,[],p++ [],[],p,[],UO,?_⟩
 rw [List.append_nil]
 obtain ⟨s1,s2,s3⟩:=S1 ds l2
 rw [s1,s2,s3,TV,Rm]
 refine ⟨?_,lq hl hb RR hA (fun x hx=>by simpa using UO.lt x (by simpa using hx)),rfl,Below.frame hb _,fun h=>nomatch h⟩
 exact trodAll_mk1 (shut_bool htb true)
def nS:List LK→List D→Prop
  | [],ds=>ds= []
  | .bool::ks,ds=> ∃(b:Bool) (r:List D),ds= .bool b::r∧nS ks r
  | .int k::ks,ds=> ∃(n:Int) (r:List D),ds= .int k n::r∧k.has n∧nS ks r
  | .str::ks,ds=> ∃(b:ByteArray) (r:List D),ds= .str b::r∧(b.size:Int)≤IntKind.i64.max∧nS ks r
def xV (P:Program) (t:TypeId):Option LK:=match P.underlying t with
  |some .bool=>some .bool
  |some (.int k)=>some (.int k)
  |some .string=>some .str
  |_=>none
def mB (P:Program):List TypeId→Option (List LK)
  | []=>some []
  |t::r=>match xV P t,mB P r with
    |some k,some l=>some (k::l)
    |_,_=>none
theorem Cf {P:Program} {w:World} {r:Reach} {b:Nat} {t:TypeId} {v:Value} {k:LK} (hk:xV P t=some k) (h:Cell.okWide P w r b t v):∃d:D,qQ v=some d∧∀ks ds,nS ks ds→nS (k::ks) (d::ds):=by
 unfold xV at hk
 unfold Cell.okWide Cell.ok at h
 split at hk
 ·rename_i hu
  obtain rfl:=Vk hk
  rw [hu] at h
  cases v<;>simp at h
  exact ⟨_,rfl,fun ks ds q=>⟨_,_,rfl,q⟩⟩
 ·rename_i k' hu
  obtain rfl:=Vk hk
  rw [hu] at h
  cases v<;>simp at h
  obtain ⟨rfl,h⟩:=h
  exact ⟨_,rfl,fun ks ds q=>⟨_,_,rfl,h,q⟩⟩
 ·rename_i hu
  obtain rfl:=Vk hk
  rw [hu] at h
  cases v<;>simp at h
  exact ⟨_,rfl,fun ks ds q=>⟨_,_,rfl,h,q⟩⟩
 ·cases hk
theorem qf {P:Program} {w:World} {r:Reach} {b:Nat} :∀ {ts:List TypeId} {ks:List LK} {vs:List Value},mB P ts=some ks→vs.length=ts.length→(∀(i:Nat) (t:TypeId) (v:Value),ts[i]? =some t→vs[i]? =some v→Cell.okWide P w r b t v)→
  ∃ds:List D,gz vs=some ds∧nS ks ds
 | [],ks,vs,hk,hl,h=>by
  simp only [mB,Vs] at hk
  subst hk
  cases vs with
  |nil=>exact ⟨[],rfl,rfl⟩
  |cons a b=>simp at hl
 |t::ts,ks,vs,hk,hl,h=>by
  simp only [mB] at hk
  split at hk
  ·rename_i k l h1 h2
   obtain rfl:=Vk hk
   cases vs with
   |nil=>simp at hl
   |cons v vs=>
    obtain ⟨d,e1,e2⟩:=Cf h1 (h 0 t v rfl rfl)
    obtain ⟨ds,e3,e4⟩:=qf h2 (by simpa using hl) (fun i t' v' p q=>h (i+1) t' v' (by simpa using p) (by simpa using q))
    exact ⟨d::ds,by simp [gz,e1,e3],e2 _ _ e4⟩
  ·cases hk
theorem wM {P:Program} {w:World} {r:Reach} {b:Nat} {t:TypeId} {v:Value} {ts:List TypeId} {ks:List LK} {M:MM} {e:TypeDesc} (hu:P.underlying t=some e) (ha:cF e=true) (hct:P.cellTypes P.depth t=some ts) (hlen:ts.length=P.cellsOf t) (hk:mB P ts=some ks)
  (h:Value.okWide P w r b t v):∃ds:List D,nS ks ds∧bo M (.agg ds) v:=by
 have UB:∃cs,v= .agg cs∧cs.size=P.cellsOf t∧Row.okWide P w r b t cs:=by
  unfold Value.okWide at h
  rw [hu] at h
  cases e<;>first|exact h|cases ha
 obtain ⟨cs,rfl,OT,ts',hct',_,PU⟩:=UB
 rw [hct] at hct'
 obtain rfl:=Vk hct'
 have Pu:∀(i:Nat) (t':TypeId) (v':Value),ts[i]? =some t'→cs.toList[i]? =some v'→Cell.okWide P w r b t' v':=by
  intro i t' v' p q
  rw [Array.getElem?_toList] at q
  obtain ⟨u,h1,h2⟩:=PU i v' q
  have OK:i<ts.length:=by
   rcases Nat.lt_or_ge i ts.length with x|x
   ·exact x
   ·rw [List.getElem?_eq_none x] at p;cases p
  rw [Nat.mod_eq_of_lt OK,p] at h1
  obtain rfl:=Vk h1
  exact h2
 obtain ⟨ds,e1,e2⟩:=qf hk (by simp [OT,hlen]) Pu
 obtain ⟨k1,k2⟩:=mm (M:=M) e1
 exact ⟨ds,e2,.agg (by simpa using k1) (fun i d v p q=>k2 i d v p (by simpa using q))⟩
def rP (w:World):Nat→Nat→Option Value:=fun b o=>w.cell? ⟨b,o,none⟩
theorem aZ.K4 {P:Program} {f:FuncId} {args:List D} (h:aZ P f args (.bool true)) {W:World} {vs:Array Value} (hr:bT (ep (rP W)) args vs):Calls P f vs W fun e W'=>e= .returned (.bool true)∧Below W.heap.size W W':=by
 refine Calls.mono (h.run W (rP W) vs (fun b o v k=>k) hr) ?_
 rintro e W' ⟨v,C',rfl,hext,OP,_⟩
 cases OP
 exact ⟨rfl,hext.below⟩
end Go.Ev
