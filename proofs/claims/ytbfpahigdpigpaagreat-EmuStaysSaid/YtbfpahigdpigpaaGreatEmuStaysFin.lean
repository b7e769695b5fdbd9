import Derived.Test.YtbfpahigdpigpaaGreatRows
import Derived.Test.YtbfpahigdpigpaaGreatS10
import Derived.Test.YtbfpahigdpigpaaGreatS11
import Derived.Test.YtbfpahigdpigpaaGreatS19
import Derived.Test.YtbfpahigdpigpaaGreatS21
/- EmuStays returns true whatever its arguments;no condition. -/
namespace Go.Proofs.YtbfpahigdpigpaaGreat
open Go.ChangeShapes Go.WideShapes Go.ChangeAt Go.RowKit Go.Ev
set_option linter.unusedVariables false
set_option linter.unusedSimpArgs false

theorem wO:ownKnob Tryz.prog.godebug=none:=by kernel_rfl
theorem tc:laidOutB Tryz.prog=true:=by kernel_rfl
def NF:List LK:= [.int .u64]
theorem GJ (ds:List D) (h:oh NF ds):(Nc ds).cells=some ds:=by
  simp only [NF,oh] at h
  obtain ⟨n,r,rfl,_,rfl⟩:=h
  rfl
theorem GI:∀(xs:List (List D)),(∀ds∈xs,oh NF ds)→∃l:List Int,xs.map Nc=wD l∧True∧l.length=xs.length
  | [],_=>⟨[],rfl,trivial,rfl⟩
  |ds::r,h=>by
    obtain ⟨l,e,ho,hl⟩:=GI r (fun d hd=>h d (List.mem_cons_of_mem _ hd))
    have h1:=h ds (List.mem_cons_self ..)
    simp only [NF,oh] at h1
    obtain ⟨n,r',rfl,hn,rfl⟩:=h1
    exact ⟨n::l,by rw [List.map_cons,e];rfl,trivial,by simp [hl]⟩

set_option maxRecDepth 100000 in
theorem wP {H : Type} {enc : TypeId × Value → H} {Vv : List (DataW H)} {ps0 : List MemPlace} (W : World) (aa : Nat) (args : Array Value) (Rb : ∀ (j : Nat) t v, Tryz.f7.params[j]? = some t → args[j]? = some v → Value.okWide Tryz.prog W .any aa t v) (hlen : args.toList.length = Tryz.f7.params.toList.length) (hA : DataW.TrodAll enc Tryz.prog W 0 (fun _ => true) true Tryz.f7.params.toList args.toList Vv ps0) :
    Calls Tryz.prog 7 args W fun e W'=>e= .returned (.bool true)∧Below W.heap.size W W':=by
  rw [Tryz.params7] at hlen Rb hA
  obtain ⟨v0,v1,v2,v3,rfl⟩:∃v0 v1 v2 v3,args= #[v0,v1,v2,v3]:=by
    rcases args with ⟨l⟩
    match l,hlen with
    | [v0,v1,v2,v3],_=>exact ⟨v0,v1,v2,v3,rfl⟩
  obtain ⟨a0,len0,cap0,ev0⟩:=okWide_slice Tryz.underlying22 (Rb 0 22 v0 rfl rfl)
  obtain ⟨fu0,ft0,hf0⟩:=nN hA 0 22 v0 rfl rfl
  rw [show v0.cells.toList= [v0] by rw [ev0];rfl] at hf0
  obtain ⟨WS,UC,hn0,hr0⟩:=lY (ks:=NB) Nc za Tryz.underlying22 (by kernel_rfl) (by kernel_rfl) (by decide) hf0
  obtain ⟨cb,e0,ho0,WW⟩:=BI WS UC
  rw [e0] at hr0
  obtain ⟨a1,len1,cap1,ev1⟩:=okWide_slice Tryz.underlying22 (Rb 1 22 v1 rfl rfl)
  obtain ⟨fu1,ft1,U4⟩:=nN hA 1 22 v1 rfl rfl
  rw [show v1.cells.toList= [v1] by rw [ev1];rfl] at U4
  obtain ⟨xs1,UP,UY,Th⟩:=lY (ks:=NB) Nc za Tryz.underlying22 (by kernel_rfl) (by kernel_rfl) (by decide) U4
  obtain ⟨cx,e1,ho1,hl1⟩:=BI xs1 UP
  rw [e1] at Th
  obtain ⟨a2,len2,cap2,ev2⟩:=okWide_slice Tryz.underlying23 (Rb 2 23 v2 rfl rfl)
  obtain ⟨fu2,ft2,Ut⟩:=nN hA 2 23 v2 rfl rfl
  rw [show v2.cells.toList= [v2] by rw [ev2];rfl] at Ut
  obtain ⟨xs2,TY,TH,hr2⟩:=lY (ks:=NF) Nc GJ Tryz.underlying23 (by kernel_rfl) (by kernel_rfl) (by decide) Ut
  obtain ⟨an,e2,VE,TA⟩:=GI xs2 TY
  rw [e2] at hr2
  obtain ⟨d3,hk3,hr3⟩:=HV (M:=gn (zn W)) (k:= .int .i64) (by kernel_rfl) (Rb 3 3 v3 rfl rfl)
  simp only [oh] at hk3
  obtain ⟨f,r3,e3,h_f,_⟩:=hk3
  obtain rfl:=(List.cons.inj e3).1
  refine aY.Pu (Dt cb cx an ho0 f) ⟨rfl,?_⟩
  intro i d v' h1 h2
  match i,h1,h2 with
  |0,h1,h2=>
    simp at h1 h2
    subst h1 h2
    exact hr0
  |1,h1,h2=>
    simp at h1 h2
    subst h1 h2
    exact Th
  |2,h1,h2=>
    simp at h1 h2
    subst h1 h2
    exact hr2
  |3,h1,h2=>
    simp at h1 h2
    subst h1 h2
    exact hr3

set_option maxRecDepth 100000 in
theorem qb (os : Os) (started : os.Started) (H : Type) (enc : TypeId × Value → H) :
    ReturnsInHanded {} Tryz.checked os 7 .any (Rows.emuStaysSpec.pre6 enc Tryz.prog Tryz.f7 Rows.emuStaysRow.domain false) (Rows.emuStaysSpec.post enc Tryz.prog Tryz.f7 false true false false):=
  Ay (C:=Tryz.checked) (tb:=4) wO started (by kernel_rfl) Tryz.func7 tc rfl
    (by rw [Tryz.params7];intro t ht;simp at ht;rcases ht with rfl|rfl|rfl|rfl<;>exact ⟨by kernel_rfl,by decide+kernel⟩) (by kernel_rfl) Tryz.underlying4
    (by
      intro ds hl
      have Sg:ds.length=4:=hl
      match ds,Sg with
      | [d0,d1,d2,d3],_=>exact ⟨rfl,rfl,rfl⟩)
    (ChangeSpec.witness6 (enc:=enc) (C:=Tryz.checked) false ⟨#[],#[.slice none 0 0,.slice none 0 0,.slice none 0 0,.int .i64 0],[]⟩ 8 (by kernel_rfl) (by kernel_rfl) (by kernel_rfl) (by kernel_rfl))
    (fun W aa args ds ps Rb hlen hA _=>wP W aa args Rb hlen hA)

theorem emuStays_holds:Rows.EmuStaysSaid:=
  OpenClaim.holds_of_wide 7 Tryz.f7 rfl rfl rfl rfl rfl rfl rfl ⟨rfl,rfl,rfl,rfl,rfl⟩ rfl rfl rfl rfl rfl (by kernel_rfl) Tryz.func7 (by kernel_rfl)
    (of_decide_eq_true (by kernel_rfl)) (by unfold Func.isWrapper;first|(rw [if_pos (by decide+kernel)];kernel_rfl)|(rw [if_neg (by decide+kernel)];exact ⟨rfl,rfl⟩))
    (fun os started H enc _=>qb os started H enc)
end Go.Proofs.YtbfpahigdpigpaaGreat
#print axioms Go.Proofs.YtbfpahigdpigpaaGreat.emuStays_holds
