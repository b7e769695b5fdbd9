import Derived.Test.YtbfpahigdpigpaaGreatRows
import Derived.Test.YtbfpahigdpigpaaGreatQ06
import Derived.Test.YtbfpahigdpigpaaGreatQ07
import Derived.Test.YtbfpahigdpigpaaGreatQ17
import Derived.Test.YtbfpahigdpigpaaGreatQ20
/- EmuRuns returns true whatever its arguments;no condition. -/
namespace Go.Proofs.YtbfpahigdpigpaaGreat
open Go.ChangeShapes Go.WideShapes Go.ChangeAt Go.RowKit Go.Ev
set_option linter.unusedVariables false
set_option linter.unusedSimpArgs false

theorem Bj:ownKnob Tryz.prog.godebug=none:=by kernel_rfl
theorem yo:laidOutB Tryz.prog=true:=by kernel_rfl
def P3:List LK:= [.int .u64]
theorem I3 (ds:List D) (h:pb P3 ds):(Ps ds).cells=some ds:=by
  simp only [P3,pb] at h
  obtain ⟨n,r,rfl,_,rfl⟩:=h
  rfl
theorem I2:∀(xs:List (List D)),(∀ds∈xs,pb P3 ds)→∃l:List Int,xs.map Ps=wD l∧True∧l.length=xs.length
  | [],_=>⟨[],rfl,trivial,rfl⟩
  |ds::r,h=>by
    obtain ⟨l,e,ho,hl⟩:=I2 r (fun d hd=>h d (List.mem_cons_of_mem _ hd))
    have h1:=h ds (List.mem_cons_self ..)
    simp only [P3,pb] at h1
    obtain ⟨n,r',rfl,hn,rfl⟩:=h1
    exact ⟨n::l,by rw [List.map_cons,e];rfl,trivial,by simp [hl]⟩

set_option maxRecDepth 100000 in
theorem Bk {H : Type} {enc : TypeId × Value → H} {Yh : List (DataW H)} {ps0 : List MemPlace} (W : World) (aa : Nat) (args : Array Value) (Uj : ∀ (j : Nat) t v, Tryz.f5.params[j]? = some t → args[j]? = some v → Value.okWide Tryz.prog W .any aa t v) (hlen : args.toList.length = Tryz.f5.params.toList.length) (hA : DataW.TrodAll enc Tryz.prog W 0 (fun _ => true) true Tryz.f5.params.toList args.toList Yh ps0) :
    Calls Tryz.prog 5 args W fun e W'=>e= .returned (.bool true)∧Below W.heap.size W W':=by
  rw [Tryz.params5] at hlen Uj hA
  obtain ⟨v0,v1,v2,v3,rfl⟩:∃v0 v1 v2 v3,args= #[v0,v1,v2,v3]:=by
    rcases args with ⟨l⟩
    match l,hlen with
    | [v0,v1,v2,v3],_=>exact ⟨v0,v1,v2,v3,rfl⟩
  obtain ⟨a0,len0,cap0,ev0⟩:=okWide_slice Tryz.underlying22 (Uj 0 22 v0 rfl rfl)
  obtain ⟨fu0,ft0,hf0⟩:=ou hA 0 22 v0 rfl rfl
  rw [show v0.cells.toList= [v0] by rw [ev0];rfl] at hf0
  obtain ⟨Y9,XA,hn0,hr0⟩:=mw (ks:=P0) Ps Bs Tryz.underlying22 (by kernel_rfl) (by kernel_rfl) (by decide) hf0
  obtain ⟨cb,e0,ho0,ZL⟩:=Ee Y9 XA
  rw [e0] at hr0
  obtain ⟨a1,len1,cap1,ev1⟩:=okWide_slice Tryz.underlying22 (Uj 1 22 v1 rfl rfl)
  obtain ⟨fu1,ft1,XQ⟩:=ou hA 1 22 v1 rfl rfl
  rw [show v1.cells.toList= [v1] by rw [ev1];rfl] at XQ
  obtain ⟨xs1,XI,X5,Yj⟩:=mw (ks:=P0) Ps Bs Tryz.underlying22 (by kernel_rfl) (by kernel_rfl) (by decide) XQ
  obtain ⟨cx,e1,ho1,hl1⟩:=Ee xs1 XI
  rw [e1] at Yj
  obtain ⟨a2,len2,cap2,ev2⟩:=okWide_slice Tryz.underlying23 (Uj 2 23 v2 rfl rfl)
  obtain ⟨fu2,ft2,W8⟩:=ou hA 2 23 v2 rfl rfl
  rw [show v2.cells.toList= [v2] by rw [ev2];rfl] at W8
  obtain ⟨xs2,Wn,XT,hr2⟩:=mw (ks:=P3) Ps I3 Tryz.underlying23 (by kernel_rfl) (by kernel_rfl) (by decide) W8
  obtain ⟨an,e2,YS,WV⟩:=I2 xs2 Wn
  rw [e2] at hr2
  obtain ⟨d3,hk3,hr3⟩:=Ks (M:=gr (BB W)) (k:= .int .i64) (by kernel_rfl) (Uj 3 3 v3 rfl rfl)
  simp only [pb] at hk3
  obtain ⟨f,r3,e3,h_f,_⟩:=hk3
  obtain rfl:=(List.cons.inj e3).1
  refine aP.Sf (JE cb cx an ho0 f) ⟨rfl,?_⟩
  intro i d v' h1 h2
  match i,h1,h2 with
  |0,h1,h2=>
    simp at h1 h2
    subst h1 h2
    exact hr0
  |1,h1,h2=>
    simp at h1 h2
    subst h1 h2
    exact Yj
  |2,h1,h2=>
    simp at h1 h2
    subst h1 h2
    exact hr2
  |3,h1,h2=>
    simp at h1 h2
    subst h1 h2
    exact hr3

set_option maxRecDepth 100000 in
theorem tw (os : Os) (started : os.Started) (H : Type) (enc : TypeId × Value → H) :
    ReturnsInHanded {} Tryz.checked os 5 .any (Rows.emuRunsSpec.pre6 enc Tryz.prog Tryz.f5 Rows.emuRunsRow.domain false) (Rows.emuRunsSpec.post enc Tryz.prog Tryz.f5 false true false false):=
  C7 (C:=Tryz.checked) (tb:=4) Bj started (by kernel_rfl) Tryz.func5 yo rfl
    (by rw [Tryz.params5];intro t ht;simp at ht;rcases ht with rfl|rfl|rfl|rfl<;>exact ⟨by kernel_rfl,by decide+kernel⟩) (by kernel_rfl) Tryz.underlying4
    (by
      intro ds hl
      have U2:ds.length=4:=hl
      match ds,U2 with
      | [d0,d1,d2,d3],_=>exact ⟨rfl,rfl,rfl⟩)
    (ChangeSpec.witness6 (enc:=enc) (C:=Tryz.checked) false ⟨#[],#[.slice none 0 0,.slice none 0 0,.slice none 0 0,.int .i64 0],[]⟩ 8 (by kernel_rfl) (by kernel_rfl) (by kernel_rfl) (by kernel_rfl))
    (fun W aa args ds ps Uj hlen hA _=>Bk W aa args Uj hlen hA)

theorem emuRuns_holds:Rows.EmuRunsSaid:=
  OpenClaim.holds_of_wide 5 Tryz.f5 rfl rfl rfl rfl rfl rfl rfl ⟨rfl,rfl,rfl,rfl,rfl⟩ rfl rfl rfl rfl rfl (by kernel_rfl) Tryz.func5 (by kernel_rfl)
    (of_decide_eq_true (by kernel_rfl)) (by unfold Func.isWrapper;first|(rw [if_pos (by decide+kernel)];kernel_rfl)|(rw [if_neg (by decide+kernel)];exact ⟨rfl,rfl⟩))
    (fun os started H enc _=>tw os started H enc)
end Go.Proofs.YtbfpahigdpigpaaGreat
#print axioms Go.Proofs.YtbfpahigdpigpaaGreat.emuRuns_holds
