import Derived.Test.YtbfpahigdpigpaaGreatRows
import Derived.Test.YtbfpahigdpigpaaGreatM09
import Derived.Test.YtbfpahigdpigpaaGreatM10
import Derived.Test.YtbfpahigdpigpaaGreatM16
import Derived.Test.YtbfpahigdpigpaaGreatLEmuMore01
/- EmuMore returns true whatever its arguments;no condition. -/
namespace Go.Proofs.YtbfpahigdpigpaaGreat
open Go.ChangeShapes Go.WideShapes Go.ChangeAt Go.RowKit Go.Ev
set_option linter.unusedVariables false
set_option linter.unusedSimpArgs false

theorem vw:ownKnob Tryz.prog.godebug=none:=by kernel_rfl
theorem tk:laidOutB Tryz.prog=true:=by kernel_rfl
def GJ:List LK:= [.int .u64]
theorem BD (ds:List D) (h:l7 GJ ds):(Gj ds).cells=some ds:=by
  simp only [GJ,l7] at h
  obtain ⟨n,r,rfl,_,rfl⟩:=h
  rfl
theorem BC:∀(xs:List (List D)),(∀ds∈xs,l7 GJ ds)→∃l:List Int,xs.map Gj=wD l∧True∧l.length=xs.length
  | [],_=>⟨[],rfl,trivial,rfl⟩
  |ds::r,h=>by
    obtain ⟨l,e,ho,hl⟩:=BC r (fun d hd=>h d (List.mem_cons_of_mem _ hd))
    have h1:=h ds (List.mem_cons_self ..)
    simp only [GJ,l7] at h1
    obtain ⟨n,r',rfl,hn,rfl⟩:=h1
    exact ⟨n::l,by rw [List.map_cons,e];rfl,trivial,by simp [hl]⟩

set_option maxRecDepth 100000 in
theorem vx {H : Type} {enc : TypeId × Value → H} {ds0 : List (DataW H)} {ps0 : List MemPlace} (W : World) (base : Nat) (args : Array Value) (hval : ∀ (j : Nat) t v, Tryz.f3.params[j]? = some t → args[j]? = some v → Value.okWide Tryz.prog W .any base t v) (hlen : args.toList.length = Tryz.f3.params.toList.length) (hA : DataW.TrodAll enc Tryz.prog W 0 (fun _ => true) true Tryz.f3.params.toList args.toList ds0 ps0) :
    Calls Tryz.prog 3 args W fun e W'=>e= .returned (.bool true)∧Below W.heap.size W W':=by
  rw [Tryz.params3] at hlen hval hA
  obtain ⟨v0,v1,v2,v3,v4,rfl⟩:∃v0 v1 v2 v3 v4,args= #[v0,v1,v2,v3,v4]:=by
    rcases args with ⟨l⟩
    match l,hlen with
    | [v0,v1,v2,v3,v4],_=>exact ⟨v0,v1,v2,v3,v4,rfl⟩
  obtain ⟨a0,len0,cap0,ev0⟩:=okWide_slice Tryz.underlying22 (hval 0 22 v0 rfl rfl)
  obtain ⟨fu0,ft0,hf0⟩:=ma hA 0 22 v0 rfl rfl
  rw [show v0.cells.toList= [v0] by rw [ev0];rfl] at hf0
  obtain ⟨xs0,hx0,hn0,hr0⟩:=kh (ks:=GG) Gj vG Tryz.underlying22 (by kernel_rfl) (by kernel_rfl) (by decide) hf0
  obtain ⟨cb,e0,ho0,hl0⟩:=xG xs0 hx0
  rw [e0] at hr0
  obtain ⟨a1,len1,cap1,ev1⟩:=okWide_slice Tryz.underlying22 (hval 1 22 v1 rfl rfl)
  obtain ⟨fu1,ft1,hf1⟩:=ma hA 1 22 v1 rfl rfl
  rw [show v1.cells.toList= [v1] by rw [ev1];rfl] at hf1
  obtain ⟨xs1,hx1,hn1,hr1⟩:=kh (ks:=GG) Gj vG Tryz.underlying22 (by kernel_rfl) (by kernel_rfl) (by decide) hf1
  obtain ⟨cx,e1,ho1,hl1⟩:=xG xs1 hx1
  rw [e1] at hr1
  obtain ⟨a2,len2,cap2,ev2⟩:=okWide_slice Tryz.underlying23 (hval 2 23 v2 rfl rfl)
  obtain ⟨fu2,ft2,hf2⟩:=ma hA 2 23 v2 rfl rfl
  rw [show v2.cells.toList= [v2] by rw [ev2];rfl] at hf2
  obtain ⟨xs2,hx2,hn2,hr2⟩:=kh (ks:=GJ) Gj BD Tryz.underlying23 (by kernel_rfl) (by kernel_rfl) (by decide) hf2
  obtain ⟨an,e2,ho2,hl2⟩:=BC xs2 hx2
  rw [e2] at hr2
  obtain ⟨d3,hk3,hr3⟩:=uK (M:=eB (rI W)) (k:= .int .i64) (by kernel_rfl) (hval 3 3 v3 rfl rfl)
  simp only [l7] at hk3
  obtain ⟨f,r3,e3,h_f,_⟩:=hk3
  obtain rfl:=(List.cons.inj e3).1
  obtain ⟨d4,hk4,hr4⟩:=uK (M:=eB (rI W)) (k:= .int .i64) (by kernel_rfl) (hval 4 3 v4 rfl rfl)
  simp only [l7] at hk4
  obtain ⟨g,r4,e4,h_g,_⟩:=hk4
  obtain rfl:=(List.cons.inj e4).1
  refine aE.HO (CP cb cx an ho0 f g) ⟨rfl,?_⟩
  intro i d v' h1 h2
  match i,h1,h2 with
  |0,h1,h2=>
    simp at h1 h2
    subst h1 h2
    exact hr0
  |1,h1,h2=>
    simp at h1 h2
    subst h1 h2
    exact hr1
  |2,h1,h2=>
    simp at h1 h2
    subst h1 h2
    exact hr2
  |3,h1,h2=>
    simp at h1 h2
    subst h1 h2
    exact hr3
  |4,h1,h2=>
    simp at h1 h2
    subst h1 h2
    exact hr4

set_option maxRecDepth 100000 in
theorem p3 (os : Os) (started : os.Started) (H : Type) (enc : TypeId × Value → H) :
    ReturnsInHanded {} Tryz.checked os 3 .any (Rows.emuMoreSpec.pre6 enc Tryz.prog Tryz.f3 Rows.emuMoreRow.domain false) (Rows.emuMoreSpec.post enc Tryz.prog Tryz.f3 false true false false):=
  wN (C:=Tryz.checked) (tb:=4) vw started (by kernel_rfl) Tryz.func3 tk rfl
    (by rw [Tryz.params3];intro t ht;simp at ht;rcases ht with rfl|rfl|rfl|rfl|rfl<;>exact ⟨by kernel_rfl,by decide+kernel⟩) (by kernel_rfl) Tryz.underlying4
    (by
      intro ds hl
      have hl':ds.length=5:=hl
      match ds,hl' with
      | [d0,d1,d2,d3,d4],_=>exact ⟨rfl,rfl,rfl⟩)
    (ChangeSpec.witness6 (enc:=enc) (C:=Tryz.checked) false ⟨#[],#[.slice none 0 0,.slice none 0 0,.slice none 0 0,.int .i64 0,.int .i64 0],[]⟩ 8 (by kernel_rfl) (by kernel_rfl) (by kernel_rfl) (by kernel_rfl))
    (fun W base args ds ps hval hlen hA _=>vx W base args hval hlen hA)

theorem emuMore_holds:Rows.EmuMoreSaid:=
  OpenClaim.holds_of_wide 3 Tryz.f3 rfl rfl rfl rfl rfl rfl rfl ⟨rfl,rfl,rfl,rfl,rfl⟩ rfl rfl rfl rfl rfl (by kernel_rfl) Tryz.func3 (by kernel_rfl)
    (of_decide_eq_true (by kernel_rfl)) (by unfold Func.isWrapper;first|(rw [if_pos (by decide+kernel)];kernel_rfl)|(rw [if_neg (by decide+kernel)];exact ⟨rfl,rfl⟩))
    (fun os started H enc _=>p3 os started H enc)
end Go.Proofs.YtbfpahigdpigpaaGreat
#print axioms Go.Proofs.YtbfpahigdpigpaaGreat.emuMore_holds
