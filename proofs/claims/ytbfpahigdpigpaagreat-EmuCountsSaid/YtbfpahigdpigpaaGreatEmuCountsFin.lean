import Derived.Test.YtbfpahigdpigpaaGreatRows
import Derived.Test.YtbfpahigdpigpaaGreatC09
import Derived.Test.YtbfpahigdpigpaaGreatC10
import Derived.Test.YtbfpahigdpigpaaGreatC17
import Derived.Test.YtbfpahigdpigpaaGreatLEmuCounts01
/- EmuCounts returns true whatever its arguments;no condition. -/
namespace Go.Proofs.YtbfpahigdpigpaaGreat
open Go.ChangeShapes Go.WideShapes Go.ChangeAt Go.RowKit Go.Ev
set_option linter.unusedVariables false
set_option linter.unusedSimpArgs false

theorem sv:ownKnob Tryz.prog.godebug=none:=by kernel_rfl
theorem rC:laidOutB Tryz.prog=true:=by kernel_rfl
def Jg:List LK:= [.int .u64]
theorem DB (ds:List D) (h:nk Jg ds):(IM ds).cells=some ds:=by
  simp only [Jg,nk] at h
  obtain ⟨n,r,rfl,_,rfl⟩:=h
  rfl
theorem DA:∀(xs:List (List D)),(∀ds∈xs,nk Jg ds)→∃l:List Int,xs.map IM=wD l∧True∧l.length=xs.length
  | [],_=>⟨[],rfl,trivial,rfl⟩
  |ds::r,h=>by
    obtain ⟨l,e,ho,hl⟩:=DA r (fun d hd=>h d (List.mem_cons_of_mem _ hd))
    have h1:=h ds (List.mem_cons_self ..)
    simp only [Jg,nk] at h1
    obtain ⟨n,r',rfl,hn,rfl⟩:=h1
    exact ⟨n::l,by rw [List.map_cons,e];rfl,trivial,by simp [hl]⟩

set_option maxRecDepth 100000 in
theorem sw {H : Type} {enc : TypeId × Value → H} {QR : List (DataW H)} {ps0 : List MemPlace} (W : World) (base : Nat) (args : Array Value) (Mh : ∀ (j : Nat) t v, Tryz.f6.params[j]? = some t → args[j]? = some v → Value.okWide Tryz.prog W .any base t v) (hlen : args.toList.length = Tryz.f6.params.toList.length) (hA : DataW.TrodAll enc Tryz.prog W 0 (fun _ => true) true Tryz.f6.params.toList args.toList QR ps0) :
    Calls Tryz.prog 6 args W fun e W'=>e= .returned (.bool true)∧Below W.heap.size W W':=by
  rw [Tryz.params6] at hlen Mh hA
  obtain ⟨v0,v1,v2,v3,rfl⟩:∃v0 v1 v2 v3,args= #[v0,v1,v2,v3]:=by
    rcases args with ⟨l⟩
    match l,hlen with
    | [v0,v1,v2,v3],_=>exact ⟨v0,v1,v2,v3,rfl⟩
  obtain ⟨a0,len0,cap0,ev0⟩:=okWide_slice Tryz.underlying22 (Mh 0 22 v0 rfl rfl)
  obtain ⟨fu0,ft0,hf0⟩:=mT hA 0 22 v0 rfl rfl
  rw [show v0.cells.toList= [v0] by rw [ev0];rfl] at hf0
  obtain ⟨RL,hx0,hn0,hr0⟩:=kN (ks:=Jd) IM xx Tryz.underlying22 (by kernel_rfl) (by kernel_rfl) (by decide) hf0
  obtain ⟨cb,e0,ho0,Rd⟩:=zJ RL hx0
  rw [e0] at hr0
  obtain ⟨a1,len1,cap1,ev1⟩:=okWide_slice Tryz.underlying22 (Mh 1 22 v1 rfl rfl)
  obtain ⟨fu1,ft1,QA⟩:=mT hA 1 22 v1 rfl rfl
  rw [show v1.cells.toList= [v1] by rw [ev1];rfl] at QA
  obtain ⟨xs1,hx1,OZ,Pb⟩:=kN (ks:=Jd) IM xx Tryz.underlying22 (by kernel_rfl) (by kernel_rfl) (by decide) QA
  obtain ⟨cx,e1,ho1,hl1⟩:=zJ xs1 hx1
  rw [e1] at Pb
  obtain ⟨a2,len2,cap2,ev2⟩:=okWide_slice Tryz.underlying23 (Mh 2 23 v2 rfl rfl)
  obtain ⟨fu2,ft2,PM⟩:=mT hA 2 23 v2 rfl rfl
  rw [show v2.cells.toList= [v2] by rw [ev2];rfl] at PM
  obtain ⟨xs2,OC,O6,hr2⟩:=kN (ks:=Jg) IM DB Tryz.underlying23 (by kernel_rfl) (by kernel_rfl) (by decide) PM
  obtain ⟨an,e2,Q1,Pr⟩:=DA xs2 OC
  rw [e2] at hr2
  obtain ⟨d3,hk3,hr3⟩:=Ei (M:=eY (xI W)) (k:= .int .i64) (by kernel_rfl) (Mh 3 3 v3 rfl rfl)
  simp only [nk] at hk3
  obtain ⟨f,r3,e3,h_f,_⟩:=hk3
  obtain rfl:=(List.cons.inj e3).1
  refine aF.KD (zx cb cx an ho0 f) ⟨rfl,?_⟩
  intro i d v' h1 h2
  match i,h1,h2 with
  |0,h1,h2=>
    simp at h1 h2
    subst h1 h2
    exact hr0
  |1,h1,h2=>
    simp at h1 h2
    subst h1 h2
    exact Pb
  |2,h1,h2=>
    simp at h1 h2
    subst h1 h2
    exact hr2
  |3,h1,h2=>
    simp at h1 h2
    subst h1 h2
    exact hr3

set_option maxRecDepth 100000 in
theorem oH (os : Os) (started : os.Started) (H : Type) (enc : TypeId × Value → H) :
    ReturnsInHanded {} Tryz.checked os 6 .any (Rows.emuCountsSpec.pre6 enc Tryz.prog Tryz.f6 Rows.emuCountsRow.domain false) (Rows.emuCountsSpec.post enc Tryz.prog Tryz.f6 false true false false):=
  yH (C:=Tryz.checked) (tb:=4) sv started (by kernel_rfl) Tryz.func6 rC rfl
    (by rw [Tryz.params6];intro t ht;simp at ht;rcases ht with rfl|rfl|rfl|rfl<;>exact ⟨by kernel_rfl,by decide+kernel⟩) (by kernel_rfl) Tryz.underlying4
    (by
      intro ds hl
      have MG:ds.length=4:=hl
      match ds,MG with
      | [d0,d1,d2,d3],_=>exact ⟨rfl,rfl,rfl⟩)
    (ChangeSpec.witness6 (enc:=enc) (C:=Tryz.checked) false ⟨#[],#[.slice none 0 0,.slice none 0 0,.slice none 0 0,.int .i64 0],[]⟩ 8 (by kernel_rfl) (by kernel_rfl) (by kernel_rfl) (by kernel_rfl))
    (fun W base args ds ps Mh hlen hA _=>sw W base args Mh hlen hA)

theorem emuCounts_holds:Rows.EmuCountsSaid:=
  OpenClaim.holds_of_wide 6 Tryz.f6 rfl rfl rfl rfl rfl rfl rfl ⟨rfl,rfl,rfl,rfl,rfl⟩ rfl rfl rfl rfl rfl (by kernel_rfl) Tryz.func6 (by kernel_rfl)
    (of_decide_eq_true (by kernel_rfl)) (by unfold Func.isWrapper;first|(rw [if_pos (by decide+kernel)];kernel_rfl)|(rw [if_neg (by decide+kernel)];exact ⟨rfl,rfl⟩))
    (fun os started H enc _=>oH os started H enc)
end Go.Proofs.YtbfpahigdpigpaaGreat
#print axioms Go.Proofs.YtbfpahigdpigpaaGreat.emuCounts_holds
