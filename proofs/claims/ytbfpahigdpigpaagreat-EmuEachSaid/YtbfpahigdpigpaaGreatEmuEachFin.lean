import Derived.Test.YtbfpahigdpigpaaGreatRows
import Derived.Test.YtbfpahigdpigpaaGreatV06
import Derived.Test.YtbfpahigdpigpaaGreatV07
import Derived.Test.YtbfpahigdpigpaaGreatV19
import Derived.Test.YtbfpahigdpigpaaGreatV21
/- EmuEach returns true whatever its arguments;no condition. -/
namespace Go.Proofs.YtbfpahigdpigpaaGreat
open Go.ChangeShapes Go.WideShapes Go.ChangeAt Go.RowKit Go.Ev
set_option linter.unusedVariables false
set_option linter.unusedSimpArgs false

theorem A6:ownKnob Tryz.prog.godebug=none:=by kernel_rfl
theorem yd:laidOutB Tryz.prog=true:=by kernel_rfl
def PW:List LK:= [.int .u64]
theorem I2 (ds:List D) (h:oH PW ds):(Pq ds).cells=some ds:=by
  simp only [PW,oH] at h
  obtain ⟨n,r,rfl,_,rfl⟩:=h
  rfl
theorem I1:∀(xs:List (List D)),(∀ds∈xs,oH PW ds)→∃l:List Int,xs.map Pq=wD l∧True∧l.length=xs.length
  | [],_=>⟨[],rfl,trivial,rfl⟩
  |ds::r,h=>by
    obtain ⟨l,e,ho,hl⟩:=I1 r (fun d hd=>h d (List.mem_cons_of_mem _ hd))
    have h1:=h ds (List.mem_cons_self ..)
    simp only [PW,oH] at h1
    obtain ⟨n,r',rfl,hn,rfl⟩:=h1
    exact ⟨n::l,by rw [List.map_cons,e];rfl,trivial,by simp [hl]⟩

set_option maxRecDepth 100000 in
theorem A7 {H : Type} {enc : TypeId × Value → H} {Xz : List (DataW H)} {ps0 : List MemPlace} (W : World) (aa : Nat) (args : Array Value) (TI : ∀ (j : Nat) t v, Tryz.f4.params[j]? = some t → args[j]? = some v → Value.okWide Tryz.prog W .any aa t v) (hlen : args.toList.length = Tryz.f4.params.toList.length) (hA : DataW.TrodAll enc Tryz.prog W 0 (fun _ => true) true Tryz.f4.params.toList args.toList Xz ps0) :
    Calls Tryz.prog 4 args W fun e W'=>e= .returned (.bool true)∧Below W.heap.size W W':=by
  rw [Tryz.params4] at hlen TI hA
  obtain ⟨v0,v1,v2,v3,v4,rfl⟩:∃v0 v1 v2 v3 v4,args= #[v0,v1,v2,v3,v4]:=by
    rcases args with ⟨l⟩
    match l,hlen with
    | [v0,v1,v2,v3,v4],_=>exact ⟨v0,v1,v2,v3,v4,rfl⟩
  obtain ⟨a0,len0,cap0,ev0⟩:=okWide_slice Tryz.underlying22 (TI 0 22 v0 rfl rfl)
  obtain ⟨fu0,ft0,hf0⟩:=oK hA 0 22 v0 rfl rfl
  rw [show v0.cells.toList= [v0] by rw [ev0];rfl] at hf0
  obtain ⟨YM,W9,hn0,hr0⟩:=mM (ks:=PT) Pq Bf Tryz.underlying22 (by kernel_rfl) (by kernel_rfl) (by decide) hf0
  obtain ⟨cb,e0,ho0,Y9⟩:=DX YM W9
  rw [e0] at hr0
  obtain ⟨a1,len1,cap1,ev1⟩:=okWide_slice Tryz.underlying22 (TI 1 22 v1 rfl rfl)
  obtain ⟨fu1,ft1,Xm⟩:=oK hA 1 22 v1 rfl rfl
  rw [show v1.cells.toList= [v1] by rw [ev1];rfl] at Xm
  obtain ⟨xs1,W7,VN,XB⟩:=mM (ks:=PT) Pq Bf Tryz.underlying22 (by kernel_rfl) (by kernel_rfl) (by decide) Xm
  obtain ⟨cx,e1,ho1,hl1⟩:=DX xs1 W7
  rw [e1] at XB
  obtain ⟨a2,len2,cap2,ev2⟩:=okWide_slice Tryz.underlying23 (TI 2 23 v2 rfl rfl)
  obtain ⟨fu2,ft2,WM⟩:=oK hA 2 23 v2 rfl rfl
  rw [show v2.cells.toList= [v2] by rw [ev2];rfl] at WM
  obtain ⟨xs2,VQ,Xl,hr2⟩:=mM (ks:=PW) Pq I2 Tryz.underlying23 (by kernel_rfl) (by kernel_rfl) (by decide) WM
  obtain ⟨an,e2,Yb,WH⟩:=I1 xs2 VQ
  rw [e2] at hr2
  obtain ⟨d3,hk3,hr3⟩:=Av (M:=gk (vB W)) (k:= .int .i64) (by kernel_rfl) (TI 3 3 v3 rfl rfl)
  simp only [oH] at hk3
  obtain ⟨f,r3,e3,h_f,_⟩:=hk3
  obtain rfl:=(List.cons.inj e3).1
  obtain ⟨d4,hk4,hr4⟩:=Av (M:=gk (vB W)) (k:= .int .i64) (by kernel_rfl) (TI 4 3 v4 rfl rfl)
  simp only [oH] at hk4
  obtain ⟨lv,r4,e4,h_lv,_⟩:=hk4
  obtain rfl:=(List.cons.inj e4).1
  refine aQ.RH (Lr cb cx an ho0 f lv) ⟨rfl,?_⟩
  intro i d v' h1 h2
  match i,h1,h2 with
  |0,h1,h2=>
    simp at h1 h2
    subst h1 h2
    exact hr0
  |1,h1,h2=>
    simp at h1 h2
    subst h1 h2
    exact XB
  |2,h1,h2=>
    simp at h1 h2
    subst h1 h2
    exact hr2
  |3,h1,h2=>
    simp at h1 h2
    subst h1 h2
    exact hr3
  |4,h1,h2=>
    simp at h1 h2
    subst h1 h2
    exact hr4

set_option maxRecDepth 100000 in
theorem tD (os : Os) (started : os.Started) (H : Type) (enc : TypeId × Value → H) :
    ReturnsInHanded {} Tryz.checked os 4 .any (Rows.emuEachSpec.pre6 enc Tryz.prog Tryz.f4 Rows.emuEachRow.domain false) (Rows.emuEachSpec.post enc Tryz.prog Tryz.f4 false true false false):=
  CQ (C:=Tryz.checked) (tb:=4) A6 started (by kernel_rfl) Tryz.func4 yd rfl
    (by rw [Tryz.params4];intro t ht;simp at ht;rcases ht with rfl|rfl|rfl|rfl|rfl<;>exact ⟨by kernel_rfl,by decide+kernel⟩) (by kernel_rfl) Tryz.underlying4
    (by
      intro ds hl
      have Us:ds.length=5:=hl
      match ds,Us with
      | [d0,d1,d2,d3,d4],_=>exact ⟨rfl,rfl,rfl⟩)
    (ChangeSpec.witness6 (enc:=enc) (C:=Tryz.checked) false ⟨#[],#[.slice none 0 0,.slice none 0 0,.slice none 0 0,.int .i64 0,.int .i64 0],[]⟩ 8 (by kernel_rfl) (by kernel_rfl) (by kernel_rfl) (by kernel_rfl))
    (fun W aa args ds ps TI hlen hA _=>A7 W aa args TI hlen hA)

theorem emuEach_holds:Rows.EmuEachSaid:=
  OpenClaim.holds_of_wide 4 Tryz.f4 rfl rfl rfl rfl rfl rfl rfl ⟨rfl,rfl,rfl,rfl,rfl⟩ rfl rfl rfl rfl rfl (by kernel_rfl) Tryz.func4 (by kernel_rfl)
    (of_decide_eq_true (by kernel_rfl)) (by unfold Func.isWrapper;first|(rw [if_pos (by decide+kernel)];kernel_rfl)|(rw [if_neg (by decide+kernel)];exact ⟨rfl,rfl⟩))
    (fun os started H enc _=>tD os started H enc)
end Go.Proofs.YtbfpahigdpigpaaGreat
#print axioms Go.Proofs.YtbfpahigdpigpaaGreat.emuEach_holds
