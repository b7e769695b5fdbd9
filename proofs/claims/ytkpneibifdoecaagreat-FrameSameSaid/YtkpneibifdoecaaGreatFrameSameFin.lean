import Derived.Test.YtkpneibifdoecaaGreatRows
import Derived.Test.YtkpneibifdoecaaGreatU07
import Derived.Test.YtkpneibifdoecaaGreatU08
import Derived.Test.YtkpneibifdoecaaGreatU18
import Derived.Test.YtkpneibifdoecaaGreatLFrameSame01
/- FrameSame returns true whatever its arguments;no condition. -/
namespace Go.Proofs.YtkpneibifdoecaaGreat
open Go.ChangeShapes Go.WideShapes Go.ChangeAt Go.RowKit Go.Ev
set_option linter.unusedVariables false
set_option linter.unusedSimpArgs false

theorem qG:ownKnob Tryz.prog.godebug=none:=by kernel_rfl
theorem pV:laidOutB Tryz.prog=true:=by kernel_rfl

set_option maxRecDepth 100000 in
theorem qH {H : Type} {enc : TypeId × Value → H} {S9 : List (DataW H)} {ps0 : List MemPlace} (W : World) (base : Nat) (args : Array Value) (Pa : ∀ (j : Nat) t v, Tryz.f7.params[j]? = some t → args[j]? = some v → Value.okWide Tryz.prog W .any base t v) (hlen : args.toList.length = Tryz.f7.params.toList.length) (hA : DataW.TrodAll enc Tryz.prog W 0 (fun _ => true) true Tryz.f7.params.toList args.toList S9 ps0) :
    Calls Tryz.prog 7 args W fun e W'=>e= .returned (.bool true)∧Below W.heap.size W W':=by
  rw [Tryz.params7] at hlen Pa hA
  obtain ⟨v0,v1,v2,rfl⟩:∃v0 v1 v2,args= #[v0,v1,v2]:=by
    rcases args with ⟨l⟩
    match l,hlen with
    | [v0,v1,v2],_=>exact ⟨v0,v1,v2,rfl⟩
  obtain ⟨a0,len0,cap0,ev0⟩:=okWide_slice Tryz.underlying22 (Pa 0 22 v0 rfl rfl)
  obtain ⟨fu0,ft0,hf0⟩:=uq hA 0 22 v0 rfl rfl
  rw [show v0.cells.toList= [v0] by rw [ev0];rfl] at hf0
  obtain ⟨TR,hx0,UL,hr0⟩:=uA (ks:=Kj) .agg (fun ds _=>rfl) Tryz.underlying22 (by kernel_rfl) (by kernel_rfl) (by decide) hf0
  obtain ⟨l,e0,ho0,SS⟩:=DQ TR hx0
  rw [e0] at hr0
  obtain ⟨ds1,Sw,TH⟩:=wM (M:=ep (rP W)) (ts:= [23,23,23,23,23,23,23,23,23,23,23,23,23,23,23,23,23,23,23,23,23,23]) (ks:= [.int .i8,.int .i8,.int .i8,.int .i8,.int .i8,.int .i8,.int .i8,.int .i8,.int .i8,.int .i8,.int .i8,.int .i8,.int .i8,.int .i8,.int .i8,.int .i8,.int .i8,.int .i8,.int .i8,.int .i8,.int .i8,.int .i8]) Tryz.underlying26 rfl (by kernel_rfl) (by kernel_rfl) (by kernel_rfl) (Pa 1 26 v1 rfl rfl)
  simp only [nS] at Sw
  obtain ⟨u0,_,rfl,h_u0,w0,_,rfl,h_w0,u1,_,rfl,h_u1,w1,_,rfl,h_w1,u2,_,rfl,h_u2,w2,_,rfl,h_w2,u3,_,rfl,h_u3,w3,_,rfl,h_w3,u4,_,rfl,h_u4,w4,_,rfl,h_w4,u5,_,rfl,h_u5,w5,_,rfl,h_w5,u6,_,rfl,h_u6,w6,_,rfl,h_w6,u7,_,rfl,h_u7,w7,_,rfl,h_w7,u8,_,rfl,h_u8,w8,_,rfl,h_w8,u9,_,rfl,h_u9,w9,_,rfl,h_w9,u10,_,rfl,h_u10,w10,_,rfl,h_w10,rfl⟩:=Sw
  obtain ⟨ds2,Rt,hr2⟩:=wM (M:=ep (rP W)) (ts:= [39,39,39,39,39,39,39,39,39,39,39]) (ks:= [.int .u64,.int .u64,.int .u64,.int .u64,.int .u64,.int .u64,.int .u64,.int .u64,.int .u64,.int .u64,.int .u64]) Tryz.underlying41 rfl (by kernel_rfl) (by kernel_rfl) (by kernel_rfl) (Pa 2 41 v2 rfl rfl)
  simp only [nS] at Rt
  obtain ⟨y0,_,rfl,h_y0,y1,_,rfl,h_y1,y2,_,rfl,h_y2,y3,_,rfl,h_y3,y4,_,rfl,h_y4,y5,_,rfl,h_y5,y6,_,rfl,h_y6,y7,_,rfl,h_y7,y8,_,rfl,h_y8,y9,_,rfl,h_y9,y10,_,rfl,h_y10,rfl⟩:=Rt
  refine aZ.K4 (CJ ⟨fun i=>rg [u0,u1,u2,u3,u4,u5,u6,u7,u8,u9,u10] i,fun i=>rg [w0,w1,w2,w3,w4,w5,w6,w7,w8,w9,w10] i⟩ l ⟨y0,y1,y2,y3,y4,y5,y6,y7,y8,y9,y10⟩ ho0) ⟨rfl,?_⟩
  intro i d v' h1 h2
  match i,h1,h2 with
  |0,h1,h2=>
    simp at h1 h2
    subst h1 h2
    exact hr0
  |1,h1,h2=>
    simp at h1 h2
    subst h1 h2
    exact TH
  |2,h1,h2=>
    simp at h1 h2
    subst h1 h2
    exact hr2

set_option maxRecDepth 100000 in
theorem nj (os : Os) (started : os.Started) (H : Type) (enc : TypeId × Value → H) :
    ReturnsInHanded {} Tryz.checked os 7 .any (Rows.frameSameSpec.pre6 enc Tryz.prog Tryz.f7 Rows.frameSameRow.domain false) (Rows.frameSameSpec.post enc Tryz.prog Tryz.f7 false true false false):=
  xR (C:=Tryz.checked) (tb:=4) qG started (by kernel_rfl) Tryz.func7 pV rfl
    (by rw [Tryz.params7];intro t ht;simp at ht;rcases ht with rfl|rfl|rfl<;>exact ⟨by kernel_rfl,by decide+kernel⟩) (by kernel_rfl) Tryz.underlying4
    (by
      intro ds hl
      have Pj:ds.length=3:=hl
      match ds,Pj with
      | [d0,d1,d2],_=>exact ⟨rfl,rfl,rfl⟩)
    (ChangeSpec.witness6 (enc:=enc) (C:=Tryz.checked) false ⟨#[],#[.slice none 0 0,.agg #[.int .i8 0,.int .i8 0,.int .i8 0,.int .i8 0,.int .i8 0,.int .i8 0,.int .i8 0,.int .i8 0,.int .i8 0,.int .i8 0,.int .i8 0,.int .i8 0,.int .i8 0,.int .i8 0,.int .i8 0,.int .i8 0,.int .i8 0,.int .i8 0,.int .i8 0,.int .i8 0,.int .i8 0,.int .i8 0],.agg #[.int .u64 0,.int .u64 0,.int .u64 0,.int .u64 0,.int .u64 0,.int .u64 0,.int .u64 0,.int .u64 0,.int .u64 0,.int .u64 0,.int .u64 0]],[]⟩ 8 (by kernel_rfl) (by kernel_rfl) (by kernel_rfl) (by kernel_rfl))
    (fun W base args ds ps Pa hlen hA _=>qH W base args Pa hlen hA)

theorem frameSame_holds:Rows.FrameSameSaid:=
  OpenClaim.holds_of_wide 7 Tryz.f7 rfl rfl rfl rfl rfl rfl rfl ⟨rfl,rfl,rfl,rfl,rfl⟩ rfl rfl rfl rfl rfl (by kernel_rfl) Tryz.func7 (by kernel_rfl)
    (of_decide_eq_true (by kernel_rfl)) (by unfold Func.isWrapper;first|(rw [if_pos (by decide+kernel)];kernel_rfl)|(rw [if_neg (by decide+kernel)];exact ⟨rfl,rfl⟩))
    (fun os started H enc _=>nj os started H enc)
end Go.Proofs.YtkpneibifdoecaaGreat
#print axioms Go.Proofs.YtkpneibifdoecaaGreat.frameSame_holds
