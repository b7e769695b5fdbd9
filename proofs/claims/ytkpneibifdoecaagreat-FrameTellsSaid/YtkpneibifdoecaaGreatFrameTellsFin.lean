import Derived.Test.YtkpneibifdoecaaGreatRows
import Derived.Test.YtkpneibifdoecaaGreatT07
import Derived.Test.YtkpneibifdoecaaGreatT08
import Derived.Test.YtkpneibifdoecaaGreatT17
import Derived.Test.YtkpneibifdoecaaGreatLFrameTells01
/- FrameTells returns true whatever its arguments;no condition. -/
namespace Go.Proofs.YtkpneibifdoecaaGreat
open Go.ChangeShapes Go.WideShapes Go.ChangeAt Go.RowKit Go.Ev
set_option linter.unusedVariables false
set_option linter.unusedSimpArgs false

theorem oz:ownKnob Tryz.prog.godebug=none:=by kernel_rfl
theorem mV:laidOutB Tryz.prog=true:=by kernel_rfl
theorem Kk {n:Int} (h:IntKind.i8.has n):n≤127:=by
  simp [IntKind.has,IntKind.min,IntKind.max,IntKind.signed,IntKind.bits] at h
  omega

set_option maxRecDepth 100000 in
theorem oA {H : Type} {enc : TypeId × Value → H} {TF : List (DataW H)} {ps0 : List MemPlace} (W : World) (base : Nat) (args : Array Value) (PF : ∀ (j : Nat) t v, Tryz.f3.params[j]? = some t → args[j]? = some v → Value.okWide Tryz.prog W .any base t v) (hlen : args.toList.length = Tryz.f3.params.toList.length) (hA : DataW.TrodAll enc Tryz.prog W 0 (fun _ => true) true Tryz.f3.params.toList args.toList TF ps0) :
    Calls Tryz.prog 3 args W fun e W'=>e= .returned (.bool true)∧Below W.heap.size W W':=by
  rw [Tryz.params3] at hlen PF hA
  obtain ⟨v0,v1,v2,v3,v4,rfl⟩:∃v0 v1 v2 v3 v4,args= #[v0,v1,v2,v3,v4]:=by
    rcases args with ⟨l⟩
    match l,hlen with
    | [v0,v1,v2,v3,v4],_=>exact ⟨v0,v1,v2,v3,v4,rfl⟩
  obtain ⟨a0,len0,cap0,ev0⟩:=okWide_slice Tryz.underlying22 (PF 0 22 v0 rfl rfl)
  obtain ⟨fu0,ft0,hf0⟩:=tM hA 0 22 v0 rfl rfl
  rw [show v0.cells.toList= [v0] by rw [ev0];rfl] at hf0
  obtain ⟨UR,hx0,U3,hr0⟩:=tS (ks:=KN) .agg (fun ds _=>rfl) Tryz.underlying22 (by kernel_rfl) (by kernel_rfl) (by decide) hf0
  obtain ⟨l,e0,ho0,SU⟩:=Ej UR hx0
  rw [e0] at hr0
  obtain ⟨ds1,SD,T3⟩:=ER (M:=ek (mO W)) (ts:= [23,23,23,23,23,23,23,23,23,23,23,23,23,23,23,23,23,23,23,23,23,23]) (ks:= [.int .i8,.int .i8,.int .i8,.int .i8,.int .i8,.int .i8,.int .i8,.int .i8,.int .i8,.int .i8,.int .i8,.int .i8,.int .i8,.int .i8,.int .i8,.int .i8,.int .i8,.int .i8,.int .i8,.int .i8,.int .i8,.int .i8]) Tryz.underlying26 rfl (by kernel_rfl) (by kernel_rfl) (by kernel_rfl) (PF 1 26 v1 rfl rfl)
  simp only [lj] at SD
  obtain ⟨u0,_,rfl,h_u0,w0,_,rfl,h_w0,u1,_,rfl,h_u1,w1,_,rfl,h_w1,u2,_,rfl,h_u2,w2,_,rfl,h_w2,u3,_,rfl,h_u3,w3,_,rfl,h_w3,u4,_,rfl,h_u4,w4,_,rfl,h_w4,u5,_,rfl,h_u5,w5,_,rfl,h_w5,u6,_,rfl,h_u6,w6,_,rfl,h_w6,u7,_,rfl,h_u7,w7,_,rfl,h_w7,u8,_,rfl,h_u8,w8,_,rfl,h_w8,u9,_,rfl,h_u9,w9,_,rfl,h_w9,u10,_,rfl,h_u10,w10,_,rfl,h_w10,rfl⟩:=SD
  obtain ⟨d2,RM,hr2⟩:=nN (M:=ek (mO W)) (k:= .int .i64) (by kernel_rfl) (PF 2 3 v2 rfl rfl)
  simp only [lj] at RM
  obtain ⟨aF,r2,e2,h_reg,_⟩:=RM
  obtain rfl:=(List.cons.inj e2).1
  obtain ⟨d3,hk3,hr3⟩:=nN (M:=ek (mO W)) (k:= .int .i64) (by kernel_rfl) (PF 3 3 v3 rfl rfl)
  simp only [lj] at hk3
  obtain ⟨num,r3,e3,h_num,_⟩:=hk3
  obtain rfl:=(List.cons.inj e3).1
  obtain ⟨d4,hk4,hr4⟩:=nN (M:=ek (mO W)) (k:= .int .i8) (by kernel_rfl) (PF 4 23 v4 rfl rfl)
  simp only [lj] at hk4
  obtain ⟨aw,r4,e4,h_phys,_⟩:=hk4
  obtain rfl:=(List.cons.inj e4).1
  refine aJ.LS (AW ⟨fun i=>rg [u0,u1,u2,u3,u4,u5,u6,u7,u8,u9,u10] i,fun i=>rg [w0,w1,w2,w3,w4,w5,w6,w7,w8,w9,w10] i⟩ l ho0 (by rw [List.length_map];omega) aF num aw (Kk h_phys)) ⟨rfl,?_⟩
  intro i d v' h1 h2
  match i,h1,h2 with
  |0,h1,h2=>
    simp at h1 h2
    subst h1 h2
    exact hr0
  |1,h1,h2=>
    simp at h1 h2
    subst h1 h2
    exact T3
  |2,h1,h2=>
    simp at h1 h2
    subst h1 h2
    exact hr2
  |3,h1,h2=>
    simp at h1 h2
    subst h1 h2
    exact hr3
  |4,h1,h2=>
    simp at h1 h2
    subst h1 h2
    exact hr4

set_option maxRecDepth 100000 in
theorem lE (os : Os) (started : os.Started) (H : Type) (enc : TypeId × Value → H) :
    ReturnsInHanded {} Tryz.checked os 3 .any (Rows.frameTellsSpec.pre6 enc Tryz.prog Tryz.f3 Rows.frameTellsRow.domain false) (Rows.frameTellsSpec.post enc Tryz.prog Tryz.f3 false true false false):=
  yR (C:=Tryz.checked) (tb:=4) oz started (by kernel_rfl) Tryz.func3 mV rfl
    (by rw [Tryz.params3];intro t ht;simp at ht;rcases ht with rfl|rfl|rfl|rfl|rfl<;>exact ⟨by kernel_rfl,by decide+kernel⟩) (by kernel_rfl) Tryz.underlying4
    (by
      intro ds hl
      have P8:ds.length=5:=hl
      match ds,P8 with
      | [d0,d1,d2,d3,d4],_=>exact ⟨rfl,rfl,rfl⟩)
    (ChangeSpec.witness6 (enc:=enc) (C:=Tryz.checked) false ⟨#[],#[.slice none 0 0,.agg #[.int .i8 0,.int .i8 0,.int .i8 0,.int .i8 0,.int .i8 0,.int .i8 0,.int .i8 0,.int .i8 0,.int .i8 0,.int .i8 0,.int .i8 0,.int .i8 0,.int .i8 0,.int .i8 0,.int .i8 0,.int .i8 0,.int .i8 0,.int .i8 0,.int .i8 0,.int .i8 0,.int .i8 0,.int .i8 0],.int .i64 0,.int .i64 0,.int .i8 0],[]⟩ 8 (by kernel_rfl) (by kernel_rfl) (by kernel_rfl) (by kernel_rfl))
    (fun W base args ds ps PF hlen hA _=>oA W base args PF hlen hA)

theorem frameTells_holds:Rows.FrameTellsSaid:=
  OpenClaim.holds_of_wide 3 Tryz.f3 rfl rfl rfl rfl rfl rfl rfl ⟨rfl,rfl,rfl,rfl,rfl⟩ rfl rfl rfl rfl rfl (by kernel_rfl) Tryz.func3 (by kernel_rfl)
    (of_decide_eq_true (by kernel_rfl)) (by unfold Func.isWrapper;first|(rw [if_pos (by decide+kernel)];kernel_rfl)|(rw [if_neg (by decide+kernel)];exact ⟨rfl,rfl⟩))
    (fun os started H enc _=>lE os started H enc)
end Go.Proofs.YtkpneibifdoecaaGreat
#print axioms Go.Proofs.YtkpneibifdoecaaGreat.frameTells_holds
