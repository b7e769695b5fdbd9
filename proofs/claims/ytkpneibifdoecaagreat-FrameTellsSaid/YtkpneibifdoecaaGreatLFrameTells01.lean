import Derived.Test.YtkpneibifdoecaaGreatT05
import Derived.Test.YtkpneibifdoecaaGreatT08
import Derived.Test.YtkpneibifdoecaaGreatT15
/- Contracts and plain laws that a statement's proof leans on (texts merged:MdV). -/
set_option linter.unusedVariables false
set_option linter.unusedSimpArgs false
namespace Go.Ev
open Go
def KN:List LK:= [.int .i8,.int .i8,.int .i8,.int .i8,.int .i8,.int .i8,.int .i64,.int .i64,.int .i8,.int .i8,.int .i8,.int .i64,.int .i64]
theorem wm {n:Int} (h:IntKind.i8.has n): -128≤n∧n≤127:=by
 simp [IntKind.has,IntKind.min,IntKind.max,IntKind.signed,IntKind.bits] at h
 omega
theorem Kg {ds:List D} (h:lj KN ds):(GG (.agg ds)).d= .agg ds∧(GG (.agg ds)).ok:=by
 simp only [KN,lj] at h
 obtain ⟨a1,_,rfl,h1,a2,_,rfl,h2,a3,_,rfl,h3,a4,_,rfl,h4,a5,_,rfl,h5,a6,_,rfl,h6,a7,_,rfl,h7,a8,_,rfl,h8,a9,_,rfl,h9,Uv,_,rfl,SV,Ua,_,rfl,S3,UK,_,rfl,TH,a13,_,rfl,Pv,rfl⟩:=h
 have k1:=wm h1
 have k2:=wm h2
 have k9:=wm h9
 have UM:=wm SV
 have S5:=wm S3
 exact ⟨rfl,k1.1,k1.2,k2.2,k9.2,S5.2,UM.1,UM.2⟩
theorem Ej:∀(xs:List (List D)),(∀ds∈xs,lj KN ds)→∃l:List dp,xs.map .agg=l.map dp.d∧hE l∧l.length=xs.length
 | [],_=>⟨[],rfl,fun s hs=>(by simp at hs),rfl⟩
 |ds::r,h=>by
  obtain ⟨l,e,ho,hl⟩:=Ej r (fun d hd=>h d (List.mem_cons_of_mem _ hd))
  obtain ⟨e1,o1⟩:=Kg (h ds (List.mem_cons_self ..))
  refine ⟨GG (.agg ds)::l,by rw [List.map_cons,List.map_cons,e,e1],fun s hs=> ?_,by simp [hl]⟩
  rcases List.mem_cons.mp hs with rfl|hs
  ·exact o1
  ·exact ho s hs
end Go.Ev
