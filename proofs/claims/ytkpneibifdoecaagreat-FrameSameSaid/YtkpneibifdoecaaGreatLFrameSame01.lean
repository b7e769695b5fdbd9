import Derived.Test.YtkpneibifdoecaaGreatU05
import Derived.Test.YtkpneibifdoecaaGreatU08
import Derived.Test.YtkpneibifdoecaaGreatU15
/- Contracts and plain laws that a statement's proof leans on (texts merged:MdV). -/
set_option linter.unusedVariables false
set_option linter.unusedSimpArgs false
namespace Go.Ev
open Go
def Kj:List LK:= [.int .i8,.int .i8,.int .i8,.int .i8,.int .i8,.int .i8,.int .i64,.int .i64,.int .i8,.int .i8,.int .i8,.int .i64,.int .i64]
theorem vO {n:Int} (h:IntKind.i8.has n): -128≤n∧n≤127:=by
 simp [IntKind.has,IntKind.min,IntKind.max,IntKind.signed,IntKind.bits] at h
 omega
theorem Jt {ds:List D} (h:nS Kj ds):(F6 (.agg ds)).d= .agg ds∧(F6 (.agg ds)).ok:=by
 simp only [Kj,nS] at h
 obtain ⟨a1,_,rfl,h1,a2,_,rfl,h2,a3,_,rfl,h3,a4,_,rfl,h4,a5,_,rfl,h5,a6,_,rfl,h6,a7,_,rfl,h7,a8,_,rfl,h8,a9,_,rfl,h9,Uz,_,rfl,Sx,T4,_,rfl,Ss,Ur,_,rfl,UM,a13,_,rfl,U4,rfl⟩:=h
 have k1:=vO h1
 have k2:=vO h2
 have k9:=vO h9
 have Um:=vO Sx
 have S6:=vO Ss
 exact ⟨rfl,k1.1,k1.2,k2.2,k9.2,S6.2,Um.1,Um.2⟩
theorem DQ:∀(xs:List (List D)),(∀ds∈xs,nS Kj ds)→∃l:List cd,xs.map .agg=l.map cd.d∧fQ l∧l.length=xs.length
 | [],_=>⟨[],rfl,fun s hs=>(by simp at hs),rfl⟩
 |ds::r,h=>by
  obtain ⟨l,e,ho,hl⟩:=DQ r (fun d hd=>h d (List.mem_cons_of_mem _ hd))
  obtain ⟨e1,o1⟩:=Jt (h ds (List.mem_cons_self ..))
  refine ⟨F6 (.agg ds)::l,by rw [List.map_cons,List.map_cons,e,e1],fun s hs=> ?_,by simp [hl]⟩
  rcases List.mem_cons.mp hs with rfl|hs
  ·exact o1
  ·exact ho s hs
end Go.Ev
