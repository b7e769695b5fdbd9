import Derived.Test.YtbfpahigdpigpaaGreatM07
import Derived.Test.YtbfpahigdpigpaaGreatM10
/- Contracts and plain laws that a statement's proof leans on (texts merged:MdP4). -/
set_option linter.unusedVariables false
set_option linter.unusedSimpArgs false
namespace Go.Ev
open Go
def GG:List LK:= [.int .u8]
def Gj (ds:List D):D:=ds.headD .undef
theorem vG (ds:List D) (h:l7 GG ds):(Gj ds).cells=some ds:=by
 simp only [GG,l7] at h
 obtain ⟨n,r,rfl,_,rfl⟩:=h
 rfl
theorem xG:∀(xs:List (List D)),(∀ds∈xs,l7 GG ds)→∃l:List Int,xs.map Gj=bD l∧gQ l∧l.length=xs.length
 | [],_=>⟨[],rfl,fW,rfl⟩
 |ds::r,h=>by
  obtain ⟨l,e,ho,hl⟩:=xG r (fun d hd=>h d (List.mem_cons_of_mem _ hd))
  have h1:=h ds (List.mem_cons_self ..)
  simp only [GG,l7] at h1
  obtain ⟨n,r',rfl,hn,rfl⟩:=h1
  refine ⟨n::l,by rw [List.map_cons,e];rfl,dW.2 ⟨?_,ho⟩,by simp [hl]⟩
  simp [IntKind.has,IntKind.min,IntKind.max,IntKind.signed,IntKind.bits] at hn
  omega
end Go.Ev
