import Derived.Test.YtbfpahigdpigpaaGreatC07
import Derived.Test.YtbfpahigdpigpaaGreatC10
/- Contracts and plain laws that a statement's proof leans on (texts merged:MdP4). -/
set_option linter.unusedVariables false
set_option linter.unusedSimpArgs false
namespace Go.Ev
open Go
def Jd:List LK:= [.int .u8]
def IM (ds:List D):D:=ds.headD .undef
theorem xx (ds:List D) (h:nk Jd ds):(IM ds).cells=some ds:=by
 simp only [Jd,nk] at h
 obtain ⟨n,r,rfl,_,rfl⟩:=h
 rfl
theorem zJ:∀(xs:List (List D)),(∀ds∈xs,nk Jd ds)→∃l:List Int,xs.map IM=bD l∧fO l∧l.length=xs.length
 | [],_=>⟨[],rfl,gy,rfl⟩
 |ds::r,h=>by
  obtain ⟨l,e,ho,hl⟩:=zJ r (fun d hd=>h d (List.mem_cons_of_mem _ hd))
  have h1:=h ds (List.mem_cons_self ..)
  simp only [Jd,nk] at h1
  obtain ⟨n,r',rfl,hn,rfl⟩:=h1
  refine ⟨n::l,by rw [List.map_cons,e];rfl,ek.2 ⟨?_,ho⟩,by simp [hl]⟩
  simp [IntKind.has,IntKind.min,IntKind.max,IntKind.signed,IntKind.bits] at hn
  omega
end Go.Ev
