import Derived.Test.YtbfpahigdpigpaaGreatS06
import Derived.Test.YtbfpahigdpigpaaGreatS09
import Derived.Test.YtbfpahigdpigpaaGreatS12
open List renaming replicate→Xg
open Go.Proofs.Tryz renaming prog→Xh,func163→XI
open And renaming intro→Xw
open True renaming intro→X7
open Go renaming IntKind→YO
/- Contracts and plain laws that a statement's proof leans on (texts merged:E0F0,E0F,E1e,Y1f,ESM). -/
set_option linter.unusedVariables false
set_option linter.unusedSimpArgs false
set_option maxRecDepth 100000
set_option maxHeartbeats 8000000
namespace Go.Proofs.YtbfpahigdpigpaaGreat
open Go Go.Ev
theorem tY:aY Xh 171 ([aj 2]) (ax true):=(aY.ai (d:= .bool true) mixed Tryz.func171 (by kernel_rfl) ([tT,tT,tT,tT,aW,aW,aW,aW,aW,aW,aW,aW,aW,aW,tT,tT]++ [tT,tT,tT])).to (by ((simp only [aI,fS];repeat' (first|rfl|exact X7|apply Xw));done))
theorem tX:aY Xh 171 ([aj 3]) (ax true):=(aY.ai (d:= .bool true) mixed Tryz.func171 (by kernel_rfl) ([tT,tT,tT,tT,aW,aW,aW,aW,aW,aW,aW,aW,aW,aW,tT,tT]++ [tT,tT,tT])).to (by ((simp only [aI,fS];repeat' (first|rfl|exact X7|apply Xw));done))
theorem tW:aY Xh 171 ([aj 4]) (ax true):=(aY.ai (d:= .bool true) mixed Tryz.func171 (by kernel_rfl) ([tT,tT,tT,tT,aW,aW,aW,aW,aW,aW,aW,aW,aW,aW,tT,tT]++ [tT,tT,tT])).to (by ((simp only [aI,fS];repeat' (first|rfl|exact X7|apply Xw));done))
theorem tV:aY Xh 171 ([aj 5]) (ax true):=(aY.ai (d:= .bool true) mixed Tryz.func171 (by kernel_rfl) ([tT,tT,tT,tT,aW,aW,aW,aW,aW,aW,aW,aW,aW,aW,tT,tT]++ [tT,tT,tT])).to (by ((simp only [aI,fS];repeat' (first|rfl|exact X7|apply Xw));done))
theorem tS:aY Xh 171 ([aj 6]) (ax true):=(aY.ai (d:= .bool true) mixed Tryz.func171 (by kernel_rfl) ([tT,tT,tT,tT,aW,aW,aW,aW,aW,aW,aW,aW,aW,aW,tT,tT]++ [tT,tT,tT])).to (by ((simp only [aI,fS];repeat' (first|rfl|exact X7|apply Xw));done))
theorem tR:aY Xh 171 ([aj 7]) (ax true):=(aY.ai (d:= .bool true) mixed Tryz.func171 (by kernel_rfl) ([tT,tT,tT,tT,aW,aW,aW,aW,aW,aW,aW,aW,aW,aW,tT,tT]++ [tT,tT,tT])).to (by ((simp only [aI,fS];repeat' (first|rfl|exact X7|apply Xw));done))
theorem rV:aY Xh 171 ([aj 12]) (ax true):=(aY.ai (d:= .bool true) mixed Tryz.func171 (by kernel_rfl) ([tT,tT,tT,tT,aW,aW,aW,aW,aW,aW,aW,aW,aW,aW,tT,tT]++ [tT,tT,tT])).to (by ((simp only [aI,fS];repeat' (first|rfl|exact X7|apply Xw));done))
theorem rU:aY Xh 171 ([aj 13]) (ax true):=(aY.ai (d:= .bool true) mixed Tryz.func171 (by kernel_rfl) ([tT,tT,tT,tT,aW,aW,aW,aW,aW,aW,aW,aW,aW,aW,tT,tT]++ [tT,tT,tT])).to (by ((simp only [aI,fS];repeat' (first|rfl|exact X7|apply Xw));done))
theorem rT:aY Xh 171 ([aj 14]) (ax true):=(aY.ai (d:= .bool true) mixed Tryz.func171 (by kernel_rfl) ([tT,tT,tT,tT,aW,aW,aW,aW,aW,aW,aW,aW,aW,aW,tT,tT]++ [tT,tT,tT])).to (by ((simp only [aI,fS];repeat' (first|rfl|exact X7|apply Xw));done))
theorem rR:aY Xh 171 ([aj 15]) (ax true):=(aY.ai (d:= .bool true) mixed Tryz.func171 (by kernel_rfl) ([tT,tT,tT,tT,aW,aW,aW,aW,aW,aW,aW,aW,aW,aW,tT,tT]++ [tT,tT,tT])).to (by ((simp only [aI,fS];repeat' (first|rfl|exact X7|apply Xw));done))
def jw (Q3:Int):Prop:= ∀(c z s o:Bool),aY Xh 163 ([aj Q3,fD true c z s o]) (.aQ [ax (eR Q3 c z s o),ao 0])
theorem yQ:jw 2:=by
  intro c z s o
  have c0:= @tY
  have c1:= @dv
  exact (aY.ai (d:= .aQ [ax c,ao 0]) mixed XI (by kernel_rfl) ([aw c0,tF,aw c1,.flat _ _ ba,tT,tT,tT,tF,tF,aW,aW,aW,aW,aW,aW,aW]++ [aW,aW,aW,.aV [],.aV [(0,au [ax true,ax c,ax z,ax s,ax o])],tT,aW])).to (by (try cases c)<;>(try cases z)<;>(try cases s)<;>(try cases o)<;>first|(simp [aI,eR];done)|rfl|exact ⟨rfl,rfl,trivial⟩)
def jv (Q3:Int):Prop:= ∀(c z s o:Bool),aY Xh 163 ([aj Q3,fD false c z s o]) (.aQ [ax false,ao 20])
theorem wH:jv 2:=by
  intro c z s o
  have c0:= @tY
  have c1:= @dv
  cases c
  · skip
    cases z
    · skip
      cases s
      · skip
        cases o
        · skip
          exact (aY.ai (d:= .aQ [ax false,ao 20]) mixed XI (by kernel_rfl) [aw c0,tF,aw c1,.flat _ _ ba,tF,tF,tF,tT,tT]).to (by simp [aI])
        · skip
          exact (aY.ai (d:= .aQ [ax false,ao 20]) mixed XI (by kernel_rfl) [aw c0,tF,aw c1,.flat _ _ ba,tT,tT,tT,tF,tT]).to (by simp [aI])
      · skip
        exact (aY.ai (d:= .aQ [ax false,ao 20]) mixed XI (by kernel_rfl) [aw c0,tF,aw c1,.flat _ _ ba,tT,tT,tT,tF,tT]).to (by simp [aI])
    · skip
      exact (aY.ai (d:= .aQ [ax false,ao 20]) mixed XI (by kernel_rfl) [aw c0,tF,aw c1,.flat _ _ ba,tT,tT,tT,tF,tT]).to (by simp [aI])
  · skip
    exact (aY.ai (d:= .aQ [ax false,ao 20]) mixed XI (by kernel_rfl) [aw c0,tF,aw c1,.flat _ _ ba,tT,tT,tT,tF,tT]).to (by simp [aI])
theorem yP:jw 3:=by
 intro c z s o
 have c0:= @tX
 have c1:= @dv
 exact (aY.ai (d:= .aQ [ax !c,ao 0]) mixed XI (by kernel_rfl) ([aw c0,tF,aw c1,.flat _ _ ba,tT,tT,tT,tF,tF,aW,aW,aW,aW,aW,aW,aW]++ [aW,aW,aW,.aV [],.aV [(0,au [ax true,ax c,ax z,ax s,ax o])],tT,aW,aW])).to (by (try cases c)<;>(try cases z)<;>(try cases s)<;>(try cases o)<;>first|(simp [aI,eR];done)|rfl|exact ⟨rfl,rfl,trivial⟩)
theorem wG:jv 3:=by
 intro c z s o
 have c0:= @tX
 have c1:= @dv
 cases c
 ·cases z
  ·cases s
   ·cases o
    ·exact (aY.ai (d:= .aQ [ax false,ao 20]) mixed XI (by kernel_rfl) [aw c0,tF,aw c1,.flat _ _ ba,tF,tF,tF,tT,tT]).to (by simp [aI])
    ·exact (aY.ai (d:= .aQ [ax false,ao 20]) mixed XI (by kernel_rfl) [aw c0,tF,aw c1,.flat _ _ ba,tT,tT,tT,tF,tT]).to (by simp [aI])
   ·exact (aY.ai (d:= .aQ [ax false,ao 20]) mixed XI (by kernel_rfl) [aw c0,tF,aw c1,.flat _ _ ba,tT,tT,tT,tF,tT]).to (by simp [aI])
  ·exact (aY.ai (d:= .aQ [ax false,ao 20]) mixed XI (by kernel_rfl) [aw c0,tF,aw c1,.flat _ _ ba,tT,tT,tT,tF,tT]).to (by simp [aI])
 ·exact (aY.ai (d:= .aQ [ax false,ao 20]) mixed XI (by kernel_rfl) [aw c0,tF,aw c1,.flat _ _ ba,tT,tT,tT,tF,tT]).to (by simp [aI])
theorem yO:jw 4:=by
 intro c z s o
 have c0:= @tW
 have c1:= @dv
 exact (aY.ai (d:= .aQ [ax z,ao 0]) mixed XI (by kernel_rfl) ([aw c0,tF,aw c1,.flat _ _ ba,tT,tT,tT,tF,tF,aW,aW,aW,aW,aW,aW,aW]++ [aW,aW,aW,.aV [],.aV [(0,au [ax true,ax c,ax z,ax s,ax o])],tT,aW])).to (by (try cases c)<;>(try cases z)<;>(try cases s)<;>(try cases o)<;>first|(simp [aI,eR];done)|rfl|exact ⟨rfl,rfl,trivial⟩)
theorem wF:jv 4:=by
 intro c z s o
 have c0:= @tW
 have c1:= @dv
 cases c
 ·cases z
  ·cases s
   ·cases o
    ·exact (aY.ai (d:= .aQ [ax false,ao 20]) mixed XI (by kernel_rfl) [aw c0,tF,aw c1,.flat _ _ ba,tF,tF,tF,tT,tT]).to (by simp [aI])
    ·exact (aY.ai (d:= .aQ [ax false,ao 20]) mixed XI (by kernel_rfl) [aw c0,tF,aw c1,.flat _ _ ba,tT,tT,tT,tF,tT]).to (by simp [aI])
   ·exact (aY.ai (d:= .aQ [ax false,ao 20]) mixed XI (by kernel_rfl) [aw c0,tF,aw c1,.flat _ _ ba,tT,tT,tT,tF,tT]).to (by simp [aI])
  ·exact (aY.ai (d:= .aQ [ax false,ao 20]) mixed XI (by kernel_rfl) [aw c0,tF,aw c1,.flat _ _ ba,tT,tT,tT,tF,tT]).to (by simp [aI])
 ·exact (aY.ai (d:= .aQ [ax false,ao 20]) mixed XI (by kernel_rfl) [aw c0,tF,aw c1,.flat _ _ ba,tT,tT,tT,tF,tT]).to (by simp [aI])
theorem yN:jw 5:=by
 intro c z s o
 have c0:= @tV
 have c1:= @dv
 exact (aY.ai (d:= .aQ [ax !z,ao 0]) mixed XI (by kernel_rfl) ([aw c0,tF,aw c1,.flat _ _ ba,tT,tT,tT,tF,tF,aW,aW,aW,aW,aW,aW,aW]++ [aW,aW,aW,.aV [],.aV [(0,au [ax true,ax c,ax z,ax s,ax o])],tT,aW,aW])).to (by (try cases c)<;>(try cases z)<;>(try cases s)<;>(try cases o)<;>first|(simp [aI,eR];done)|rfl|exact ⟨rfl,rfl,trivial⟩)
theorem wE:jv 5:=by
 intro c z s o
 have c0:= @tV
 have c1:= @dv
 cases c
 ·cases z
  ·cases s
   ·cases o
    ·exact (aY.ai (d:= .aQ [ax false,ao 20]) mixed XI (by kernel_rfl) [aw c0,tF,aw c1,.flat _ _ ba,tF,tF,tF,tT,tT]).to (by simp [aI])
    ·exact (aY.ai (d:= .aQ [ax false,ao 20]) mixed XI (by kernel_rfl) [aw c0,tF,aw c1,.flat _ _ ba,tT,tT,tT,tF,tT]).to (by simp [aI])
   ·exact (aY.ai (d:= .aQ [ax false,ao 20]) mixed XI (by kernel_rfl) [aw c0,tF,aw c1,.flat _ _ ba,tT,tT,tT,tF,tT]).to (by simp [aI])
  ·exact (aY.ai (d:= .aQ [ax false,ao 20]) mixed XI (by kernel_rfl) [aw c0,tF,aw c1,.flat _ _ ba,tT,tT,tT,tF,tT]).to (by simp [aI])
 ·exact (aY.ai (d:= .aQ [ax false,ao 20]) mixed XI (by kernel_rfl) [aw c0,tF,aw c1,.flat _ _ ba,tT,tT,tT,tF,tT]).to (by simp [aI])
theorem yM:jw 6:=by
 intro c z s o
 have c0:= @tS
 have c1:= @dv
 cases c
 ·exact (aY.ai (d:= .aQ [ax z,ao 0]) mixed XI (by kernel_rfl) ([aw c0,tF,aw c1,.flat _ _ ba,tT,tT,tT,tF,tF,aW,aW,aW,aW,aW,aW,aW]++ [aW,aW,aW,.aV [],.aV [(0,au [ax true,ax false,ax z,ax s,ax o])],tT,aW,aW,tT,tT,tT,aW,tF])).to (by (try cases c)<;>(try cases z)<;>(try cases s)<;>(try cases o)<;>first|(simp [aI,eR];done)|rfl|exact ⟨rfl,rfl,trivial⟩)
 ·exact (aY.ai (d:= .aQ [ax true,ao 0]) mixed XI (by kernel_rfl) ([aw c0,tF,aw c1,.flat _ _ ba,tT,tT,tT,tF,tF,aW,aW,aW,aW,aW,aW,aW]++ [aW,aW,aW,.aV [],.aV [(0,au [ax true,ax true,ax z,ax s,ax o])],tT,aW,aW,tF,tF,tF,tT])).to (by (try cases c)<;>(try cases z)<;>(try cases s)<;>(try cases o)<;>first|(simp [aI,eR];done)|rfl|exact ⟨rfl,rfl,trivial⟩)
theorem wC:jv 6:=by
 intro c z s o
 have c0:= @tS
 have c1:= @dv
 cases c
 ·cases z
  ·cases s
   ·cases o
    ·exact (aY.ai (d:= .aQ [ax false,ao 20]) mixed XI (by kernel_rfl) [aw c0,tF,aw c1,.flat _ _ ba,tF,tF,tF,tT,tT]).to (by simp [aI])
    ·exact (aY.ai (d:= .aQ [ax false,ao 20]) mixed XI (by kernel_rfl) [aw c0,tF,aw c1,.flat _ _ ba,tT,tT,tT,tF,tT]).to (by simp [aI])
   ·exact (aY.ai (d:= .aQ [ax false,ao 20]) mixed XI (by kernel_rfl) [aw c0,tF,aw c1,.flat _ _ ba,tT,tT,tT,tF,tT]).to (by simp [aI])
  ·exact (aY.ai (d:= .aQ [ax false,ao 20]) mixed XI (by kernel_rfl) [aw c0,tF,aw c1,.flat _ _ ba,tT,tT,tT,tF,tT]).to (by simp [aI])
 ·exact (aY.ai (d:= .aQ [ax false,ao 20]) mixed XI (by kernel_rfl) [aw c0,tF,aw c1,.flat _ _ ba,tT,tT,tT,tF,tT]).to (by simp [aI])
theorem yL:jw 7:=by
 intro c z s o
 have c0:= @tR
 have c1:= @dv
 cases c
 ·exact (aY.ai (d:= .aQ [ax !z,ao 0]) mixed XI (by kernel_rfl) ([aw c0,tF,aw c1,.flat _ _ ba,tT,tT,tT,tF,tF,aW,aW,aW,aW,aW,aW,aW]++ [aW,aW,aW,.aV [],.aV [(0,au [ax true,ax false,ax z,ax s,ax o])],tT,aW,aW,aW,tT,tT,tT,aW,tF])).to (by (try cases c)<;>(try cases z)<;>(try cases s)<;>(try cases o)<;>first|(simp [aI,eR];done)|rfl|exact ⟨rfl,rfl,trivial⟩)
 ·exact (aY.ai (d:= .aQ [ax false,ao 0]) mixed XI (by kernel_rfl) ([aw c0,tF,aw c1,.flat _ _ ba,tT,tT,tT,tF,tF,aW,aW,aW,aW,aW,aW,aW]++ [aW,aW,aW,.aV [],.aV [(0,au [ax true,ax true,ax z,ax s,ax o])],tT,aW,aW,aW,tF,tF,tF,tT])).to (by (try cases c)<;>(try cases z)<;>(try cases s)<;>(try cases o)<;>first|(simp [aI,eR];done)|rfl|exact ⟨rfl,rfl,trivial⟩)
theorem wB:jv 7:=by
 intro c z s o
 have c0:= @tR
 have c1:= @dv
 cases c
 ·cases z
  ·cases s
   ·cases o
    ·exact (aY.ai (d:= .aQ [ax false,ao 20]) mixed XI (by kernel_rfl) [aw c0,tF,aw c1,.flat _ _ ba,tF,tF,tF,tT,tT]).to (by simp [aI])
    ·exact (aY.ai (d:= .aQ [ax false,ao 20]) mixed XI (by kernel_rfl) [aw c0,tF,aw c1,.flat _ _ ba,tT,tT,tT,tF,tT]).to (by simp [aI])
   ·exact (aY.ai (d:= .aQ [ax false,ao 20]) mixed XI (by kernel_rfl) [aw c0,tF,aw c1,.flat _ _ ba,tT,tT,tT,tF,tT]).to (by simp [aI])
  ·exact (aY.ai (d:= .aQ [ax false,ao 20]) mixed XI (by kernel_rfl) [aw c0,tF,aw c1,.flat _ _ ba,tT,tT,tT,tF,tT]).to (by simp [aI])
 ·exact (aY.ai (d:= .aQ [ax false,ao 20]) mixed XI (by kernel_rfl) [aw c0,tF,aw c1,.flat _ _ ba,tT,tT,tT,tF,tT]).to (by simp [aI])
theorem wL:jw 12:=by
 intro c z s o
 have c0:= @rV
 have c1:= @dv
 exact (aY.ai (d:= .aQ [ax !s==o,ao 0]) mixed XI (by kernel_rfl) ([aw c0,tF,aw c1,.flat _ _ ba,tT,tT,tT,tF,tF,aW,aW,aW,aW,aW,aW,aW]++ [aW,aW,aW,.aV [],.aV [(0,au [ax true,ax c,ax z,ax s,ax o])],tT,aW])).to (by (try cases c)<;>(try cases z)<;>(try cases s)<;>(try cases o)<;>first|(simp [aI,eR];done)|rfl|exact ⟨rfl,rfl,trivial⟩)
theorem s9:jv 12:=by
 intro c z s o
 have c0:= @rV
 have c1:= @dv
 cases c
 ·cases z
  ·cases s
   ·cases o
    ·exact (aY.ai (d:= .aQ [ax false,ao 20]) mixed XI (by kernel_rfl) [aw c0,tF,aw c1,.flat _ _ ba,tF,tF,tF,tT,tT]).to (by simp [aI])
    ·exact (aY.ai (d:= .aQ [ax false,ao 20]) mixed XI (by kernel_rfl) [aw c0,tF,aw c1,.flat _ _ ba,tT,tT,tT,tF,tT]).to (by simp [aI])
   ·exact (aY.ai (d:= .aQ [ax false,ao 20]) mixed XI (by kernel_rfl) [aw c0,tF,aw c1,.flat _ _ ba,tT,tT,tT,tF,tT]).to (by simp [aI])
  ·exact (aY.ai (d:= .aQ [ax false,ao 20]) mixed XI (by kernel_rfl) [aw c0,tF,aw c1,.flat _ _ ba,tT,tT,tT,tF,tT]).to (by simp [aI])
 ·exact (aY.ai (d:= .aQ [ax false,ao 20]) mixed XI (by kernel_rfl) [aw c0,tF,aw c1,.flat _ _ ba,tT,tT,tT,tF,tT]).to (by simp [aI])
theorem wK:jw 13:=by
 intro c z s o
 have c0:= @rU
 have c1:= @dv
 exact (aY.ai (d:= .aQ [ax !!s==o,ao 0]) mixed XI (by kernel_rfl) ([aw c0,tF,aw c1,.flat _ _ ba,tT,tT,tT,tF,tF,aW,aW,aW,aW,aW,aW,aW]++ [aW,aW,aW,.aV [],.aV [(0,au [ax true,ax c,ax z,ax s,ax o])],tT,aW,aW])).to (by (try cases c)<;>(try cases z)<;>(try cases s)<;>(try cases o)<;>first|(simp [aI,eR];done)|rfl|exact ⟨rfl,rfl,trivial⟩)
theorem s8:jv 13:=by
 intro c z s o
 have c0:= @rU
 have c1:= @dv
 cases c
 ·cases z
  ·cases s
   ·cases o
    ·exact (aY.ai (d:= .aQ [ax false,ao 20]) mixed XI (by kernel_rfl) [aw c0,tF,aw c1,.flat _ _ ba,tF,tF,tF,tT,tT]).to (by simp [aI])
    ·exact (aY.ai (d:= .aQ [ax false,ao 20]) mixed XI (by kernel_rfl) [aw c0,tF,aw c1,.flat _ _ ba,tT,tT,tT,tF,tT]).to (by simp [aI])
   ·exact (aY.ai (d:= .aQ [ax false,ao 20]) mixed XI (by kernel_rfl) [aw c0,tF,aw c1,.flat _ _ ba,tT,tT,tT,tF,tT]).to (by simp [aI])
  ·exact (aY.ai (d:= .aQ [ax false,ao 20]) mixed XI (by kernel_rfl) [aw c0,tF,aw c1,.flat _ _ ba,tT,tT,tT,tF,tT]).to (by simp [aI])
 ·exact (aY.ai (d:= .aQ [ax false,ao 20]) mixed XI (by kernel_rfl) [aw c0,tF,aw c1,.flat _ _ ba,tT,tT,tT,tF,tT]).to (by simp [aI])
theorem wJ:jw 14:=by
 intro c z s o
 have c0:= @rT
 have c1:= @dv
 cases z
 ·exact (aY.ai (d:= .aQ [ax !s==o,ao 0]) mixed XI (by kernel_rfl) ([aw c0,tF,aw c1,.flat _ _ ba,tT,tT,tT,tF,tF,aW,aW,aW,aW,aW,aW,aW]++ [aW,aW,aW,.aV [],.aV [(0,au [ax true,ax c,ax false,ax s,ax o])],tT,aW,aW,tT,tT,tT,aW,tF])).to (by (try cases c)<;>(try cases z)<;>(try cases s)<;>(try cases o)<;>first|(simp [aI,eR];done)|rfl|exact ⟨rfl,rfl,trivial⟩)
 ·exact (aY.ai (d:= .aQ [ax true,ao 0]) mixed XI (by kernel_rfl) ([aw c0,tF,aw c1,.flat _ _ ba,tT,tT,tT,tF,tF,aW,aW,aW,aW,aW,aW,aW]++ [aW,aW,aW,.aV [],.aV [(0,au [ax true,ax c,ax true,ax s,ax o])],tT,aW,aW,tF,tF,tF,tT])).to (by (try cases c)<;>(try cases z)<;>(try cases s)<;>(try cases o)<;>first|(simp [aI,eR];done)|rfl|exact ⟨rfl,rfl,trivial⟩)
theorem s7:jv 14:=by
 intro c z s o
 have c0:= @rT
 have c1:= @dv
 cases c
 ·cases z
  ·cases s
   ·cases o
    ·exact (aY.ai (d:= .aQ [ax false,ao 20]) mixed XI (by kernel_rfl) [aw c0,tF,aw c1,.flat _ _ ba,tF,tF,tF,tT,tT]).to (by simp [aI])
    ·exact (aY.ai (d:= .aQ [ax false,ao 20]) mixed XI (by kernel_rfl) [aw c0,tF,aw c1,.flat _ _ ba,tT,tT,tT,tF,tT]).to (by simp [aI])
   ·exact (aY.ai (d:= .aQ [ax false,ao 20]) mixed XI (by kernel_rfl) [aw c0,tF,aw c1,.flat _ _ ba,tT,tT,tT,tF,tT]).to (by simp [aI])
  ·exact (aY.ai (d:= .aQ [ax false,ao 20]) mixed XI (by kernel_rfl) [aw c0,tF,aw c1,.flat _ _ ba,tT,tT,tT,tF,tT]).to (by simp [aI])
 ·exact (aY.ai (d:= .aQ [ax false,ao 20]) mixed XI (by kernel_rfl) [aw c0,tF,aw c1,.flat _ _ ba,tT,tT,tT,tF,tT]).to (by simp [aI])
theorem wI:jw 15:=by
 intro c z s o
 have c0:= @rR
 have c1:= @dv
 cases z
 ·exact (aY.ai (d:= .aQ [ax !!s==o,ao 0]) mixed XI (by kernel_rfl) ([aw c0,tF,aw c1,.flat _ _ ba,tT,tT,tT,tF,tF,aW,aW,aW,aW,aW,aW,aW]++ [aW,aW,aW,.aV [],.aV [(0,au [ax true,ax c,ax false,ax s,ax o])],tT,aW,aW,aW,tT,tT,tT,aW,tF])).to (by (try cases c)<;>(try cases z)<;>(try cases s)<;>(try cases o)<;>first|(simp [aI,eR];done)|rfl|exact ⟨rfl,rfl,trivial⟩)
 ·exact (aY.ai (d:= .aQ [ax false,ao 0]) mixed XI (by kernel_rfl) ([aw c0,tF,aw c1,.flat _ _ ba,tT,tT,tT,tF,tF,aW,aW,aW,aW,aW,aW,aW]++ [aW,aW,aW,.aV [],.aV [(0,au [ax true,ax c,ax true,ax s,ax o])],tT,aW,aW,aW,tF,tF,tF,tT])).to (by (try cases c)<;>(try cases z)<;>(try cases s)<;>(try cases o)<;>first|(simp [aI,eR];done)|rfl|exact ⟨rfl,rfl,trivial⟩)
theorem s6:jv 15:=by
 intro c z s o
 have c0:= @rR
 have c1:= @dv
 cases c
 ·cases z
  ·cases s
   ·cases o
    ·exact (aY.ai (d:= .aQ [ax false,ao 20]) mixed XI (by kernel_rfl) [aw c0,tF,aw c1,.flat _ _ ba,tF,tF,tF,tT,tT]).to (by simp [aI])
    ·exact (aY.ai (d:= .aQ [ax false,ao 20]) mixed XI (by kernel_rfl) [aw c0,tF,aw c1,.flat _ _ ba,tT,tT,tT,tF,tT]).to (by simp [aI])
   ·exact (aY.ai (d:= .aQ [ax false,ao 20]) mixed XI (by kernel_rfl) [aw c0,tF,aw c1,.flat _ _ ba,tT,tT,tT,tF,tT]).to (by simp [aI])
  ·exact (aY.ai (d:= .aQ [ax false,ao 20]) mixed XI (by kernel_rfl) [aw c0,tF,aw c1,.flat _ _ ba,tT,tT,tT,tF,tT]).to (by simp [aI])
 ·exact (aY.ai (d:= .aQ [ax false,ao 20]) mixed XI (by kernel_rfl) [aw c0,tF,aw c1,.flat _ _ ba,tT,tT,tT,tF,tT]).to (by simp [aI])
theorem y7 {cc:Int} (h:bB cc=true):cc=2∨cc=3∨cc=4∨cc=5∨cc=6∨cc=7∨cc=12∨cc=13∨cc=14∨cc=15:=by
 simp only [bB,bP] at h;omega
theorem pM (cc:Int) (c z s o:Bool) (h:bB cc=true):aY Xh 163 [aj cc,fD true c z s o] (.aQ [ax (eR cc c z s o),ao 0]):=by
 rcases y7 h with rfl|rfl|rfl|rfl|rfl|rfl|rfl|rfl|rfl|rfl
 ·exact yQ c z s o
 ·exact yP c z s o
 ·exact yO c z s o
 ·exact yN c z s o
 ·exact yM c z s o
 ·exact yL c z s o
 ·exact wL c z s o
 ·exact wK c z s o
 ·exact wJ c z s o
 ·exact wI c z s o
theorem pN (cc:Int) (c z s o:Bool) (h:bB cc=true):aY Xh 163 [aj cc,fD false c z s o] (.aQ [ax false,ao 20]):=by
 rcases y7 h with rfl|rfl|rfl|rfl|rfl|rfl|rfl|rfl|rfl|rfl
 ·exact wH c z s o
 ·exact wG c z s o
 ·exact wF c z s o
 ·exact wE c z s o
 ·exact wC c z s o
 ·exact wB c z s o
 ·exact s9 c z s o
 ·exact s8 c z s o
 ·exact s7 c z s o
 ·exact s6 c z s o
theorem AV (q0 q1 q2 q3 q4 q5 q6 q7 q8 q9 da dj dq dp dn dh RQ:Int) (fk fc fz fs fo:Bool) (w ab ae aa af aq cc ld:Int) (d0:0≤ab) (d1:ab≤15) (s0:0≤ae) (s1:ae≤15) (b0:0≤aa) (b1:aa≤15) (hm:a8 24 w ab ae aa af aq cc=true) (hd:(bo (rg [q0,q1,q2,q3,q4,q5,q6,q7,q8,q9,da,dj,dq,dp,dn,dh] ab) w==0)=false) (hz:(bo q2 w==0)=true):aY Xh 83 ([.agg [aB q0,aB q1,aB q2,aB q3,aB q4,aB q5,aB q6,aB q7,aB q8,aB q9,aB da,aB dj,aB dq,aB dp,aB dn,aB dh,ax fk,ax fc,ax fz,ax fs,ax fo,aB (RQ)],xD 24 w ab ae aa af aq cc,aB ld]) (.aQ [.agg [aB (u64 ((bo q0 w).tdiv (bo (rg [q0,q1,q2,q3,q4,q5,q6,q7,q8,q9,da,dj,dq,dp,dn,dh] ab) w))),aB q1,aB ((bo q0 w).tmod (bo (rg [q0,q1,q2,q3,q4,q5,q6,q7,q8,q9,da,dj,dq,dp,dn,dh] ab) w)),aB q3,aB q4,aB q5,aB q6,aB q7,aB q8,aB q9,aB da,aB dj,aB dq,aB dp,aB dn,aB dh,ax false,ax false,ax false,ax false,ax false,aB (u64 (RQ+u64 (eY 24 w ab ae aa af aq cc)))],ao 0]):=by
 have c0:= @bm 24 w ab ae aa af aq cc (by decide)
 rw [show (a8 24 w ab ae aa af aq cc)=true from hm] at c0
 have c1:= @dc 24 w ab ae aa af aq cc (by decide)
 have c2:= @cL q0 w
 have c3:= @cL (rg [q0,q1,q2,q3,q4,q5,q6,q7,q8,q9,da,dj,dq,dp,dn,dh] ab) w
 have c4:= @cL q2 w
 have c5:= @dv
 exact (lu (d:= .aQ [.agg [aB (YO.u64.wrap (Int.tdiv (bo q0 w) (bo (rg [q0,q1,q2,q3,q4,q5,q6,q7,q8,q9,da,dj,dq,dp,dn,dh] ab) w))),aB q1,aB (Int.tmod (bo q0 w) (bo (rg [q0,q1,q2,q3,q4,q5,q6,q7,q8,q9,da,dj,dq,dp,dn,dh] ab) w)),aB q3,aB q4,aB q5,aB q6,aB q7,aB q8,aB q9,aB da,aB dj,aB dq,aB dp,aB dn,aB dh,ax false,ax false,ax false,ax false,ax false,aB (YO.u64.wrap (RQ+YO.u64.wrap (eY 24 w ab ae aa af aq cc)))],ao 0]) ([aw c0,tF,aw c1,tT,tF,aW,aw c2,.dP (decide (0≤ab∧ab<(↑(16:Nat):Int))) true (by (simp only [cY] at*;omega)),.get _ _ _ (@mQ q0 q1 q2 q3 q4 q5 q6 q7 q8 q9 da dj dq dp dn dh ab ([ax fk,ax fc,ax fz,ax fs,ax fo,aB (YO.u64.wrap (RQ+YO.u64.wrap (eY 24 w ab ae aa af aq cc))),aj 24,aj w,aj ab,aj ae,aj aa,ao af,ao aq,aj cc,aB ld]) d0 d1),aw c3]++Xg 8 (tC (eF hd))++ [aw c4,tC (eF hd),tC hd,tC (nt (cP 0 true (eq_of_beq hz))),tC (v:=true) (PZ hd),tC (v:=true) (PZ hd),aw c5,tF])).to (by first|((simp only [aI,fS];repeat' (first|rfl|exact X7|apply Xw));done)|(simp [aI,u64,];done))
theorem yV (q0 q1 q2 q3 q4 q5 q6 q7 q8 q9 da dj dq dp dn dh RQ:Int) (fk fc fz fs fo:Bool) (w ab ae aa af aq cc ld:Int) (d0:0≤ab) (d1:ab≤15) (s0:0≤ae) (s1:ae≤15) (b0:0≤aa) (b1:aa≤15) (hm:a8 24 w ab ae aa af aq cc=true) (hd:(bo (rg [q0,q1,q2,q3,q4,q5,q6,q7,q8,q9,da,dj,dq,dp,dn,dh] ab) w==0)=true):aY Xh 83 ([.agg [aB q0,aB q1,aB q2,aB q3,aB q4,aB q5,aB q6,aB q7,aB q8,aB q9,aB da,aB dj,aB dq,aB dp,aB dn,aB dh,ax fk,ax fc,ax fz,ax fs,ax fo,aB (RQ)],xD 24 w ab ae aa af aq cc,aB ld]) (.aQ [.agg [aB (0),aB (0),aB (0),aB (0),aB (0),aB (0),aB (0),aB (0),aB (0),aB (0),aB (0),aB (0),aB (0),aB (0),aB (0),aB (0),ax false,ax false,ax false,ax false,ax false,aB (0)],ao 20]):=by
 have c0:= @bm 24 w ab ae aa af aq cc (by decide)
 rw [show (a8 24 w ab ae aa af aq cc)=true from hm] at c0
 have c1:= @dc 24 w ab ae aa af aq cc (by decide)
 have c2:= @cL q0 w
 have c3:= @cL (rg [q0,q1,q2,q3,q4,q5,q6,q7,q8,q9,da,dj,dq,dp,dn,dh] ab) w
 exact (lu (d:= .aQ [.agg [aB 0,aB 0,aB 0,aB 0,aB 0,aB 0,aB 0,aB 0,aB 0,aB 0,aB 0,aB 0,aB 0,aB 0,aB 0,aB 0,ax false,ax false,ax false,ax false,ax false,aB 0],ao 20]) ([aw c0,tF,aw c1,tT,tF,aW,aw c2,.dP (decide (0≤ab∧ab<(↑(16:Nat):Int))) true (by (simp only [cY] at*;omega)),.get _ _ _ (@mQ q0 q1 q2 q3 q4 q5 q6 q7 q8 q9 da dj dq dp dn dh ab ([ax fk,ax fc,ax fz,ax fs,ax fo,aB (YO.u64.wrap (RQ+YO.u64.wrap (eY 24 w ab ae aa af aq cc))),aj 24,aj w,aj ab,aj ae,aj aa,ao af,ao aq,aj cc,aB ld]) d0 d1),aw c3]++Xg 9 (tC (eF (cP 0 true (eq_of_beq hd))))++ [tC (cP 0 true (eq_of_beq hd)),tT,tT])).to (by first|((simp only [aI,fS];repeat' (first|rfl|exact X7|apply Xw));done)|(simp [aI,u64,];done))
theorem yU (q0 q1 q2 q3 q4 q5 q6 q7 q8 q9 da dj dq dp dn dh RQ:Int) (fk fc fz fs fo:Bool) (w ab ae aa af aq cc ld:Int) (d0:0≤ab) (d1:ab≤15) (s0:0≤ae) (s1:ae≤15) (b0:0≤aa) (b1:aa≤15) (hm:a8 24 w ab ae aa af aq cc=true) (hd:(bo (rg [q0,q1,q2,q3,q4,q5,q6,q7,q8,q9,da,dj,dq,dp,dn,dh] ab) w==0)=false) (hz:(bo q2 w==0)=false):aY Xh 83 ([.agg [aB q0,aB q1,aB q2,aB q3,aB q4,aB q5,aB q6,aB q7,aB q8,aB q9,aB da,aB dj,aB dq,aB dp,aB dn,aB dh,ax fk,ax fc,ax fz,ax fs,ax fo,aB (RQ)],xD 24 w ab ae aa af aq cc,aB ld]) (.aQ [.agg [aB (0),aB (0),aB (0),aB (0),aB (0),aB (0),aB (0),aB (0),aB (0),aB (0),aB (0),aB (0),aB (0),aB (0),aB (0),aB (0),ax false,ax false,ax false,ax false,ax false,aB (0)],ao 20]):=by
 have c0:= @bm 24 w ab ae aa af aq cc (by decide)
 rw [show (a8 24 w ab ae aa af aq cc)=true from hm] at c0
 have c1:= @dc 24 w ab ae aa af aq cc (by decide)
 have c2:= @cL q0 w
 have c3:= @cL (rg [q0,q1,q2,q3,q4,q5,q6,q7,q8,q9,da,dj,dq,dp,dn,dh] ab) w
 have c4:= @cL q2 w
 exact (lu (d:= .aQ [.agg [aB 0,aB 0,aB 0,aB 0,aB 0,aB 0,aB 0,aB 0,aB 0,aB 0,aB 0,aB 0,aB 0,aB 0,aB 0,aB 0,ax false,ax false,ax false,ax false,ax false,aB 0],ao 20]) ([aw c0,tF,aw c1,tT,tF,aW,aw c2,.dP (decide (0≤ab∧ab<(↑(16:Nat):Int))) true (by (simp only [cY] at*;omega)),.get _ _ _ (@mQ q0 q1 q2 q3 q4 q5 q6 q7 q8 q9 da dj dq dp dn dh ab ([ax fk,ax fc,ax fz,ax fs,ax fo,aB (YO.u64.wrap (RQ+YO.u64.wrap (eY 24 w ab ae aa af aq cc))),aj 24,aj w,aj ab,aj ae,aj aa,ao af,ao aq,aj cc,aB ld]) d0 d1),aw c3]++Xg 8 (tC (eF hd))++ [aw c4,tC (eF hd),tC hd,tC (nt hz),tT])).to (by first|((simp only [aI,fS];repeat' (first|rfl|exact X7|apply Xw));done)|(simp [aI,u64,];done))
theorem AU (q0 q1 q2 q3 q4 q5 q6 q7 q8 q9 da dj dq dp dn dh RQ:Int) (fc fz fs fo:Bool) (w ab ae aa af aq cc ld:Int) (d0:0≤ab) (d1:ab≤15) (s0:0≤ae) (s1:ae≤15) (b0:0≤aa) (b1:aa≤15) (hm:a8 25 w ab ae aa af aq cc=true) (Rp:bB cc=true):aY Xh 83 ([.agg [aB q0,aB q1,aB q2,aB q3,aB q4,aB q5,aB q6,aB q7,aB q8,aB q9,aB da,aB dj,aB dq,aB dp,aB dn,aB dh,ax true,ax fc,ax fz,ax fs,ax fo,aB (RQ)],xD 25 w ab ae aa af aq cc,aB ld]) (.aQ [.agg [aB (st 0 ab (bo (if eR cc fc fz fs fo then rg [q0,q1,q2,q3,q4,q5,q6,q7,q8,q9,da,dj,dq,dp,dn,dh] ae else rg [q0,q1,q2,q3,q4,q5,q6,q7,q8,q9,da,dj,dq,dp,dn,dh] ab) w) q0),aB (st 1 ab (bo (if eR cc fc fz fs fo then rg [q0,q1,q2,q3,q4,q5,q6,q7,q8,q9,da,dj,dq,dp,dn,dh] ae else rg [q0,q1,q2,q3,q4,q5,q6,q7,q8,q9,da,dj,dq,dp,dn,dh] ab) w) q1),aB (st 2 ab (bo (if eR cc fc fz fs fo then rg [q0,q1,q2,q3,q4,q5,q6,q7,q8,q9,da,dj,dq,dp,dn,dh] ae else rg [q0,q1,q2,q3,q4,q5,q6,q7,q8,q9,da,dj,dq,dp,dn,dh] ab) w) q2),aB (st 3 ab (bo (if eR cc fc fz fs fo then rg [q0,q1,q2,q3,q4,q5,q6,q7,q8,q9,da,dj,dq,dp,dn,dh] ae else rg [q0,q1,q2,q3,q4,q5,q6,q7,q8,q9,da,dj,dq,dp,dn,dh] ab) w) q3),aB (st 4 ab (bo (if eR cc fc fz fs fo then rg [q0,q1,q2,q3,q4,q5,q6,q7,q8,q9,da,dj,dq,dp,dn,dh] ae else rg [q0,q1,q2,q3,q4,q5,q6,q7,q8,q9,da,dj,dq,dp,dn,dh] ab) w) q4),aB (st 5 ab (bo (if eR cc fc fz fs fo then rg [q0,q1,q2,q3,q4,q5,q6,q7,q8,q9,da,dj,dq,dp,dn,dh] ae else rg [q0,q1,q2,q3,q4,q5,q6,q7,q8,q9,da,dj,dq,dp,dn,dh] ab) w) q5),aB (st 6 ab (bo (if eR cc fc fz fs fo then rg [q0,q1,q2,q3,q4,q5,q6,q7,q8,q9,da,dj,dq,dp,dn,dh] ae else rg [q0,q1,q2,q3,q4,q5,q6,q7,q8,q9,da,dj,dq,dp,dn,dh] ab) w) q6),aB (st 7 ab (bo (if eR cc fc fz fs fo then rg [q0,q1,q2,q3,q4,q5,q6,q7,q8,q9,da,dj,dq,dp,dn,dh] ae else rg [q0,q1,q2,q3,q4,q5,q6,q7,q8,q9,da,dj,dq,dp,dn,dh] ab) w) q7),aB (st 8 ab (bo (if eR cc fc fz fs fo then rg [q0,q1,q2,q3,q4,q5,q6,q7,q8,q9,da,dj,dq,dp,dn,dh] ae else rg [q0,q1,q2,q3,q4,q5,q6,q7,q8,q9,da,dj,dq,dp,dn,dh] ab) w) q8),aB (st 9 ab (bo (if eR cc fc fz fs fo then rg [q0,q1,q2,q3,q4,q5,q6,q7,q8,q9,da,dj,dq,dp,dn,dh] ae else rg [q0,q1,q2,q3,q4,q5,q6,q7,q8,q9,da,dj,dq,dp,dn,dh] ab) w) q9),aB (st 10 ab (bo (if eR cc fc fz fs fo then rg [q0,q1,q2,q3,q4,q5,q6,q7,q8,q9,da,dj,dq,dp,dn,dh] ae else rg [q0,q1,q2,q3,q4,q5,q6,q7,q8,q9,da,dj,dq,dp,dn,dh] ab) w) da),aB (st 11 ab (bo (if eR cc fc fz fs fo then rg [q0,q1,q2,q3,q4,q5,q6,q7,q8,q9,da,dj,dq,dp,dn,dh] ae else rg [q0,q1,q2,q3,q4,q5,q6,q7,q8,q9,da,dj,dq,dp,dn,dh] ab) w) dj),aB (st 12 ab (bo (if eR cc fc fz fs fo then rg [q0,q1,q2,q3,q4,q5,q6,q7,q8,q9,da,dj,dq,dp,dn,dh] ae else rg [q0,q1,q2,q3,q4,q5,q6,q7,q8,q9,da,dj,dq,dp,dn,dh] ab) w) dq),aB (st 13 ab (bo (if eR cc fc fz fs fo then rg [q0,q1,q2,q3,q4,q5,q6,q7,q8,q9,da,dj,dq,dp,dn,dh] ae else rg [q0,q1,q2,q3,q4,q5,q6,q7,q8,q9,da,dj,dq,dp,dn,dh] ab) w) dp),aB (st 14 ab (bo (if eR cc fc fz fs fo then rg [q0,q1,q2,q3,q4,q5,q6,q7,q8,q9,da,dj,dq,dp,dn,dh] ae else rg [q0,q1,q2,q3,q4,q5,q6,q7,q8,q9,da,dj,dq,dp,dn,dh] ab) w) dn),aB (st 15 ab (bo (if eR cc fc fz fs fo then rg [q0,q1,q2,q3,q4,q5,q6,q7,q8,q9,da,dj,dq,dp,dn,dh] ae else rg [q0,q1,q2,q3,q4,q5,q6,q7,q8,q9,da,dj,dq,dp,dn,dh] ab) w) dh),ax true,ax fc,ax fz,ax fs,ax fo,aB (u64 (RQ+u64 (eY 25 w ab ae aa af aq cc)))],ao 0]):=by
 have c0:= @bm 25 w ab ae aa af aq cc (by decide)
 rw [show (a8 25 w ab ae aa af aq cc)=true from hm] at c0
 have c1:= @dc 25 w ab ae aa af aq cc (by decide)
 have c2:= @pM cc fc fz fs fo Rp
 let E1:EL:= [aw c0,tF,aw c1,tT,tF,aW,aW,aw c2,tF]
 rcases cQ (eR cc fc fz fs fo) with h3|h3
 ·have c4:= @cL (rg [q0,q1,q2,q3,q4,q5,q6,q7,q8,q9,da,dj,dq,dp,dn,dh] ae) w
  exact (lu (d:= .aQ [.agg [aB (st 0 ab (bo (rg [q0,q1,q2,q3,q4,q5,q6,q7,q8,q9,da,dj,dq,dp,dn,dh] ae) w) q0),aB (st 1 ab (bo (rg [q0,q1,q2,q3,q4,q5,q6,q7,q8,q9,da,dj,dq,dp,dn,dh] ae) w) q1),aB (st 2 ab (bo (rg [q0,q1,q2,q3,q4,q5,q6,q7,q8,q9,da,dj,dq,dp,dn,dh] ae) w) q2),aB (st 3 ab (bo (rg [q0,q1,q2,q3,q4,q5,q6,q7,q8,q9,da,dj,dq,dp,dn,dh] ae) w) q3),aB (st 4 ab (bo (rg [q0,q1,q2,q3,q4,q5,q6,q7,q8,q9,da,dj,dq,dp,dn,dh] ae) w) q4),aB (st 5 ab (bo (rg [q0,q1,q2,q3,q4,q5,q6,q7,q8,q9,da,dj,dq,dp,dn,dh] ae) w) q5),aB (st 6 ab (bo (rg [q0,q1,q2,q3,q4,q5,q6,q7,q8,q9,da,dj,dq,dp,dn,dh] ae) w) q6),aB (st 7 ab (bo (rg [q0,q1,q2,q3,q4,q5,q6,q7,q8,q9,da,dj,dq,dp,dn,dh] ae) w) q7),aB (st 8 ab (bo (rg [q0,q1,q2,q3,q4,q5,q6,q7,q8,q9,da,dj,dq,dp,dn,dh] ae) w) q8),aB (st 9 ab (bo (rg [q0,q1,q2,q3,q4,q5,q6,q7,q8,q9,da,dj,dq,dp,dn,dh] ae) w) q9),aB (st 10 ab (bo (rg [q0,q1,q2,q3,q4,q5,q6,q7,q8,q9,da,dj,dq,dp,dn,dh] ae) w) da),aB (st 11 ab (bo (rg [q0,q1,q2,q3,q4,q5,q6,q7,q8,q9,da,dj,dq,dp,dn,dh] ae) w) dj),aB (st 12 ab (bo (rg [q0,q1,q2,q3,q4,q5,q6,q7,q8,q9,da,dj,dq,dp,dn,dh] ae) w) dq),aB (st 13 ab (bo (rg [q0,q1,q2,q3,q4,q5,q6,q7,q8,q9,da,dj,dq,dp,dn,dh] ae) w) dp),aB (st 14 ab (bo (rg [q0,q1,q2,q3,q4,q5,q6,q7,q8,q9,da,dj,dq,dp,dn,dh] ae) w) dn),aB (st 15 ab (bo (rg [q0,q1,q2,q3,q4,q5,q6,q7,q8,q9,da,dj,dq,dp,dn,dh] ae) w) dh),ax true,ax fc,ax fz,ax fs,ax fo,aB (YO.u64.wrap (RQ+YO.u64.wrap (eY 25 w ab ae aa af aq cc)))],ao 0]) (E1++ [tC h3,aW,.dP (decide (0≤ae∧ae<(↑(16:Nat):Int))) true (by (simp only [cY] at*;omega)),.get _ _ _ (@mQ q0 q1 q2 q3 q4 q5 q6 q7 q8 q9 da dj dq dp dn dh ae ([ax true,ax fc,ax fz,ax fs,ax fo,aB (YO.u64.wrap (RQ+YO.u64.wrap (eY 25 w ab ae aa af aq cc))),aj 25,aj w,aj ab,aj ae,aj aa,ao af,ao aq,aj cc,aB ld]) s0 s1),aW,aw c4,.dP (decide (0≤ab∧ab<(↑(16:Nat):Int))) true (by (simp only [cY] at*;omega)),.dA _ _ _ _ (@vU q0 q1 q2 q3 q4 q5 q6 q7 q8 q9 da dj dq dp dn dh ab (bo (rg [q0,q1,q2,q3,q4,q5,q6,q7,q8,q9,da,dj,dq,dp,dn,dh] ae) w) ([ax true,ax fc,ax fz,ax fs,ax fo,aB (YO.u64.wrap (RQ+YO.u64.wrap (eY 25 w ab ae aa af aq cc))),aj 25,aj w,aj ab,aj ae,aj aa,ao af,ao aq,aj cc,aB ld]) d0 d1),tF])).to (by clear E1;first|((simp only [aI,fS];repeat' (first|rfl|exact X7|apply Xw));done)|(simp [aI,u64,h3];done))
 have c5:= @cL (rg [q0,q1,q2,q3,q4,q5,q6,q7,q8,q9,da,dj,dq,dp,dn,dh] ab) w
 exact (lu (d:= .aQ [.agg [aB (st 0 ab (bo (rg [q0,q1,q2,q3,q4,q5,q6,q7,q8,q9,da,dj,dq,dp,dn,dh] ab) w) q0),aB (st 1 ab (bo (rg [q0,q1,q2,q3,q4,q5,q6,q7,q8,q9,da,dj,dq,dp,dn,dh] ab) w) q1),aB (st 2 ab (bo (rg [q0,q1,q2,q3,q4,q5,q6,q7,q8,q9,da,dj,dq,dp,dn,dh] ab) w) q2),aB (st 3 ab (bo (rg [q0,q1,q2,q3,q4,q5,q6,q7,q8,q9,da,dj,dq,dp,dn,dh] ab) w) q3),aB (st 4 ab (bo (rg [q0,q1,q2,q3,q4,q5,q6,q7,q8,q9,da,dj,dq,dp,dn,dh] ab) w) q4),aB (st 5 ab (bo (rg [q0,q1,q2,q3,q4,q5,q6,q7,q8,q9,da,dj,dq,dp,dn,dh] ab) w) q5),aB (st 6 ab (bo (rg [q0,q1,q2,q3,q4,q5,q6,q7,q8,q9,da,dj,dq,dp,dn,dh] ab) w) q6),aB (st 7 ab (bo (rg [q0,q1,q2,q3,q4,q5,q6,q7,q8,q9,da,dj,dq,dp,dn,dh] ab) w) q7),aB (st 8 ab (bo (rg [q0,q1,q2,q3,q4,q5,q6,q7,q8,q9,da,dj,dq,dp,dn,dh] ab) w) q8),aB (st 9 ab (bo (rg [q0,q1,q2,q3,q4,q5,q6,q7,q8,q9,da,dj,dq,dp,dn,dh] ab) w) q9),aB (st 10 ab (bo (rg [q0,q1,q2,q3,q4,q5,q6,q7,q8,q9,da,dj,dq,dp,dn,dh] ab) w) da),aB (st 11 ab (bo (rg [q0,q1,q2,q3,q4,q5,q6,q7,q8,q9,da,dj,dq,dp,dn,dh] ab) w) dj),aB (st 12 ab (bo (rg [q0,q1,q2,q3,q4,q5,q6,q7,q8,q9,da,dj,dq,dp,dn,dh] ab) w) dq),aB (st 13 ab (bo (rg [q0,q1,q2,q3,q4,q5,q6,q7,q8,q9,da,dj,dq,dp,dn,dh] ab) w) dp),aB (st 14 ab (bo (rg [q0,q1,q2,q3,q4,q5,q6,q7,q8,q9,da,dj,dq,dp,dn,dh] ab) w) dn),aB (st 15 ab (bo (rg [q0,q1,q2,q3,q4,q5,q6,q7,q8,q9,da,dj,dq,dp,dn,dh] ab) w) dh),ax true,ax fc,ax fz,ax fs,ax fo,aB (YO.u64.wrap (RQ+YO.u64.wrap (eY 25 w ab ae aa af aq cc)))],ao 0]) (E1++ [tC h3,.dP (decide (0≤ab∧ab<(↑(16:Nat):Int))) true (by (simp only [cY] at*;omega)),.get _ _ _ (@mQ q0 q1 q2 q3 q4 q5 q6 q7 q8 q9 da dj dq dp dn dh ab ([ax true,ax fc,ax fz,ax fs,ax fo,aB (YO.u64.wrap (RQ+YO.u64.wrap (eY 25 w ab ae aa af aq cc))),aj 25,aj w,aj ab,aj ae,aj aa,ao af,ao aq,aj cc,aB ld]) d0 d1),aW,aw c5,.dP (decide (0≤ab∧ab<(↑(16:Nat):Int))) true (by (simp only [cY] at*;omega)),.dA _ _ _ _ (@vU q0 q1 q2 q3 q4 q5 q6 q7 q8 q9 da dj dq dp dn dh ab (bo (rg [q0,q1,q2,q3,q4,q5,q6,q7,q8,q9,da,dj,dq,dp,dn,dh] ab) w) ([ax true,ax fc,ax fz,ax fs,ax fo,aB (YO.u64.wrap (RQ+YO.u64.wrap (eY 25 w ab ae aa af aq cc))),aj 25,aj w,aj ab,aj ae,aj aa,ao af,ao aq,aj cc,aB ld]) d0 d1),tF])).to (by clear E1;first|((simp only [aI,fS];repeat' (first|rfl|exact X7|apply Xw));done)|(simp [aI,u64,h3];done))
theorem yT (q0 q1 q2 q3 q4 q5 q6 q7 q8 q9 da dj dq dp dn dh RQ:Int) (fc fz fs fo:Bool) (w ab ae aa af aq cc ld:Int) (d0:0≤ab) (d1:ab≤15) (s0:0≤ae) (s1:ae≤15) (b0:0≤aa) (b1:aa≤15) (hm:a8 25 w ab ae aa af aq cc=true) (Rp:bB cc=true):aY Xh 83 ([.agg [aB q0,aB q1,aB q2,aB q3,aB q4,aB q5,aB q6,aB q7,aB q8,aB q9,aB da,aB dj,aB dq,aB dp,aB dn,aB dh,ax false,ax fc,ax fz,ax fs,ax fo,aB (RQ)],xD 25 w ab ae aa af aq cc,aB ld]) (.aQ [.agg [aB (0),aB (0),aB (0),aB (0),aB (0),aB (0),aB (0),aB (0),aB (0),aB (0),aB (0),aB (0),aB (0),aB (0),aB (0),aB (0),ax false,ax false,ax false,ax false,ax false,aB (0)],ao 20]):=by
 have c0:= @bm 25 w ab ae aa af aq cc (by decide)
 rw [show (a8 25 w ab ae aa af aq cc)=true from hm] at c0
 have c1:= @dc 25 w ab ae aa af aq cc (by decide)
 have c2:= @pN cc fc fz fs fo Rp
 exact (lu (d:= .aQ [.agg [aB 0,aB 0,aB 0,aB 0,aB 0,aB 0,aB 0,aB 0,aB 0,aB 0,aB 0,aB 0,aB 0,aB 0,aB 0,aB 0,ax false,ax false,ax false,ax false,ax false,aB 0],ao 20]) [aw c0,tF,aw c1,tT,tF,aW,aW,aw c2,tT,tT]).to (by first|((simp only [aI,fS];repeat' (first|rfl|exact X7|apply Xw));done)|(simp [aI,u64,];done))
theorem AO (q0 q1 q2 q3 q4 q5 q6 q7 q8 q9 da dj dq dp dn dh RQ:Int) (fc fz fs fo:Bool) (w ab ae aa af aq cc ld:Int) (d0:0≤ab) (d1:ab≤15) (s0:0≤ae) (s1:ae≤15) (b0:0≤aa) (b1:aa≤15) (hm:a8 29 w ab ae aa af aq cc=true) (Rp:bB cc=true):aY Xh 83 ([.agg [aB q0,aB q1,aB q2,aB q3,aB q4,aB q5,aB q6,aB q7,aB q8,aB q9,aB da,aB dj,aB dq,aB dp,aB dn,aB dh,ax true,ax fc,ax fz,ax fs,ax fo,aB (RQ)],xD 29 w ab ae aa af aq cc,aB ld]) (.aQ [.agg [aB q0,aB q1,aB q2,aB q3,aB q4,aB q5,aB q6,aB q7,aB q8,aB q9,aB da,aB dj,aB dq,aB dp,aB dn,aB dh,ax true,ax fc,ax fz,ax fs,ax fo,aB (if eR cc fc fz fs fo then u64 (u64 (RQ+u64 (eY 29 w ab ae aa af aq cc))+u64 aq) else u64 (RQ+u64 (eY 29 w ab ae aa af aq cc)))],ao 0]):=by
 have c0:= @bm 29 w ab ae aa af aq cc (by decide)
 rw [show (a8 29 w ab ae aa af aq cc)=true from hm] at c0
 have c1:= @dc 29 w ab ae aa af aq cc (by decide)
 have c2:= @pM cc fc fz fs fo Rp
 let E1:EL:= [aw c0,tF,aw c1,tT,tF,aW,aW,aw c2,tF]
 rcases cQ (eR cc fc fz fs fo) with h3|h3
 ·exact (lu (d:= .aQ [.agg [aB q0,aB q1,aB q2,aB q3,aB q4,aB q5,aB q6,aB q7,aB q8,aB q9,aB da,aB dj,aB dq,aB dp,aB dn,aB dh,ax true,ax fc,ax fz,ax fs,ax fo,aB (YO.u64.wrap (YO.u64.wrap (RQ+YO.u64.wrap (eY 29 w ab ae aa af aq cc))+YO.u64.wrap aq))],ao 0]) (E1++ [tC h3,aW,tF])).to (by clear E1;first|((simp only [aI,fS];repeat' (first|rfl|exact X7|apply Xw));done)|(simp [aI,u64,h3];done))
 exact (lu (d:= .aQ [.agg [aB q0,aB q1,aB q2,aB q3,aB q4,aB q5,aB q6,aB q7,aB q8,aB q9,aB da,aB dj,aB dq,aB dp,aB dn,aB dh,ax true,ax fc,ax fz,ax fs,ax fo,aB (YO.u64.wrap (RQ+YO.u64.wrap (eY 29 w ab ae aa af aq cc)))],ao 0]) (E1++ [tC h3,tF])).to (by clear E1;first|((simp only [aI,fS];repeat' (first|rfl|exact X7|apply Xw));done)|(simp [aI,u64,h3];done))
theorem yR (q0 q1 q2 q3 q4 q5 q6 q7 q8 q9 da dj dq dp dn dh RQ:Int) (fc fz fs fo:Bool) (w ab ae aa af aq cc ld:Int) (d0:0≤ab) (d1:ab≤15) (s0:0≤ae) (s1:ae≤15) (b0:0≤aa) (b1:aa≤15) (hm:a8 29 w ab ae aa af aq cc=true) (Rp:bB cc=true):aY Xh 83 ([.agg [aB q0,aB q1,aB q2,aB q3,aB q4,aB q5,aB q6,aB q7,aB q8,aB q9,aB da,aB dj,aB dq,aB dp,aB dn,aB dh,ax false,ax fc,ax fz,ax fs,ax fo,aB (RQ)],xD 29 w ab ae aa af aq cc,aB ld]) (.aQ [.agg [aB (0),aB (0),aB (0),aB (0),aB (0),aB (0),aB (0),aB (0),aB (0),aB (0),aB (0),aB (0),aB (0),aB (0),aB (0),aB (0),ax false,ax false,ax false,ax false,ax false,aB (0)],ao 20]):=by
 have c0:= @bm 29 w ab ae aa af aq cc (by decide)
 rw [show (a8 29 w ab ae aa af aq cc)=true from hm] at c0
 have c1:= @dc 29 w ab ae aa af aq cc (by decide)
 have c2:= @pN cc fc fz fs fo Rp
 exact (lu (d:= .aQ [.agg [aB 0,aB 0,aB 0,aB 0,aB 0,aB 0,aB 0,aB 0,aB 0,aB 0,aB 0,aB 0,aB 0,aB 0,aB 0,aB 0,ax false,ax false,ax false,ax false,ax false,aB 0],ao 20]) [aw c0,tF,aw c1,tT,tF,aW,aW,aw c2,tT,tT]).to (by first|((simp only [aI,fS];repeat' (first|rfl|exact X7|apply Xw));done)|(simp [aI,u64,];done))
theorem AL (q0 q1 q2 q3 q4 q5 q6 q7 q8 q9 da dj dq dp dn dh RQ:Int) (fk fc fz fs fo:Bool) (op w ab ae aa af aq cc ld:Int)(ho:op≤127) (hm:a8 op w ab ae aa af aq cc=false):aY Xh 83 ([.agg [aB q0,aB q1,aB q2,aB q3,aB q4,aB q5,aB q6,aB q7,aB q8,aB q9,aB da,aB dj,aB dq,aB dp,aB dn,aB dh,ax fk,ax fc,ax fz,ax fs,ax fo,aB (RQ)],xD op w ab ae aa af aq cc,aB ld]) (.aQ [.agg [aB (0),aB (0),aB (0),aB (0),aB (0),aB (0),aB (0),aB (0),aB (0),aB (0),aB (0),aB (0),aB (0),aB (0),aB (0),aB (0),ax false,ax false,ax false,ax false,ax false,aB (0)],ao 2]):=by
 have c0:= @bm op w ab ae aa af aq cc ho
 rw [show (a8 op w ab ae aa af aq cc)=false from hm] at c0
 exact (lu (d:= .aQ [.agg [aB 0,aB 0,aB 0,aB 0,aB 0,aB 0,aB 0,aB 0,aB 0,aB 0,aB 0,aB 0,aB 0,aB 0,aB 0,aB 0,ax false,ax false,ax false,ax false,ax false,aB 0],ao 2]) [aw c0,tT]).to (by first|((simp only [aI,fS];repeat' (first|rfl|exact X7|apply Xw));done)|(simp [aI,u64,];done))
def PJ:List D:= [D.fn (Fn.func 117) [.ptr false 4 0] [],D.fn (Fn.func 118) [.ptr false 4 0] [],D.cm,D.cm,D.cm,D.cm,D.cm,D.cm,D.cm,D.cm,D.cm,D.cm,D.cm,D.cm,D.cm,D.cm,D.cm,D.cm,D.cm,D.cm,D.cm,D.cm,D.cm,D.cm,D.fn (Fn.func 119) [.ptr false 4 0] [],D.fn (Fn.func 120) [.ptr false 4 0] [],D.fn (Fn.func 121) [.ptr false 4 0] [],D.fn (Fn.func 122) [.ptr false 4 0] [],D.fn (Fn.func 123) [.ptr false 4 0] [],D.fn (Fn.func 124) [.ptr false 4 0] [],D.fn (Fn.func 125) [.ptr false 4 0] [],D.fn (Fn.func 126) [.ptr false 4 0] []]
def qE:List (Int×D):= [((2:Int),aj 0),((9:Int),aj 0),((3:Int),aj 4),((10:Int),aj 4),((4:Int),aj 5),((11:Int),aj 5),((8:Int),aj 5),((15:Int),aj 5),((5:Int),aj 1),((12:Int),aj 1),((7:Int),aj 1),((14:Int),aj 1),((6:Int),aj 10),((13:Int),aj 10),((16:Int),aj 2),((17:Int),aj 6),((20:Int),aj 6),((18:Int),aj 7),((21:Int),aj 7),((19:Int),aj 12),((22:Int),aj 12),((23:Int),aj 8)]
def nG (Q3:Int):Prop:= ∀(m:aG) (w ab ae aa af aq cc ld:Int) (d0:0≤ab) (d1:ab≤15) (s0:0≤ae) (s1:ae≤15) (b0:0≤aa) (b1:aa≤15) (hm:a8 Q3 w ab ae aa af aq cc=true) (hw:aE w=true),aY Xh 83 ([m.d,xD Q3 w ab ae aa af aq cc,aB ld]) (.aQ [(lF (m.at (u64 (m.pc+u64 (eY Q3 w ab ae aa af aq cc)))) ⟨Q3,w,ab,ae,aa,af,aq,cc⟩ ld).1.d,ao 0])
theorem FJ:nG 9:=by
 intro m w ab ae aa af aq cc ld d0 d1 s0 s1 b0 b1 hm hw
 have c0:= @bm 9 w ab ae aa af aq cc (by decide)
 rw [hm] at c0
 have c1:= @dc 9 w ab ae aa af aq cc (by decide)
 have c2:= @zh w (rg (aG.rl m) ab) (YO.wrap YO.u64 aq) hw
 have c3:= @CX w (rg (aG.rl m) ab) (YO.wrap YO.u64 aq) hw
 have c4:= @b8 9 w ab ae aa af aq cc (by decide)
 exact (lu (d:= .aQ [(lF (m.at (u64 (m.pc+u64 (eY 9 w ab ae aa af aq cc)))) ⟨9,w,ab,ae,aa,af,aq,cc⟩ ld).1.d,ao 0]) ([aw c0,tF,aw c1,tT,tT,aW,aW,.aV [(4,au (aG.cw m (fC m 9 w ab ae aa af aq cc) (xT 9 w ab ae aa af aq cc ld)))],.jQ qE 9 (some (aj 0)) rfl,.dP _ true (fe d0 d1),.get _ _ _ (@cF m ab ((fT m (fC m 9 w ab ae aa af aq cc) (xT 9 w ab ae aa af aq cc ld))) d0 d1),aW]++Xg 8 tF++Xg 9 tT++ [.aV [(4,au (aG.cw m (fC m 9 w ab ae aa af aq cc) (xT 9 w ab ae aa af aq cc ld)))],aw c2,tF,tT,aw c3,aw c4,tC (nt (@jf 9 w ab ae aa af aq cc hm d0 d1 (rfl:true=true))),.dP _ true (fe d0 d1),.dA _ _ _ _ (@ej m ab (iO 0 w (rg (aG.rl m) ab) (YO.wrap YO.u64 aq)) ([ax true,ax (LF w (rg (aG.rl m) ab) (YO.wrap YO.u64 aq)),ax (bo (u64 (rg (aG.rl m) ab+YO.wrap YO.u64 aq)) w==0),ax (iX (u64 (rg (aG.rl m) ab+YO.wrap YO.u64 aq)) w),ax (LD w (rg (aG.rl m) ab) (YO.wrap YO.u64 aq)),aB (fC m 9 w ab ae aa af aq cc),aj 9,aj w,aj ab,aj ae,aj aa,ao af,ao aq,aj cc,aB ld]) d0 d1),tF]) (by kernel_rfl))
theorem A9:nG 10:=by
 intro m w ab ae aa af aq cc ld d0 d1 s0 s1 b0 b1 hm hw
 have c0:= @bm 10 w ab ae aa af aq cc (by decide)
 rw [hm] at c0
 have c1:= @dc 10 w ab ae aa af aq cc (by decide)
 have c2:= @zg w (rg (aG.rl m) ab) (YO.wrap YO.u64 aq) hw
 have c3:= @kL w (iO 4 w (rg (aG.rl m) ab) (YO.wrap YO.u64 aq)) hw
 have c4:= @b8 10 w ab ae aa af aq cc (by decide)
 exact (lu (d:= .aQ [(lF (m.at (u64 (m.pc+u64 (eY 10 w ab ae aa af aq cc)))) ⟨10,w,ab,ae,aa,af,aq,cc⟩ ld).1.d,ao 0]) ([aw c0,tF,aw c1,tT,tT,aW,aW,.aV [(4,au (aG.cw m (fC m 10 w ab ae aa af aq cc) (xT 10 w ab ae aa af aq cc ld)))],.jQ qE 10 (some (aj 4)) rfl,.dP _ true (fe d0 d1),.get _ _ _ (@cF m ab ((fT m (fC m 10 w ab ae aa af aq cc) (xT 10 w ab ae aa af aq cc ld))) d0 d1),aW]++Xg 8 tF++Xg 9 tT++ [.aV [(4,au (aG.cw m (fC m 10 w ab ae aa af aq cc) (xT 10 w ab ae aa af aq cc ld)))],aw c2,tF,tF,tF,tF,tT,tT,aw c3,aw c4,tC (nt (@jf 10 w ab ae aa af aq cc hm d0 d1 (rfl:true=true))),.dP _ true (fe d0 d1),.dA _ _ _ _ (@ej m ab (iO 4 w (rg (aG.rl m) ab) (YO.wrap YO.u64 aq)) ([ax true,ax false,ax (bo (iO 4 w (rg (aG.rl m) ab) (YO.wrap YO.u64 aq)) w==0),ax (iX (iO 4 w (rg (aG.rl m) ab) (YO.wrap YO.u64 aq)) w),ax false,aB (fC m 10 w ab ae aa af aq cc),aj 10,aj w,aj ab,aj ae,aj aa,ao af,ao aq,aj cc,aB ld]) d0 d1),tF]) (by kernel_rfl))
theorem A8:nG 11:=by
 intro m w ab ae aa af aq cc ld d0 d1 s0 s1 b0 b1 hm hw
 have c0:= @bm 11 w ab ae aa af aq cc (by decide)
 rw [hm] at c0
 have c1:= @dc 11 w ab ae aa af aq cc (by decide)
 have c2:= @oE w (rg (aG.rl m) ab) (YO.wrap YO.u64 aq) hw
 have c3:= @kL w (iO 5 w (rg (aG.rl m) ab) (YO.wrap YO.u64 aq)) hw
 have c4:= @b8 11 w ab ae aa af aq cc (by decide)
 exact (lu (d:= .aQ [(lF (m.at (u64 (m.pc+u64 (eY 11 w ab ae aa af aq cc)))) ⟨11,w,ab,ae,aa,af,aq,cc⟩ ld).1.d,ao 0]) ([aw c0,tF,aw c1,tT,tT,aW,aW,.aV [(4,au (aG.cw m (fC m 11 w ab ae aa af aq cc) (xT 11 w ab ae aa af aq cc ld)))],.jQ qE 11 (some (aj 5)) rfl,.dP _ true (fe d0 d1),.get _ _ _ (@cF m ab ((fT m (fC m 11 w ab ae aa af aq cc) (xT 11 w ab ae aa af aq cc ld))) d0 d1),aW]++Xg 8 tF++Xg 9 tT++ [.aV [(4,au (aG.cw m (fC m 11 w ab ae aa af aq cc) (xT 11 w ab ae aa af aq cc ld)))],aw c2,tF,tF,tF,tF,tF,tT,tT,aw c3,aw c4,tC (nt (@jf 11 w ab ae aa af aq cc hm d0 d1 (rfl:true=true))),.dP _ true (fe d0 d1),.dA _ _ _ _ (@ej m ab (iO 5 w (rg (aG.rl m) ab) (YO.wrap YO.u64 aq)) ([ax true,ax false,ax (bo (iO 5 w (rg (aG.rl m) ab) (YO.wrap YO.u64 aq)) w==0),ax (iX (iO 5 w (rg (aG.rl m) ab) (YO.wrap YO.u64 aq)) w),ax false,aB (fC m 11 w ab ae aa af aq cc),aj 11,aj w,aj ab,aj ae,aj aa,ao af,ao aq,aj cc,aB ld]) d0 d1),tF]) (by kernel_rfl))
theorem A6:nG 13:=by
 intro m w ab ae aa af aq cc ld d0 d1 s0 s1 b0 b1 hm hw
 have c0:= @bm 13 w ab ae aa af aq cc (by decide)
 rw [hm] at c0
 have c1:= @dc 13 w ab ae aa af aq cc (by decide)
 have c2:= @uo w (rg (aG.rl m) ab) (YO.wrap YO.u64 aq) hw
 have c3:= @kL w (iO 10 w (rg (aG.rl m) ab) (YO.wrap YO.u64 aq)) hw
 have c4:= @b8 13 w ab ae aa af aq cc (by decide)
 exact (lu (d:= .aQ [(lF (m.at (u64 (m.pc+u64 (eY 13 w ab ae aa af aq cc)))) ⟨13,w,ab,ae,aa,af,aq,cc⟩ ld).1.d,ao 0]) ([aw c0,tF,aw c1,tT,tT,aW,aW,.aV [(4,au (aG.cw m (fC m 13 w ab ae aa af aq cc) (xT 13 w ab ae aa af aq cc ld)))],.jQ qE 13 (some (aj 10)) rfl,.dP _ true (fe d0 d1),.get _ _ _ (@cF m ab ((fT m (fC m 13 w ab ae aa af aq cc) (xT 13 w ab ae aa af aq cc ld))) d0 d1),aW]++Xg 8 tF++Xg 9 tT++ [.aV [(4,au (aG.cw m (fC m 13 w ab ae aa af aq cc) (xT 13 w ab ae aa af aq cc ld)))],aw c2,tF,tF,tF,tF,tF,tF,tT,aw c3,aw c4,tC (nt (@jf 13 w ab ae aa af aq cc hm d0 d1 (rfl:true=true))),.dP _ true (fe d0 d1),.dA _ _ _ _ (@ej m ab (iO 10 w (rg (aG.rl m) ab) (YO.wrap YO.u64 aq)) ([ax true,ax false,ax (bo (iO 10 w (rg (aG.rl m) ab) (YO.wrap YO.u64 aq)) w==0),ax (iX (iO 10 w (rg (aG.rl m) ab) (YO.wrap YO.u64 aq)) w),ax false,aB (fC m 13 w ab ae aa af aq cc),aj 13,aj w,aj ab,aj ae,aj aa,ao af,ao aq,aj cc,aB ld]) d0 d1),tF]) (by kernel_rfl))
theorem A5:nG 14:=by
 intro m w ab ae aa af aq cc ld d0 d1 s0 s1 b0 b1 hm hw
 have c0:= @bm 14 w ab ae aa af aq cc (by decide)
 rw [hm] at c0
 have c1:= @dc 14 w ab ae aa af aq cc (by decide)
 have c2:= @oG w (rg (aG.rl m) ab) (YO.wrap YO.u64 aq) hw
 have c3:= @ou w (rg (aG.rl m) ab) (YO.wrap YO.u64 aq) hw
 have c4:= @b8 14 w ab ae aa af aq cc (by decide)
 exact (lu (d:= .aQ [(lF (m.at (u64 (m.pc+u64 (eY 14 w ab ae aa af aq cc)))) ⟨14,w,ab,ae,aa,af,aq,cc⟩ ld).1.d,ao 0]) ([aw c0,tF,aw c1,tT,tT,aW,aW,.aV [(4,au (aG.cw m (fC m 14 w ab ae aa af aq cc) (xT 14 w ab ae aa af aq cc ld)))],.jQ qE 14 (some (aj 1)) rfl,.dP _ true (fe d0 d1),.get _ _ _ (@cF m ab ((fT m (fC m 14 w ab ae aa af aq cc) (xT 14 w ab ae aa af aq cc ld))) d0 d1),aW]++Xg 8 tF++Xg 9 tT++ [.aV [(4,au (aG.cw m (fC m 14 w ab ae aa af aq cc) (xT 14 w ab ae aa af aq cc ld)))],aw c2,tF,tF,tT,aw c3,aw c4,tC (nt (cP 0 true (eq_of_beq (@JX 14 w ab ae aa af aq cc (rfl:false=false))))),tF]) (by kernel_rfl))
theorem A4:nG 15:=by
 intro m w ab ae aa af aq cc ld d0 d1 s0 s1 b0 b1 hm hw
 have c0:= @bm 15 w ab ae aa af aq cc (by decide)
 rw [hm] at c0
 have c1:= @dc 15 w ab ae aa af aq cc (by decide)
 have c2:= @oE w (rg (aG.rl m) ab) (YO.wrap YO.u64 aq) hw
 have c3:= @kL w (iO 5 w (rg (aG.rl m) ab) (YO.wrap YO.u64 aq)) hw
 have c4:= @b8 15 w ab ae aa af aq cc (by decide)
 exact (lu (d:= .aQ [(lF (m.at (u64 (m.pc+u64 (eY 15 w ab ae aa af aq cc)))) ⟨15,w,ab,ae,aa,af,aq,cc⟩ ld).1.d,ao 0]) ([aw c0,tF,aw c1,tT,tT,aW,aW,.aV [(4,au (aG.cw m (fC m 15 w ab ae aa af aq cc) (xT 15 w ab ae aa af aq cc ld)))],.jQ qE 15 (some (aj 5)) rfl,.dP _ true (fe d0 d1),.get _ _ _ (@cF m ab ((fT m (fC m 15 w ab ae aa af aq cc) (xT 15 w ab ae aa af aq cc ld))) d0 d1),aW]++Xg 8 tF++Xg 9 tT++ [.aV [(4,au (aG.cw m (fC m 15 w ab ae aa af aq cc) (xT 15 w ab ae aa af aq cc ld)))],aw c2,tF,tF,tF,tF,tF,tT,tT,aw c3,aw c4,tC (nt (cP 0 true (eq_of_beq (@JX 15 w ab ae aa af aq cc (rfl:false=false))))),tF]) (by kernel_rfl))
theorem A3:nG 16:=by
 intro m w ab ae aa af aq cc ld d0 d1 s0 s1 b0 b1 hm hw
 have c0:= @bm 16 w ab ae aa af aq cc (by decide)
 rw [hm] at c0
 have c1:= @dc 16 w ab ae aa af aq cc (by decide)
 have c2:= @JA w (rg (aG.rl m) ab) (rg (aG.rl m) ae) hw
 have c3:= @dv
 have c4:= @b8 16 w ab ae aa af aq cc (by decide)
 exact (lu (d:= .aQ [(lF (m.at (u64 (m.pc+u64 (eY 16 w ab ae aa af aq cc)))) ⟨16,w,ab,ae,aa,af,aq,cc⟩ ld).1.d,ao 0]) ([aw c0,tF,aw c1,tT,tT,aW,aW,.aV [(4,au (aG.cw m (fC m 16 w ab ae aa af aq cc) (xT 16 w ab ae aa af aq cc ld)))],.jQ qE 16 (some (aj 2)) rfl,.dP _ true (fe d0 d1),.get _ _ _ (@cF m ab ((fT m (fC m 16 w ab ae aa af aq cc) (xT 16 w ab ae aa af aq cc ld))) d0 d1),aW]++Xg 8 tF++ [tT,tT,tT,tT,tT,tT,tT]++Xg 9 tF++ [.dP _ true (fe s0 s1),.get _ _ _ (@cF m ae ((fT m (fC m 16 w ab ae aa af aq cc) (xT 16 w ab ae aa af aq cc ld))) s0 s1),.aV [(4,au (aG.cw m (fC m 16 w ab ae aa af aq cc) (xT 16 w ab ae aa af aq cc ld)))],aw c2,tF,tF,tF,tF,tF,tF,tF,aw c3,aw c4,tC (nt (@jf 16 w ab ae aa af aq cc hm d0 d1 (rfl:true=true))),.dP _ true (fe d0 d1),.dA _ _ _ _ (@ej m ab (iO 2 w (rg (aG.rl m) ab) (rg (aG.rl m) ae)) ([ax false,ax false,ax false,ax false,ax false,aB (fC m 16 w ab ae aa af aq cc),aj 16,aj w,aj ab,aj ae,aj aa,ao af,ao aq,aj cc,aB ld]) d0 d1),tF]) (by kernel_rfl))
theorem FI (m:aG) (x:XS) (ld:Int) (ho:x.op≤127):aY Xh 83 [m.d,x.d,aB ld] (.aQ [(hH m x ld).1.d,ao (hH m x ld).2]):=by
 cases hm:x.may
 ·rw [Jg hm]
  obtain ⟨q0,q1,q2,q3,q4,q5,q6,q7,q8,q9,da,dj,dq,dp,dn,dh,fk,fc,fz,fs,fo,pc⟩:=m
  obtain ⟨op,w,ab,ae,aa,af,aq,cc⟩:=x
  exact AL q0 q1 q2 q3 q4 q5 q6 q7 q8 q9 da dj dq dp dn dh pc fk fc fz fs fo op w ab ae aa af aq cc ld ho hm
 ·rw [ud hm]
  obtain ⟨q0,q1,q2,q3,q4,q5,q6,q7,q8,q9,da,dj,dq,dp,dn,dh,fk,fc,fz,fs,fo,pc⟩:=m
  obtain ⟨op,w,ab,ae,aa,af,aq,cc⟩:=x
  replace hm:a8 op w ab ae aa af aq cc=true:=hm
  have Tf:aF op≠0:=by
   intro e
   have hs:=(ef hm).2
   rw [e] at hs
   simp [br] at hs
  obtain ⟨⟨d0,d1,s0,s1,b0,b1,_⟩,hs⟩:=ef hm
  rcases iG Tf with rfl|rfl|rfl|rfl|rfl|rfl|rfl|rfl|rfl|rfl|rfl|rfl|rfl|rfl|rfl|rfl|rfl|rfl|rfl|rfl|rfl|rfl|rfl|rfl|rfl|rfl|rfl|rfl|rfl|rfl|rfl|rfl
  ·exact FU ⟨q0,q1,q2,q3,q4,q5,q6,q7,q8,q9,da,dj,dq,dp,dn,dh,fk,fc,fz,fs,fo,pc⟩ w ab ae aa af aq cc ld d0 d1 s0 s1 b0 b1 hm
  ·exact FT ⟨q0,q1,q2,q3,q4,q5,q6,q7,q8,q9,da,dj,dq,dp,dn,dh,fk,fc,fz,fs,fo,pc⟩ w ab ae aa af aq cc ld d0 d1 s0 s1 b0 b1 hm
  ·exact FR ⟨q0,q1,q2,q3,q4,q5,q6,q7,q8,q9,da,dj,dq,dp,dn,dh,fk,fc,fz,fs,fo,pc⟩ w ab ae aa af aq cc ld d0 d1 s0 s1 b0 b1 hm (dX hs (by decide))
  ·exact FQ ⟨q0,q1,q2,q3,q4,q5,q6,q7,q8,q9,da,dj,dq,dp,dn,dh,fk,fc,fz,fs,fo,pc⟩ w ab ae aa af aq cc ld d0 d1 s0 s1 b0 b1 hm (dX hs (by decide))
  ·exact FO ⟨q0,q1,q2,q3,q4,q5,q6,q7,q8,q9,da,dj,dq,dp,dn,dh,fk,fc,fz,fs,fo,pc⟩ w ab ae aa af aq cc ld d0 d1 s0 s1 b0 b1 hm (dX hs (by decide))
  ·exact FN ⟨q0,q1,q2,q3,q4,q5,q6,q7,q8,q9,da,dj,dq,dp,dn,dh,fk,fc,fz,fs,fo,pc⟩ w ab ae aa af aq cc ld d0 d1 s0 s1 b0 b1 hm (dX hs (by decide))
  ·exact FM ⟨q0,q1,q2,q3,q4,q5,q6,q7,q8,q9,da,dj,dq,dp,dn,dh,fk,fc,fz,fs,fo,pc⟩ w ab ae aa af aq cc ld d0 d1 s0 s1 b0 b1 hm (dX hs (by decide))
  ·exact FL ⟨q0,q1,q2,q3,q4,q5,q6,q7,q8,q9,da,dj,dq,dp,dn,dh,fk,fc,fz,fs,fo,pc⟩ w ab ae aa af aq cc ld d0 d1 s0 s1 b0 b1 hm (dX hs (by decide))
  ·exact FK ⟨q0,q1,q2,q3,q4,q5,q6,q7,q8,q9,da,dj,dq,dp,dn,dh,fk,fc,fz,fs,fo,pc⟩ w ab ae aa af aq cc ld d0 d1 s0 s1 b0 b1 hm (dX hs (by decide))
  ·exact FJ ⟨q0,q1,q2,q3,q4,q5,q6,q7,q8,q9,da,dj,dq,dp,dn,dh,fk,fc,fz,fs,fo,pc⟩ w ab ae aa af aq cc ld d0 d1 s0 s1 b0 b1 hm (dX hs (by decide))
  ·exact A9 ⟨q0,q1,q2,q3,q4,q5,q6,q7,q8,q9,da,dj,dq,dp,dn,dh,fk,fc,fz,fs,fo,pc⟩ w ab ae aa af aq cc ld d0 d1 s0 s1 b0 b1 hm (dX hs (by decide))
  ·exact A8 ⟨q0,q1,q2,q3,q4,q5,q6,q7,q8,q9,da,dj,dq,dp,dn,dh,fk,fc,fz,fs,fo,pc⟩ w ab ae aa af aq cc ld d0 d1 s0 s1 b0 b1 hm (dX hs (by decide))
  ·exact A7 ⟨q0,q1,q2,q3,q4,q5,q6,q7,q8,q9,da,dj,dq,dp,dn,dh,fk,fc,fz,fs,fo,pc⟩ w ab ae aa af aq cc ld d0 d1 s0 s1 b0 b1 hm (dX hs (by decide))
  ·exact A6 ⟨q0,q1,q2,q3,q4,q5,q6,q7,q8,q9,da,dj,dq,dp,dn,dh,fk,fc,fz,fs,fo,pc⟩ w ab ae aa af aq cc ld d0 d1 s0 s1 b0 b1 hm (dX hs (by decide))
  ·exact A5 ⟨q0,q1,q2,q3,q4,q5,q6,q7,q8,q9,da,dj,dq,dp,dn,dh,fk,fc,fz,fs,fo,pc⟩ w ab ae aa af aq cc ld d0 d1 s0 s1 b0 b1 hm (dX hs (by decide))
  ·exact A4 ⟨q0,q1,q2,q3,q4,q5,q6,q7,q8,q9,da,dj,dq,dp,dn,dh,fk,fc,fz,fs,fo,pc⟩ w ab ae aa af aq cc ld d0 d1 s0 s1 b0 b1 hm (dX hs (by decide))
  ·exact A3 ⟨q0,q1,q2,q3,q4,q5,q6,q7,q8,q9,da,dj,dq,dp,dn,dh,fk,fc,fz,fs,fo,pc⟩ w ab ae aa af aq cc ld d0 d1 s0 s1 b0 b1 hm (dX hs (by decide))
  ·exact A2 ⟨q0,q1,q2,q3,q4,q5,q6,q7,q8,q9,da,dj,dq,dp,dn,dh,fk,fc,fz,fs,fo,pc⟩ w ab ae aa af aq cc ld d0 d1 s0 s1 b0 b1 hm (dX hs (by decide))
  ·exact A1 ⟨q0,q1,q2,q3,q4,q5,q6,q7,q8,q9,da,dj,dq,dp,dn,dh,fk,fc,fz,fs,fo,pc⟩ w ab ae aa af aq cc ld d0 d1 s0 s1 b0 b1 hm (dX hs (by decide))
  ·exact A0 ⟨q0,q1,q2,q3,q4,q5,q6,q7,q8,q9,da,dj,dq,dp,dn,dh,fk,fc,fz,fs,fo,pc⟩ w ab ae aa af aq cc ld d0 d1 s0 s1 b0 b1 hm (dX hs (by decide))
  ·exact AZ ⟨q0,q1,q2,q3,q4,q5,q6,q7,q8,q9,da,dj,dq,dp,dn,dh,fk,fc,fz,fs,fo,pc⟩ w ab ae aa af aq cc ld d0 d1 s0 s1 b0 b1 hm (dX hs (by decide))
  ·exact AY ⟨q0,q1,q2,q3,q4,q5,q6,q7,q8,q9,da,dj,dq,dp,dn,dh,fk,fc,fz,fs,fo,pc⟩ w ab ae aa af aq cc ld d0 d1 s0 s1 b0 b1 hm (dX hs (by decide))
  ·exact AX ⟨q0,q1,q2,q3,q4,q5,q6,q7,q8,q9,da,dj,dq,dp,dn,dh,fk,fc,fz,fs,fo,pc⟩ w ab ae aa af aq cc ld d0 d1 s0 s1 b0 b1 hm (dX hs (by decide))
  ·exact AW ⟨q0,q1,q2,q3,q4,q5,q6,q7,q8,q9,da,dj,dq,dp,dn,dh,fk,fc,fz,fs,fo,pc⟩ w ab ae aa af aq cc ld d0 d1 s0 s1 b0 b1 hm (dX hs (by decide))
  ·cases hd:(bo (rg [q0,q1,q2,q3,q4,q5,q6,q7,q8,q9,da,dj,dq,dp,dn,dh] ab) w==0)
   ·cases hz:(bo q2 w==0)
    ·have e:lF ((⟨q0,q1,q2,q3,q4,q5,q6,q7,q8,q9,da,dj,dq,dp,dn,dh,fk,fc,fz,fs,fo,pc⟩:aG).at (u64 (pc+u64 (XS.len ⟨24,w,ab,ae,aa,af,aq,cc⟩)))) ⟨24,w,ab,ae,aa,af,aq,cc⟩ ld=(.zero,20):=by
      show (match (bo (rg [q0,q1,q2,q3,q4,q5,q6,q7,q8,q9,da,dj,dq,dp,dn,dh] ab) w==0:Bool) with|true=>((aG.zero,20):aG×Int)|false=>match (bo q2 w==0:Bool) with|false=>(.zero,20)|true=>_)=_
      rw [hd,hz]
     rw [e]
     exact yU q0 q1 q2 q3 q4 q5 q6 q7 q8 q9 da dj dq dp dn dh pc fk fc fz fs fo w ab ae aa af aq cc ld d0 d1 s0 s1 b0 b1 hm hd hz
    ·have e:lF ((⟨q0,q1,q2,q3,q4,q5,q6,q7,q8,q9,da,dj,dq,dp,dn,dh,fk,fc,fz,fs,fo,pc⟩:aG).at (u64 (pc+u64 (XS.len ⟨24,w,ab,ae,aa,af,aq,cc⟩)))) ⟨24,w,ab,ae,aa,af,aq,cc⟩ ld=(⟨u64 ((bo q0 w).tdiv (bo (rg [q0,q1,q2,q3,q4,q5,q6,q7,q8,q9,da,dj,dq,dp,dn,dh] ab) w)),q1,(bo q0 w).tmod (bo (rg [q0,q1,q2,q3,q4,q5,q6,q7,q8,q9,da,dj,dq,dp,dn,dh] ab) w),q3,q4,q5,q6,q7,q8,q9,da,dj,dq,dp,dn,dh,false,false,false,false,false,u64 (pc+u64 (XS.len ⟨24,w,ab,ae,aa,af,aq,cc⟩))⟩,0):=by
      show (match (bo (rg [q0,q1,q2,q3,q4,q5,q6,q7,q8,q9,da,dj,dq,dp,dn,dh] ab) w==0:Bool) with|true=>((aG.zero,20):aG×Int)|false=>match (bo q2 w==0:Bool) with|false=>(.zero,20)|true=>_)=_
      rw [hd,hz]
      rfl
     rw [e]
     exact AV q0 q1 q2 q3 q4 q5 q6 q7 q8 q9 da dj dq dp dn dh pc fk fc fz fs fo w ab ae aa af aq cc ld d0 d1 s0 s1 b0 b1 hm hd hz
   ·have e:lF ((⟨q0,q1,q2,q3,q4,q5,q6,q7,q8,q9,da,dj,dq,dp,dn,dh,fk,fc,fz,fs,fo,pc⟩:aG).at (u64 (pc+u64 (XS.len ⟨24,w,ab,ae,aa,af,aq,cc⟩)))) ⟨24,w,ab,ae,aa,af,aq,cc⟩ ld=(.zero,20):=by
     show (match (bo (rg [q0,q1,q2,q3,q4,q5,q6,q7,q8,q9,da,dj,dq,dp,dn,dh] ab) w==0:Bool) with|true=>((aG.zero,20):aG×Int)|false=>match (bo q2 w==0:Bool) with|false=>(.zero,20)|true=>_)=_
     rw [hd]
    rw [e]
    exact yV q0 q1 q2 q3 q4 q5 q6 q7 q8 q9 da dj dq dp dn dh pc fk fc fz fs fo w ab ae aa af aq cc ld d0 d1 s0 s1 b0 b1 hm hd
  ·cases fk
   ·exact yT q0 q1 q2 q3 q4 q5 q6 q7 q8 q9 da dj dq dp dn dh pc fc fz fs fo w ab ae aa af aq cc ld d0 d1 s0 s1 b0 b1 hm (IG hs)
   ·exact AU q0 q1 q2 q3 q4 q5 q6 q7 q8 q9 da dj dq dp dn dh pc fc fz fs fo w ab ae aa af aq cc ld d0 d1 s0 s1 b0 b1 hm (IG hs)
  ·exact AR ⟨q0,q1,q2,q3,q4,q5,q6,q7,q8,q9,da,dj,dq,dp,dn,dh,fk,fc,fz,fs,fo,pc⟩ w ab ae aa af aq cc ld d0 d1 s0 s1 b0 b1 hm
  ·exact AQ ⟨q0,q1,q2,q3,q4,q5,q6,q7,q8,q9,da,dj,dq,dp,dn,dh,fk,fc,fz,fs,fo,pc⟩ w ab ae aa af aq cc ld d0 d1 s0 s1 b0 b1 hm
  ·exact AP ⟨q0,q1,q2,q3,q4,q5,q6,q7,q8,q9,da,dj,dq,dp,dn,dh,fk,fc,fz,fs,fo,pc⟩ w ab ae aa af aq cc ld d0 d1 s0 s1 b0 b1 hm
  ·cases fk
   ·exact yR q0 q1 q2 q3 q4 q5 q6 q7 q8 q9 da dj dq dp dn dh pc fc fz fs fo w ab ae aa af aq cc ld d0 d1 s0 s1 b0 b1 hm (CK hs)
   ·exact AO q0 q1 q2 q3 q4 q5 q6 q7 q8 q9 da dj dq dp dn dh pc fc fz fs fo w ab ae aa af aq cc ld d0 d1 s0 s1 b0 b1 hm (CK hs)
  ·exact AN ⟨q0,q1,q2,q3,q4,q5,q6,q7,q8,q9,da,dj,dq,dp,dn,dh,fk,fc,fz,fs,fo,pc⟩ w ab ae aa af aq cc ld d0 d1 s0 s1 b0 b1 hm
  ·exact AM ⟨q0,q1,q2,q3,q4,q5,q6,q7,q8,q9,da,dj,dq,dp,dn,dh,fk,fc,fz,fs,fo,pc⟩ w ab ae aa af aq cc ld d0 d1 s0 s1 b0 b1 hm
end Go.Proofs.YtbfpahigdpigpaaGreat
