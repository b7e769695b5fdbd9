import Derived.Test.YtbfpahigdpigpaaGreatC06
import Derived.Test.YtbfpahigdpigpaaGreatC09
import Derived.Test.YtbfpahigdpigpaaGreatC11
open List renaming replicate→Sx
open Go.Fn renaming func→SB
open And renaming intro→S7
open True renaming intro→Tf
open Go renaming IntKind→T8
/- Contracts and plain laws that a statement's proof leans on (texts merged:E0F0,E0F,E1e,Y1f,ESM). -/
set_option linter.unusedVariables false
set_option linter.unusedSimpArgs false
set_option maxRecDepth 100000
set_option maxHeartbeats 8000000
namespace Go.Proofs.YtbfpahigdpigpaaGreat
open Go Go.Ev
theorem tc:aF Tryz.prog 171 ([.int .i8 2]) (.bool true):=by
 exact (aF.ab (d:= .bool true) mixed Tryz.func171 (by kernel_rfl) ([tT,tT,tT,tT,.inl,.inl,.inl,.inl,.inl,.inl,.inl,.inl,.inl,.inl,tT,tT]++ [tT,.get ([D.aq,D.aq,D.fn (SB 187) [] [],D.fn (SB 193) [] [.ptr false 1 0],D.fn (SB 188) [] [],D.fn (SB 193) [] [.ptr false 2 0],D.fn (SB 191) [] [.ptr false 3 0,.ptr false 4 0],D.fn (SB 193) [] [.ptr false 7 0],D.aq,D.aq,D.aq,D.aq,D.fn (SB 189) [] [],D.fn (SB 193) [] [.ptr false 8 0],D.fn (SB 191) [] [.ptr false 9 0,.ptr false 10 0],D.fn (SB 193) [] [.ptr false 13 0]]) 2 (D.fn (SB 187) [] []) rfl,tT,tT]) (by kernel_rfl)).to (by ((simp only [wk,ax,and_true];repeat' (first|rfl|exact Tf|apply S7));done))
theorem ta:aF Tryz.prog 171 ([.int .i8 3]) (.bool true):=by
 exact (aF.ab (d:= .bool true) mixed Tryz.func171 (by kernel_rfl) ([tT,tT,tT,tT,.inl,.inl,.inl,.inl,.inl,.inl,.inl,.inl,.inl,.inl,tT,tT]++ [tT,.get ([D.aq,D.aq,D.fn (SB 187) [] [],D.fn (SB 193) [] [.ptr false 1 0],D.fn (SB 188) [] [],D.fn (SB 193) [] [.ptr false 2 0],D.fn (SB 191) [] [.ptr false 3 0,.ptr false 4 0],D.fn (SB 193) [] [.ptr false 7 0],D.aq,D.aq,D.aq,D.aq,D.fn (SB 189) [] [],D.fn (SB 193) [] [.ptr false 8 0],D.fn (SB 191) [] [.ptr false 9 0,.ptr false 10 0],D.fn (SB 193) [] [.ptr false 13 0]]) 3 (D.fn (SB 193) [] [.ptr false 1 0]) rfl,tT,tT]) (by kernel_rfl)).to (by ((simp only [wk,ax,and_true];repeat' (first|rfl|exact Tf|apply S7));done))
theorem s9:aF Tryz.prog 171 ([.int .i8 4]) (.bool true):=by
 exact (aF.ab (d:= .bool true) mixed Tryz.func171 (by kernel_rfl) ([tT,tT,tT,tT,.inl,.inl,.inl,.inl,.inl,.inl,.inl,.inl,.inl,.inl,tT,tT]++ [tT,.get ([D.aq,D.aq,D.fn (SB 187) [] [],D.fn (SB 193) [] [.ptr false 1 0],D.fn (SB 188) [] [],D.fn (SB 193) [] [.ptr false 2 0],D.fn (SB 191) [] [.ptr false 3 0,.ptr false 4 0],D.fn (SB 193) [] [.ptr false 7 0],D.aq,D.aq,D.aq,D.aq,D.fn (SB 189) [] [],D.fn (SB 193) [] [.ptr false 8 0],D.fn (SB 191) [] [.ptr false 9 0,.ptr false 10 0],D.fn (SB 193) [] [.ptr false 13 0]]) 4 (D.fn (SB 188) [] []) rfl,tT,tT]) (by kernel_rfl)).to (by ((simp only [wk,ax,and_true];repeat' (first|rfl|exact Tf|apply S7));done))
theorem s8:aF Tryz.prog 171 ([.int .i8 5]) (.bool true):=by
 exact (aF.ab (d:= .bool true) mixed Tryz.func171 (by kernel_rfl) ([tT,tT,tT,tT,.inl,.inl,.inl,.inl,.inl,.inl,.inl,.inl,.inl,.inl,tT,tT]++ [tT,.get ([D.aq,D.aq,D.fn (SB 187) [] [],D.fn (SB 193) [] [.ptr false 1 0],D.fn (SB 188) [] [],D.fn (SB 193) [] [.ptr false 2 0],D.fn (SB 191) [] [.ptr false 3 0,.ptr false 4 0],D.fn (SB 193) [] [.ptr false 7 0],D.aq,D.aq,D.aq,D.aq,D.fn (SB 189) [] [],D.fn (SB 193) [] [.ptr false 8 0],D.fn (SB 191) [] [.ptr false 9 0,.ptr false 10 0],D.fn (SB 193) [] [.ptr false 13 0]]) 5 (D.fn (SB 193) [] [.ptr false 2 0]) rfl,tT,tT]) (by kernel_rfl)).to (by ((simp only [wk,ax,and_true];repeat' (first|rfl|exact Tf|apply S7));done))
theorem s7:aF Tryz.prog 171 ([.int .i8 6]) (.bool true):=by
 exact (aF.ab (d:= .bool true) mixed Tryz.func171 (by kernel_rfl) ([tT,tT,tT,tT,.inl,.inl,.inl,.inl,.inl,.inl,.inl,.inl,.inl,.inl,tT,tT]++ [tT,.get ([D.aq,D.aq,D.fn (SB 187) [] [],D.fn (SB 193) [] [.ptr false 1 0],D.fn (SB 188) [] [],D.fn (SB 193) [] [.ptr false 2 0],D.fn (SB 191) [] [.ptr false 3 0,.ptr false 4 0],D.fn (SB 193) [] [.ptr false 7 0],D.aq,D.aq,D.aq,D.aq,D.fn (SB 189) [] [],D.fn (SB 193) [] [.ptr false 8 0],D.fn (SB 191) [] [.ptr false 9 0,.ptr false 10 0],D.fn (SB 193) [] [.ptr false 13 0]]) 6 (D.fn (SB 191) [] [.ptr false 3 0,.ptr false 4 0]) rfl,tT,tT]) (by kernel_rfl)).to (by ((simp only [wk,ax,and_true];repeat' (first|rfl|exact Tf|apply S7));done))
theorem s6:aF Tryz.prog 171 ([.int .i8 7]) (.bool true):=by
 exact (aF.ab (d:= .bool true) mixed Tryz.func171 (by kernel_rfl) ([tT,tT,tT,tT,.inl,.inl,.inl,.inl,.inl,.inl,.inl,.inl,.inl,.inl,tT,tT]++ [tT,.get ([D.aq,D.aq,D.fn (SB 187) [] [],D.fn (SB 193) [] [.ptr false 1 0],D.fn (SB 188) [] [],D.fn (SB 193) [] [.ptr false 2 0],D.fn (SB 191) [] [.ptr false 3 0,.ptr false 4 0],D.fn (SB 193) [] [.ptr false 7 0],D.aq,D.aq,D.aq,D.aq,D.fn (SB 189) [] [],D.fn (SB 193) [] [.ptr false 8 0],D.fn (SB 191) [] [.ptr false 9 0,.ptr false 10 0],D.fn (SB 193) [] [.ptr false 13 0]]) 7 (D.fn (SB 193) [] [.ptr false 7 0]) rfl,tT,tT]) (by kernel_rfl)).to (by ((simp only [wk,ax,and_true];repeat' (first|rfl|exact Tf|apply S7));done))
theorem rj:aF Tryz.prog 171 ([.int .i8 12]) (.bool true):=by
 exact (aF.ab (d:= .bool true) mixed Tryz.func171 (by kernel_rfl) ([tT,tT,tT,tT,.inl,.inl,.inl,.inl,.inl,.inl,.inl,.inl,.inl,.inl,tT,tT]++ [tT,.get ([D.aq,D.aq,D.fn (SB 187) [] [],D.fn (SB 193) [] [.ptr false 1 0],D.fn (SB 188) [] [],D.fn (SB 193) [] [.ptr false 2 0],D.fn (SB 191) [] [.ptr false 3 0,.ptr false 4 0],D.fn (SB 193) [] [.ptr false 7 0],D.aq,D.aq,D.aq,D.aq,D.fn (SB 189) [] [],D.fn (SB 193) [] [.ptr false 8 0],D.fn (SB 191) [] [.ptr false 9 0,.ptr false 10 0],D.fn (SB 193) [] [.ptr false 13 0]]) 12 (D.fn (SB 189) [] []) rfl,tT,tT]) (by kernel_rfl)).to (by ((simp only [wk,ax,and_true];repeat' (first|rfl|exact Tf|apply S7));done))
theorem ri:aF Tryz.prog 171 ([.int .i8 13]) (.bool true):=by
 exact (aF.ab (d:= .bool true) mixed Tryz.func171 (by kernel_rfl) ([tT,tT,tT,tT,.inl,.inl,.inl,.inl,.inl,.inl,.inl,.inl,.inl,.inl,tT,tT]++ [tT,.get ([D.aq,D.aq,D.fn (SB 187) [] [],D.fn (SB 193) [] [.ptr false 1 0],D.fn (SB 188) [] [],D.fn (SB 193) [] [.ptr false 2 0],D.fn (SB 191) [] [.ptr false 3 0,.ptr false 4 0],D.fn (SB 193) [] [.ptr false 7 0],D.aq,D.aq,D.aq,D.aq,D.fn (SB 189) [] [],D.fn (SB 193) [] [.ptr false 8 0],D.fn (SB 191) [] [.ptr false 9 0,.ptr false 10 0],D.fn (SB 193) [] [.ptr false 13 0]]) 13 (D.fn (SB 193) [] [.ptr false 8 0]) rfl,tT,tT]) (by kernel_rfl)).to (by ((simp only [wk,ax,and_true];repeat' (first|rfl|exact Tf|apply S7));done))
theorem rh:aF Tryz.prog 171 ([.int .i8 14]) (.bool true):=by
 exact (aF.ab (d:= .bool true) mixed Tryz.func171 (by kernel_rfl) ([tT,tT,tT,tT,.inl,.inl,.inl,.inl,.inl,.inl,.inl,.inl,.inl,.inl,tT,tT]++ [tT,.get ([D.aq,D.aq,D.fn (SB 187) [] [],D.fn (SB 193) [] [.ptr false 1 0],D.fn (SB 188) [] [],D.fn (SB 193) [] [.ptr false 2 0],D.fn (SB 191) [] [.ptr false 3 0,.ptr false 4 0],D.fn (SB 193) [] [.ptr false 7 0],D.aq,D.aq,D.aq,D.aq,D.fn (SB 189) [] [],D.fn (SB 193) [] [.ptr false 8 0],D.fn (SB 191) [] [.ptr false 9 0,.ptr false 10 0],D.fn (SB 193) [] [.ptr false 13 0]]) 14 (D.fn (SB 191) [] [.ptr false 9 0,.ptr false 10 0]) rfl,tT,tT]) (by kernel_rfl)).to (by ((simp only [wk,ax,and_true];repeat' (first|rfl|exact Tf|apply S7));done))
theorem rf:aF Tryz.prog 171 ([.int .i8 15]) (.bool true):=by
 exact (aF.ab (d:= .bool true) mixed Tryz.func171 (by kernel_rfl) ([tT,tT,tT,tT,.inl,.inl,.inl,.inl,.inl,.inl,.inl,.inl,.inl,.inl,tT,tT]++ [tT,.get ([D.aq,D.aq,D.fn (SB 187) [] [],D.fn (SB 193) [] [.ptr false 1 0],D.fn (SB 188) [] [],D.fn (SB 193) [] [.ptr false 2 0],D.fn (SB 191) [] [.ptr false 3 0,.ptr false 4 0],D.fn (SB 193) [] [.ptr false 7 0],D.aq,D.aq,D.aq,D.aq,D.fn (SB 189) [] [],D.fn (SB 193) [] [.ptr false 8 0],D.fn (SB 191) [] [.ptr false 9 0,.ptr false 10 0],D.fn (SB 193) [] [.ptr false 13 0]]) 15 (D.fn (SB 193) [] [.ptr false 13 0]) rfl,tT,tT]) (by kernel_rfl)).to (by ((simp only [wk,ax,and_true];repeat' (first|rfl|exact Tf|apply S7));done))
def iq (Me:Int):Prop:= ∀(c z s o:Bool),aF Tryz.prog 163 ([.int .i8 Me,fD true c z s o]) (.aC [.bool (dC Me c z s o),.int .i64 0])
theorem xh:iq 2:=by
  intro c z s o
  have c0:= @tc
  have c1:= @ck
  exact (aF.ab (d:= .aC [.bool c,.int .i64 0]) mixed Tryz.func163 (by kernel_rfl) ([.ret _ _ _ c0,tF,.ret _ _ _ c1,.flat _ _ aE,tT,tT,tT,tF,tF,.inl,.inl,.inl,.inl,.inl,.inl,.inl]++ [.inl,.inl,.inl,.aD [],.aD [(0,.box [.bool true,.bool c,.bool z,.bool s,.bool o])],tT,.get ([D.aq,D.aq,D.fn (SB 187) [] [],D.fn (SB 193) [] [.ptr false 4 0],D.fn (SB 188) [] [],D.fn (SB 193) [] [.ptr false 5 0],D.fn (SB 191) [] [.ptr false 6 0,.ptr false 7 0],D.fn (SB 193) [] [.ptr false 10 0],D.aq,D.aq,D.aq,D.aq,D.fn (SB 189) [] [],D.fn (SB 193) [] [.ptr false 11 0],D.fn (SB 191) [] [.ptr false 12 0,.ptr false 13 0],D.fn (SB 193) [] [.ptr false 16 0]]) 2 (D.fn (SB 187) [] []) rfl,.inl]) (by kernel_rfl)).to (by (try cases c)<;>(try cases z)<;>(try cases s)<;>(try cases o)<;>first|(simp [wk,ax,dC];done)|rfl|exact ⟨rfl,rfl,trivial⟩)
def im (Me:Int):Prop:= ∀(c z s o:Bool),aF Tryz.prog 163 ([.int .i8 Me,fD false c z s o]) (.aC [.bool false,.int .i64 20])
theorem vp:im 2:=by
  intro c z s o
  have c0:= @tc
  have c1:= @ck
  cases c
  · skip
    cases z
    · skip
      cases s
      · skip
        cases o
        · skip
          exact (aF.ab (d:= .aC [.bool false,.int .i64 20]) mixed Tryz.func163 (by kernel_rfl) [.ret _ _ _ c0,tF,.ret _ _ _ c1,.flat _ _ aE,tF,tF,tF,tT,tT] (by kernel_rfl)).to (by simp [wk,ax])
        · skip
          exact (aF.ab (d:= .aC [.bool false,.int .i64 20]) mixed Tryz.func163 (by kernel_rfl) [.ret _ _ _ c0,tF,.ret _ _ _ c1,.flat _ _ aE,tT,tT,tT,tF,tT] (by kernel_rfl)).to (by simp [wk,ax])
      · skip
        exact (aF.ab (d:= .aC [.bool false,.int .i64 20]) mixed Tryz.func163 (by kernel_rfl) [.ret _ _ _ c0,tF,.ret _ _ _ c1,.flat _ _ aE,tT,tT,tT,tF,tT] (by kernel_rfl)).to (by simp [wk,ax])
    · skip
      exact (aF.ab (d:= .aC [.bool false,.int .i64 20]) mixed Tryz.func163 (by kernel_rfl) [.ret _ _ _ c0,tF,.ret _ _ _ c1,.flat _ _ aE,tT,tT,tT,tF,tT] (by kernel_rfl)).to (by simp [wk,ax])
  · skip
    exact (aF.ab (d:= .aC [.bool false,.int .i64 20]) mixed Tryz.func163 (by kernel_rfl) [.ret _ _ _ c0,tF,.ret _ _ _ c1,.flat _ _ aE,tT,tT,tT,tF,tT] (by kernel_rfl)).to (by simp [wk,ax])
theorem xg:iq 3:=by
 intro c z s o
 have c0:= @ta
 have c1:= @ck
 exact (aF.ab (d:= .aC [.bool !c,.int .i64 0]) mixed Tryz.func163 (by kernel_rfl) ([.ret _ _ _ c0,tF,.ret _ _ _ c1,.flat _ _ aE,tT,tT,tT,tF,tF,.inl,.inl,.inl,.inl,.inl,.inl,.inl]++ [.inl,.inl,.inl,.aD [],.aD [(0,.box [.bool true,.bool c,.bool z,.bool s,.bool o])],tT,.get ([D.aq,D.aq,D.fn (SB 187) [] [],D.fn (SB 193) [] [.ptr false 4 0],D.fn (SB 188) [] [],D.fn (SB 193) [] [.ptr false 5 0],D.fn (SB 191) [] [.ptr false 6 0,.ptr false 7 0],D.fn (SB 193) [] [.ptr false 10 0],D.aq,D.aq,D.aq,D.aq,D.fn (SB 189) [] [],D.fn (SB 193) [] [.ptr false 11 0],D.fn (SB 191) [] [.ptr false 12 0,.ptr false 13 0],D.fn (SB 193) [] [.ptr false 16 0]]) 3 (D.fn (SB 193) [] [.ptr false 4 0]) rfl,.inl,.inl]) (by kernel_rfl)).to (by (try cases c)<;>(try cases z)<;>(try cases s)<;>(try cases o)<;>first|(simp [wk,ax,dC];done)|rfl|exact ⟨rfl,rfl,trivial⟩)
theorem vo:im 3:=by
 intro c z s o
 have c0:= @ta
 have c1:= @ck
 cases c
 ·skip
  cases z
  ·skip
   cases s
   ·skip
    cases o
    ·skip
     exact (aF.ab (d:= .aC [.bool false,.int .i64 20]) mixed Tryz.func163 (by kernel_rfl) [.ret _ _ _ c0,tF,.ret _ _ _ c1,.flat _ _ aE,tF,tF,tF,tT,tT] (by kernel_rfl)).to (by simp [wk,ax])
    ·skip
     exact (aF.ab (d:= .aC [.bool false,.int .i64 20]) mixed Tryz.func163 (by kernel_rfl) [.ret _ _ _ c0,tF,.ret _ _ _ c1,.flat _ _ aE,tT,tT,tT,tF,tT] (by kernel_rfl)).to (by simp [wk,ax])
   ·skip
    exact (aF.ab (d:= .aC [.bool false,.int .i64 20]) mixed Tryz.func163 (by kernel_rfl) [.ret _ _ _ c0,tF,.ret _ _ _ c1,.flat _ _ aE,tT,tT,tT,tF,tT] (by kernel_rfl)).to (by simp [wk,ax])
  ·skip
   exact (aF.ab (d:= .aC [.bool false,.int .i64 20]) mixed Tryz.func163 (by kernel_rfl) [.ret _ _ _ c0,tF,.ret _ _ _ c1,.flat _ _ aE,tT,tT,tT,tF,tT] (by kernel_rfl)).to (by simp [wk,ax])
 ·skip
  exact (aF.ab (d:= .aC [.bool false,.int .i64 20]) mixed Tryz.func163 (by kernel_rfl) [.ret _ _ _ c0,tF,.ret _ _ _ c1,.flat _ _ aE,tT,tT,tT,tF,tT] (by kernel_rfl)).to (by simp [wk,ax])
theorem xf:iq 4:=by
 intro c z s o
 have c0:= @s9
 have c1:= @ck
 exact (aF.ab (d:= .aC [.bool z,.int .i64 0]) mixed Tryz.func163 (by kernel_rfl) ([.ret _ _ _ c0,tF,.ret _ _ _ c1,.flat _ _ aE,tT,tT,tT,tF,tF,.inl,.inl,.inl,.inl,.inl,.inl,.inl]++ [.inl,.inl,.inl,.aD [],.aD [(0,.box [.bool true,.bool c,.bool z,.bool s,.bool o])],tT,.get ([D.aq,D.aq,D.fn (SB 187) [] [],D.fn (SB 193) [] [.ptr false 4 0],D.fn (SB 188) [] [],D.fn (SB 193) [] [.ptr false 5 0],D.fn (SB 191) [] [.ptr false 6 0,.ptr false 7 0],D.fn (SB 193) [] [.ptr false 10 0],D.aq,D.aq,D.aq,D.aq,D.fn (SB 189) [] [],D.fn (SB 193) [] [.ptr false 11 0],D.fn (SB 191) [] [.ptr false 12 0,.ptr false 13 0],D.fn (SB 193) [] [.ptr false 16 0]]) 4 (D.fn (SB 188) [] []) rfl,.inl]) (by kernel_rfl)).to (by (try cases c)<;>(try cases z)<;>(try cases s)<;>(try cases o)<;>first|(simp [wk,ax,dC];done)|rfl|exact ⟨rfl,rfl,trivial⟩)
theorem vn:im 4:=by
 intro c z s o
 have c0:= @s9
 have c1:= @ck
 cases c
 ·skip
  cases z
  ·skip
   cases s
   ·skip
    cases o
    ·skip
     exact (aF.ab (d:= .aC [.bool false,.int .i64 20]) mixed Tryz.func163 (by kernel_rfl) [.ret _ _ _ c0,tF,.ret _ _ _ c1,.flat _ _ aE,tF,tF,tF,tT,tT] (by kernel_rfl)).to (by simp [wk,ax])
    ·skip
     exact (aF.ab (d:= .aC [.bool false,.int .i64 20]) mixed Tryz.func163 (by kernel_rfl) [.ret _ _ _ c0,tF,.ret _ _ _ c1,.flat _ _ aE,tT,tT,tT,tF,tT] (by kernel_rfl)).to (by simp [wk,ax])
   ·skip
    exact (aF.ab (d:= .aC [.bool false,.int .i64 20]) mixed Tryz.func163 (by kernel_rfl) [.ret _ _ _ c0,tF,.ret _ _ _ c1,.flat _ _ aE,tT,tT,tT,tF,tT] (by kernel_rfl)).to (by simp [wk,ax])
  ·skip
   exact (aF.ab (d:= .aC [.bool false,.int .i64 20]) mixed Tryz.func163 (by kernel_rfl) [.ret _ _ _ c0,tF,.ret _ _ _ c1,.flat _ _ aE,tT,tT,tT,tF,tT] (by kernel_rfl)).to (by simp [wk,ax])
 ·skip
  exact (aF.ab (d:= .aC [.bool false,.int .i64 20]) mixed Tryz.func163 (by kernel_rfl) [.ret _ _ _ c0,tF,.ret _ _ _ c1,.flat _ _ aE,tT,tT,tT,tF,tT] (by kernel_rfl)).to (by simp [wk,ax])
theorem xe:iq 5:=by
 intro c z s o
 have c0:= @s8
 have c1:= @ck
 exact (aF.ab (d:= .aC [.bool !z,.int .i64 0]) mixed Tryz.func163 (by kernel_rfl) ([.ret _ _ _ c0,tF,.ret _ _ _ c1,.flat _ _ aE,tT,tT,tT,tF,tF,.inl,.inl,.inl,.inl,.inl,.inl,.inl]++ [.inl,.inl,.inl,.aD [],.aD [(0,.box [.bool true,.bool c,.bool z,.bool s,.bool o])],tT,.get ([D.aq,D.aq,D.fn (SB 187) [] [],D.fn (SB 193) [] [.ptr false 4 0],D.fn (SB 188) [] [],D.fn (SB 193) [] [.ptr false 5 0],D.fn (SB 191) [] [.ptr false 6 0,.ptr false 7 0],D.fn (SB 193) [] [.ptr false 10 0],D.aq,D.aq,D.aq,D.aq,D.fn (SB 189) [] [],D.fn (SB 193) [] [.ptr false 11 0],D.fn (SB 191) [] [.ptr false 12 0,.ptr false 13 0],D.fn (SB 193) [] [.ptr false 16 0]]) 5 (D.fn (SB 193) [] [.ptr false 5 0]) rfl,.inl,.inl]) (by kernel_rfl)).to (by (try cases c)<;>(try cases z)<;>(try cases s)<;>(try cases o)<;>first|(simp [wk,ax,dC];done)|rfl|exact ⟨rfl,rfl,trivial⟩)
theorem vm:im 5:=by
 intro c z s o
 have c0:= @s8
 have c1:= @ck
 cases c
 ·skip
  cases z
  ·skip
   cases s
   ·skip
    cases o
    ·skip
     exact (aF.ab (d:= .aC [.bool false,.int .i64 20]) mixed Tryz.func163 (by kernel_rfl) [.ret _ _ _ c0,tF,.ret _ _ _ c1,.flat _ _ aE,tF,tF,tF,tT,tT] (by kernel_rfl)).to (by simp [wk,ax])
    ·skip
     exact (aF.ab (d:= .aC [.bool false,.int .i64 20]) mixed Tryz.func163 (by kernel_rfl) [.ret _ _ _ c0,tF,.ret _ _ _ c1,.flat _ _ aE,tT,tT,tT,tF,tT] (by kernel_rfl)).to (by simp [wk,ax])
   ·skip
    exact (aF.ab (d:= .aC [.bool false,.int .i64 20]) mixed Tryz.func163 (by kernel_rfl) [.ret _ _ _ c0,tF,.ret _ _ _ c1,.flat _ _ aE,tT,tT,tT,tF,tT] (by kernel_rfl)).to (by simp [wk,ax])
  ·skip
   exact (aF.ab (d:= .aC [.bool false,.int .i64 20]) mixed Tryz.func163 (by kernel_rfl) [.ret _ _ _ c0,tF,.ret _ _ _ c1,.flat _ _ aE,tT,tT,tT,tF,tT] (by kernel_rfl)).to (by simp [wk,ax])
 ·skip
  exact (aF.ab (d:= .aC [.bool false,.int .i64 20]) mixed Tryz.func163 (by kernel_rfl) [.ret _ _ _ c0,tF,.ret _ _ _ c1,.flat _ _ aE,tT,tT,tT,tF,tT] (by kernel_rfl)).to (by simp [wk,ax])
theorem xd:iq 6:=by
 intro c z s o
 have c0:= @s7
 have c1:= @ck
 cases c
 ·skip
  exact (aF.ab (d:= .aC [.bool z,.int .i64 0]) mixed Tryz.func163 (by kernel_rfl) ([.ret _ _ _ c0,tF,.ret _ _ _ c1,.flat _ _ aE,tT,tT,tT,tF,tF,.inl,.inl,.inl,.inl,.inl,.inl,.inl]++ [.inl,.inl,.inl,.aD [],.aD [(0,.box [.bool true,.bool false,.bool z,.bool s,.bool o])],tT,.get ([D.aq,D.aq,D.fn (SB 187) [] [],D.fn (SB 193) [] [.ptr false 4 0],D.fn (SB 188) [] [],D.fn (SB 193) [] [.ptr false 5 0],D.fn (SB 191) [] [.ptr false 6 0,.ptr false 7 0],D.fn (SB 193) [] [.ptr false 10 0],D.aq,D.aq,D.aq,D.aq,D.fn (SB 189) [] [],D.fn (SB 193) [] [.ptr false 11 0],D.fn (SB 191) [] [.ptr false 12 0,.ptr false 13 0],D.fn (SB 193) [] [.ptr false 16 0]]) 6 (D.fn (SB 191) [] [.ptr false 6 0,.ptr false 7 0]) rfl,.inl,.inl,tT,tT,tT,.inl,tF]) (by kernel_rfl)).to (by (try cases c)<;>(try cases z)<;>(try cases s)<;>(try cases o)<;>first|(simp [wk,ax,dC];done)|rfl|exact ⟨rfl,rfl,trivial⟩)
 ·skip
  exact (aF.ab (d:= .aC [.bool true,.int .i64 0]) mixed Tryz.func163 (by kernel_rfl) ([.ret _ _ _ c0,tF,.ret _ _ _ c1,.flat _ _ aE,tT,tT,tT,tF,tF,.inl,.inl,.inl,.inl,.inl,.inl,.inl]++ [.inl,.inl,.inl,.aD [],.aD [(0,.box [.bool true,.bool true,.bool z,.bool s,.bool o])],tT,.get ([D.aq,D.aq,D.fn (SB 187) [] [],D.fn (SB 193) [] [.ptr false 4 0],D.fn (SB 188) [] [],D.fn (SB 193) [] [.ptr false 5 0],D.fn (SB 191) [] [.ptr false 6 0,.ptr false 7 0],D.fn (SB 193) [] [.ptr false 10 0],D.aq,D.aq,D.aq,D.aq,D.fn (SB 189) [] [],D.fn (SB 193) [] [.ptr false 11 0],D.fn (SB 191) [] [.ptr false 12 0,.ptr false 13 0],D.fn (SB 193) [] [.ptr false 16 0]]) 6 (D.fn (SB 191) [] [.ptr false 6 0,.ptr false 7 0]) rfl,.inl,.inl,tF,tF,tF,tT]) (by kernel_rfl)).to (by (try cases c)<;>(try cases z)<;>(try cases s)<;>(try cases o)<;>first|(simp [wk,ax,dC];done)|rfl|exact ⟨rfl,rfl,trivial⟩)
theorem vk:im 6:=by
 intro c z s o
 have c0:= @s7
 have c1:= @ck
 cases c
 ·skip
  cases z
  ·skip
   cases s
   ·skip
    cases o
    ·skip
     exact (aF.ab (d:= .aC [.bool false,.int .i64 20]) mixed Tryz.func163 (by kernel_rfl) [.ret _ _ _ c0,tF,.ret _ _ _ c1,.flat _ _ aE,tF,tF,tF,tT,tT] (by kernel_rfl)).to (by simp [wk,ax])
    ·skip
     exact (aF.ab (d:= .aC [.bool false,.int .i64 20]) mixed Tryz.func163 (by kernel_rfl) [.ret _ _ _ c0,tF,.ret _ _ _ c1,.flat _ _ aE,tT,tT,tT,tF,tT] (by kernel_rfl)).to (by simp [wk,ax])
   ·skip
    exact (aF.ab (d:= .aC [.bool false,.int .i64 20]) mixed Tryz.func163 (by kernel_rfl) [.ret _ _ _ c0,tF,.ret _ _ _ c1,.flat _ _ aE,tT,tT,tT,tF,tT] (by kernel_rfl)).to (by simp [wk,ax])
  ·skip
   exact (aF.ab (d:= .aC [.bool false,.int .i64 20]) mixed Tryz.func163 (by kernel_rfl) [.ret _ _ _ c0,tF,.ret _ _ _ c1,.flat _ _ aE,tT,tT,tT,tF,tT] (by kernel_rfl)).to (by simp [wk,ax])
 ·skip
  exact (aF.ab (d:= .aC [.bool false,.int .i64 20]) mixed Tryz.func163 (by kernel_rfl) [.ret _ _ _ c0,tF,.ret _ _ _ c1,.flat _ _ aE,tT,tT,tT,tF,tT] (by kernel_rfl)).to (by simp [wk,ax])
theorem xc:iq 7:=by
 intro c z s o
 have c0:= @s6
 have c1:= @ck
 cases c
 ·skip
  exact (aF.ab (d:= .aC [.bool !z,.int .i64 0]) mixed Tryz.func163 (by kernel_rfl) ([.ret _ _ _ c0,tF,.ret _ _ _ c1,.flat _ _ aE,tT,tT,tT,tF,tF,.inl,.inl,.inl,.inl,.inl,.inl,.inl]++ [.inl,.inl,.inl,.aD [],.aD [(0,.box [.bool true,.bool false,.bool z,.bool s,.bool o])],tT,.get ([D.aq,D.aq,D.fn (SB 187) [] [],D.fn (SB 193) [] [.ptr false 4 0],D.fn (SB 188) [] [],D.fn (SB 193) [] [.ptr false 5 0],D.fn (SB 191) [] [.ptr false 6 0,.ptr false 7 0],D.fn (SB 193) [] [.ptr false 10 0],D.aq,D.aq,D.aq,D.aq,D.fn (SB 189) [] [],D.fn (SB 193) [] [.ptr false 11 0],D.fn (SB 191) [] [.ptr false 12 0,.ptr false 13 0],D.fn (SB 193) [] [.ptr false 16 0]]) 7 (D.fn (SB 193) [] [.ptr false 10 0]) rfl,.inl,.inl,.inl,tT,tT,tT,.inl,tF]) (by kernel_rfl)).to (by (try cases c)<;>(try cases z)<;>(try cases s)<;>(try cases o)<;>first|(simp [wk,ax,dC];done)|rfl|exact ⟨rfl,rfl,trivial⟩)
 ·skip
  exact (aF.ab (d:= .aC [.bool false,.int .i64 0]) mixed Tryz.func163 (by kernel_rfl) ([.ret _ _ _ c0,tF,.ret _ _ _ c1,.flat _ _ aE,tT,tT,tT,tF,tF,.inl,.inl,.inl,.inl,.inl,.inl,.inl]++ [.inl,.inl,.inl,.aD [],.aD [(0,.box [.bool true,.bool true,.bool z,.bool s,.bool o])],tT,.get ([D.aq,D.aq,D.fn (SB 187) [] [],D.fn (SB 193) [] [.ptr false 4 0],D.fn (SB 188) [] [],D.fn (SB 193) [] [.ptr false 5 0],D.fn (SB 191) [] [.ptr false 6 0,.ptr false 7 0],D.fn (SB 193) [] [.ptr false 10 0],D.aq,D.aq,D.aq,D.aq,D.fn (SB 189) [] [],D.fn (SB 193) [] [.ptr false 11 0],D.fn (SB 191) [] [.ptr false 12 0,.ptr false 13 0],D.fn (SB 193) [] [.ptr false 16 0]]) 7 (D.fn (SB 193) [] [.ptr false 10 0]) rfl,.inl,.inl,.inl,tF,tF,tF,tT]) (by kernel_rfl)).to (by (try cases c)<;>(try cases z)<;>(try cases s)<;>(try cases o)<;>first|(simp [wk,ax,dC];done)|rfl|exact ⟨rfl,rfl,trivial⟩)
theorem vj:im 7:=by
 intro c z s o
 have c0:= @s6
 have c1:= @ck
 cases c
 ·skip
  cases z
  ·skip
   cases s
   ·skip
    cases o
    ·skip
     exact (aF.ab (d:= .aC [.bool false,.int .i64 20]) mixed Tryz.func163 (by kernel_rfl) [.ret _ _ _ c0,tF,.ret _ _ _ c1,.flat _ _ aE,tF,tF,tF,tT,tT] (by kernel_rfl)).to (by simp [wk,ax])
    ·skip
     exact (aF.ab (d:= .aC [.bool false,.int .i64 20]) mixed Tryz.func163 (by kernel_rfl) [.ret _ _ _ c0,tF,.ret _ _ _ c1,.flat _ _ aE,tT,tT,tT,tF,tT] (by kernel_rfl)).to (by simp [wk,ax])
   ·skip
    exact (aF.ab (d:= .aC [.bool false,.int .i64 20]) mixed Tryz.func163 (by kernel_rfl) [.ret _ _ _ c0,tF,.ret _ _ _ c1,.flat _ _ aE,tT,tT,tT,tF,tT] (by kernel_rfl)).to (by simp [wk,ax])
  ·skip
   exact (aF.ab (d:= .aC [.bool false,.int .i64 20]) mixed Tryz.func163 (by kernel_rfl) [.ret _ _ _ c0,tF,.ret _ _ _ c1,.flat _ _ aE,tT,tT,tT,tF,tT] (by kernel_rfl)).to (by simp [wk,ax])
 ·skip
  exact (aF.ab (d:= .aC [.bool false,.int .i64 20]) mixed Tryz.func163 (by kernel_rfl) [.ret _ _ _ c0,tF,.ret _ _ _ c1,.flat _ _ aE,tT,tT,tT,tF,tT] (by kernel_rfl)).to (by simp [wk,ax])
theorem vu:iq 12:=by
 intro c z s o
 have c0:= @rj
 have c1:= @ck
 exact (aF.ab (d:= .aC [.bool !s==o,.int .i64 0]) mixed Tryz.func163 (by kernel_rfl) ([.ret _ _ _ c0,tF,.ret _ _ _ c1,.flat _ _ aE,tT,tT,tT,tF,tF,.inl,.inl,.inl,.inl,.inl,.inl,.inl]++ [.inl,.inl,.inl,.aD [],.aD [(0,.box [.bool true,.bool c,.bool z,.bool s,.bool o])],tT,.get ([D.aq,D.aq,D.fn (SB 187) [] [],D.fn (SB 193) [] [.ptr false 4 0],D.fn (SB 188) [] [],D.fn (SB 193) [] [.ptr false 5 0],D.fn (SB 191) [] [.ptr false 6 0,.ptr false 7 0],D.fn (SB 193) [] [.ptr false 10 0],D.aq,D.aq,D.aq,D.aq,D.fn (SB 189) [] [],D.fn (SB 193) [] [.ptr false 11 0],D.fn (SB 191) [] [.ptr false 12 0,.ptr false 13 0],D.fn (SB 193) [] [.ptr false 16 0]]) 12 (D.fn (SB 189) [] []) rfl,.inl]) (by kernel_rfl)).to (by (try cases c)<;>(try cases z)<;>(try cases s)<;>(try cases o)<;>first|(simp [wk,ax,dC];done)|rfl|exact ⟨rfl,rfl,trivial⟩)
theorem ss:im 12:=by
 intro c z s o
 have c0:= @rj
 have c1:= @ck
 cases c
 ·skip
  cases z
  ·skip
   cases s
   ·skip
    cases o
    ·skip
     exact (aF.ab (d:= .aC [.bool false,.int .i64 20]) mixed Tryz.func163 (by kernel_rfl) [.ret _ _ _ c0,tF,.ret _ _ _ c1,.flat _ _ aE,tF,tF,tF,tT,tT] (by kernel_rfl)).to (by simp [wk,ax])
    ·skip
     exact (aF.ab (d:= .aC [.bool false,.int .i64 20]) mixed Tryz.func163 (by kernel_rfl) [.ret _ _ _ c0,tF,.ret _ _ _ c1,.flat _ _ aE,tT,tT,tT,tF,tT] (by kernel_rfl)).to (by simp [wk,ax])
   ·skip
    exact (aF.ab (d:= .aC [.bool false,.int .i64 20]) mixed Tryz.func163 (by kernel_rfl) [.ret _ _ _ c0,tF,.ret _ _ _ c1,.flat _ _ aE,tT,tT,tT,tF,tT] (by kernel_rfl)).to (by simp [wk,ax])
  ·skip
   exact (aF.ab (d:= .aC [.bool false,.int .i64 20]) mixed Tryz.func163 (by kernel_rfl) [.ret _ _ _ c0,tF,.ret _ _ _ c1,.flat _ _ aE,tT,tT,tT,tF,tT] (by kernel_rfl)).to (by simp [wk,ax])
 ·skip
  exact (aF.ab (d:= .aC [.bool false,.int .i64 20]) mixed Tryz.func163 (by kernel_rfl) [.ret _ _ _ c0,tF,.ret _ _ _ c1,.flat _ _ aE,tT,tT,tT,tF,tT] (by kernel_rfl)).to (by simp [wk,ax])
theorem vt:iq 13:=by
 intro c z s o
 have c0:= @ri
 have c1:= @ck
 exact (aF.ab (d:= .aC [.bool !!s==o,.int .i64 0]) mixed Tryz.func163 (by kernel_rfl) ([.ret _ _ _ c0,tF,.ret _ _ _ c1,.flat _ _ aE,tT,tT,tT,tF,tF,.inl,.inl,.inl,.inl,.inl,.inl,.inl]++ [.inl,.inl,.inl,.aD [],.aD [(0,.box [.bool true,.bool c,.bool z,.bool s,.bool o])],tT,.get ([D.aq,D.aq,D.fn (SB 187) [] [],D.fn (SB 193) [] [.ptr false 4 0],D.fn (SB 188) [] [],D.fn (SB 193) [] [.ptr false 5 0],D.fn (SB 191) [] [.ptr false 6 0,.ptr false 7 0],D.fn (SB 193) [] [.ptr false 10 0],D.aq,D.aq,D.aq,D.aq,D.fn (SB 189) [] [],D.fn (SB 193) [] [.ptr false 11 0],D.fn (SB 191) [] [.ptr false 12 0,.ptr false 13 0],D.fn (SB 193) [] [.ptr false 16 0]]) 13 (D.fn (SB 193) [] [.ptr false 11 0]) rfl,.inl,.inl]) (by kernel_rfl)).to (by (try cases c)<;>(try cases z)<;>(try cases s)<;>(try cases o)<;>first|(simp [wk,ax,dC];done)|rfl|exact ⟨rfl,rfl,trivial⟩)
theorem sr:im 13:=by
 intro c z s o
 have c0:= @ri
 have c1:= @ck
 cases c
 ·skip
  cases z
  ·skip
   cases s
   ·skip
    cases o
    ·skip
     exact (aF.ab (d:= .aC [.bool false,.int .i64 20]) mixed Tryz.func163 (by kernel_rfl) [.ret _ _ _ c0,tF,.ret _ _ _ c1,.flat _ _ aE,tF,tF,tF,tT,tT] (by kernel_rfl)).to (by simp [wk,ax])
    ·skip
     exact (aF.ab (d:= .aC [.bool false,.int .i64 20]) mixed Tryz.func163 (by kernel_rfl) [.ret _ _ _ c0,tF,.ret _ _ _ c1,.flat _ _ aE,tT,tT,tT,tF,tT] (by kernel_rfl)).to (by simp [wk,ax])
   ·skip
    exact (aF.ab (d:= .aC [.bool false,.int .i64 20]) mixed Tryz.func163 (by kernel_rfl) [.ret _ _ _ c0,tF,.ret _ _ _ c1,.flat _ _ aE,tT,tT,tT,tF,tT] (by kernel_rfl)).to (by simp [wk,ax])
  ·skip
   exact (aF.ab (d:= .aC [.bool false,.int .i64 20]) mixed Tryz.func163 (by kernel_rfl) [.ret _ _ _ c0,tF,.ret _ _ _ c1,.flat _ _ aE,tT,tT,tT,tF,tT] (by kernel_rfl)).to (by simp [wk,ax])
 ·skip
  exact (aF.ab (d:= .aC [.bool false,.int .i64 20]) mixed Tryz.func163 (by kernel_rfl) [.ret _ _ _ c0,tF,.ret _ _ _ c1,.flat _ _ aE,tT,tT,tT,tF,tT] (by kernel_rfl)).to (by simp [wk,ax])
theorem vr:iq 14:=by
 intro c z s o
 have c0:= @rh
 have c1:= @ck
 cases z
 ·skip
  exact (aF.ab (d:= .aC [.bool !s==o,.int .i64 0]) mixed Tryz.func163 (by kernel_rfl) ([.ret _ _ _ c0,tF,.ret _ _ _ c1,.flat _ _ aE,tT,tT,tT,tF,tF,.inl,.inl,.inl,.inl,.inl,.inl,.inl]++ [.inl,.inl,.inl,.aD [],.aD [(0,.box [.bool true,.bool c,.bool false,.bool s,.bool o])],tT,.get ([D.aq,D.aq,D.fn (SB 187) [] [],D.fn (SB 193) [] [.ptr false 4 0],D.fn (SB 188) [] [],D.fn (SB 193) [] [.ptr false 5 0],D.fn (SB 191) [] [.ptr false 6 0,.ptr false 7 0],D.fn (SB 193) [] [.ptr false 10 0],D.aq,D.aq,D.aq,D.aq,D.fn (SB 189) [] [],D.fn (SB 193) [] [.ptr false 11 0],D.fn (SB 191) [] [.ptr false 12 0,.ptr false 13 0],D.fn (SB 193) [] [.ptr false 16 0]]) 14 (D.fn (SB 191) [] [.ptr false 12 0,.ptr false 13 0]) rfl,.inl,.inl,tT,tT,tT,.inl,tF]) (by kernel_rfl)).to (by (try cases c)<;>(try cases z)<;>(try cases s)<;>(try cases o)<;>first|(simp [wk,ax,dC];done)|rfl|exact ⟨rfl,rfl,trivial⟩)
 ·skip
  exact (aF.ab (d:= .aC [.bool true,.int .i64 0]) mixed Tryz.func163 (by kernel_rfl) ([.ret _ _ _ c0,tF,.ret _ _ _ c1,.flat _ _ aE,tT,tT,tT,tF,tF,.inl,.inl,.inl,.inl,.inl,.inl,.inl]++ [.inl,.inl,.inl,.aD [],.aD [(0,.box [.bool true,.bool c,.bool true,.bool s,.bool o])],tT,.get ([D.aq,D.aq,D.fn (SB 187) [] [],D.fn (SB 193) [] [.ptr false 4 0],D.fn (SB 188) [] [],D.fn (SB 193) [] [.ptr false 5 0],D.fn (SB 191) [] [.ptr false 6 0,.ptr false 7 0],D.fn (SB 193) [] [.ptr false 10 0],D.aq,D.aq,D.aq,D.aq,D.fn (SB 189) [] [],D.fn (SB 193) [] [.ptr false 11 0],D.fn (SB 191) [] [.ptr false 12 0,.ptr false 13 0],D.fn (SB 193) [] [.ptr false 16 0]]) 14 (D.fn (SB 191) [] [.ptr false 12 0,.ptr false 13 0]) rfl,.inl,.inl,tF,tF,tF,tT]) (by kernel_rfl)).to (by (try cases c)<;>(try cases z)<;>(try cases s)<;>(try cases o)<;>first|(simp [wk,ax,dC];done)|rfl|exact ⟨rfl,rfl,trivial⟩)
theorem sq:im 14:=by
 intro c z s o
 have c0:= @rh
 have c1:= @ck
 cases c
 ·skip
  cases z
  ·skip
   cases s
   ·skip
    cases o
    ·skip
     exact (aF.ab (d:= .aC [.bool false,.int .i64 20]) mixed Tryz.func163 (by kernel_rfl) [.ret _ _ _ c0,tF,.ret _ _ _ c1,.flat _ _ aE,tF,tF,tF,tT,tT] (by kernel_rfl)).to (by simp [wk,ax])
    ·skip
     exact (aF.ab (d:= .aC [.bool false,.int .i64 20]) mixed Tryz.func163 (by kernel_rfl) [.ret _ _ _ c0,tF,.ret _ _ _ c1,.flat _ _ aE,tT,tT,tT,tF,tT] (by kernel_rfl)).to (by simp [wk,ax])
   ·skip
    exact (aF.ab (d:= .aC [.bool false,.int .i64 20]) mixed Tryz.func163 (by kernel_rfl) [.ret _ _ _ c0,tF,.ret _ _ _ c1,.flat _ _ aE,tT,tT,tT,tF,tT] (by kernel_rfl)).to (by simp [wk,ax])
  ·skip
   exact (aF.ab (d:= .aC [.bool false,.int .i64 20]) mixed Tryz.func163 (by kernel_rfl) [.ret _ _ _ c0,tF,.ret _ _ _ c1,.flat _ _ aE,tT,tT,tT,tF,tT] (by kernel_rfl)).to (by simp [wk,ax])
 ·skip
  exact (aF.ab (d:= .aC [.bool false,.int .i64 20]) mixed Tryz.func163 (by kernel_rfl) [.ret _ _ _ c0,tF,.ret _ _ _ c1,.flat _ _ aE,tT,tT,tT,tF,tT] (by kernel_rfl)).to (by simp [wk,ax])
theorem vq:iq 15:=by
 intro c z s o
 have c0:= @rf
 have c1:= @ck
 cases z
 ·skip
  exact (aF.ab (d:= .aC [.bool !!s==o,.int .i64 0]) mixed Tryz.func163 (by kernel_rfl) ([.ret _ _ _ c0,tF,.ret _ _ _ c1,.flat _ _ aE,tT,tT,tT,tF,tF,.inl,.inl,.inl,.inl,.inl,.inl,.inl]++ [.inl,.inl,.inl,.aD [],.aD [(0,.box [.bool true,.bool c,.bool false,.bool s,.bool o])],tT,.get ([D.aq,D.aq,D.fn (SB 187) [] [],D.fn (SB 193) [] [.ptr false 4 0],D.fn (SB 188) [] [],D.fn (SB 193) [] [.ptr false 5 0],D.fn (SB 191) [] [.ptr false 6 0,.ptr false 7 0],D.fn (SB 193) [] [.ptr false 10 0],D.aq,D.aq,D.aq,D.aq,D.fn (SB 189) [] [],D.fn (SB 193) [] [.ptr false 11 0],D.fn (SB 191) [] [.ptr false 12 0,.ptr false 13 0],D.fn (SB 193) [] [.ptr false 16 0]]) 15 (D.fn (SB 193) [] [.ptr false 16 0]) rfl,.inl,.inl,.inl,tT,tT,tT,.inl,tF]) (by kernel_rfl)).to (by (try cases c)<;>(try cases z)<;>(try cases s)<;>(try cases o)<;>first|(simp [wk,ax,dC];done)|rfl|exact ⟨rfl,rfl,trivial⟩)
 ·skip
  exact (aF.ab (d:= .aC [.bool false,.int .i64 0]) mixed Tryz.func163 (by kernel_rfl) ([.ret _ _ _ c0,tF,.ret _ _ _ c1,.flat _ _ aE,tT,tT,tT,tF,tF,.inl,.inl,.inl,.inl,.inl,.inl,.inl]++ [.inl,.inl,.inl,.aD [],.aD [(0,.box [.bool true,.bool c,.bool true,.bool s,.bool o])],tT,.get ([D.aq,D.aq,D.fn (SB 187) [] [],D.fn (SB 193) [] [.ptr false 4 0],D.fn (SB 188) [] [],D.fn (SB 193) [] [.ptr false 5 0],D.fn (SB 191) [] [.ptr false 6 0,.ptr false 7 0],D.fn (SB 193) [] [.ptr false 10 0],D.aq,D.aq,D.aq,D.aq,D.fn (SB 189) [] [],D.fn (SB 193) [] [.ptr false 11 0],D.fn (SB 191) [] [.ptr false 12 0,.ptr false 13 0],D.fn (SB 193) [] [.ptr false 16 0]]) 15 (D.fn (SB 193) [] [.ptr false 16 0]) rfl,.inl,.inl,.inl,tF,tF,tF,tT]) (by kernel_rfl)).to (by (try cases c)<;>(try cases z)<;>(try cases s)<;>(try cases o)<;>first|(simp [wk,ax,dC];done)|rfl|exact ⟨rfl,rfl,trivial⟩)
theorem so:im 15:=by
 intro c z s o
 have c0:= @rf
 have c1:= @ck
 cases c
 ·skip
  cases z
  ·skip
   cases s
   ·skip
    cases o
    ·skip
     exact (aF.ab (d:= .aC [.bool false,.int .i64 20]) mixed Tryz.func163 (by kernel_rfl) [.ret _ _ _ c0,tF,.ret _ _ _ c1,.flat _ _ aE,tF,tF,tF,tT,tT] (by kernel_rfl)).to (by simp [wk,ax])
    ·skip
     exact (aF.ab (d:= .aC [.bool false,.int .i64 20]) mixed Tryz.func163 (by kernel_rfl) [.ret _ _ _ c0,tF,.ret _ _ _ c1,.flat _ _ aE,tT,tT,tT,tF,tT] (by kernel_rfl)).to (by simp [wk,ax])
   ·skip
    exact (aF.ab (d:= .aC [.bool false,.int .i64 20]) mixed Tryz.func163 (by kernel_rfl) [.ret _ _ _ c0,tF,.ret _ _ _ c1,.flat _ _ aE,tT,tT,tT,tF,tT] (by kernel_rfl)).to (by simp [wk,ax])
  ·skip
   exact (aF.ab (d:= .aC [.bool false,.int .i64 20]) mixed Tryz.func163 (by kernel_rfl) [.ret _ _ _ c0,tF,.ret _ _ _ c1,.flat _ _ aE,tT,tT,tT,tF,tT] (by kernel_rfl)).to (by simp [wk,ax])
 ·skip
  exact (aF.ab (d:= .aC [.bool false,.int .i64 20]) mixed Tryz.func163 (by kernel_rfl) [.ret _ _ _ c0,tF,.ret _ _ _ c1,.flat _ _ aE,tT,tT,tT,tF,tT] (by kernel_rfl)).to (by simp [wk,ax])
theorem xr {cc:Int} (h:fE cc=true):cc=2∨cc=3∨cc=4∨cc=5∨cc=6∨cc=7∨cc=12∨cc=13∨cc=14∨cc=15:=by
 simp only [fE,decide_eq_true_eq] at h;omega
theorem oY (cc:Int) (c z s o:Bool) (h:fE cc=true):aF Tryz.prog 163 [.int .i8 cc,fD true c z s o] (.aC [.bool (dC cc c z s o),.int .i64 0]):=by
 rcases xr h with rfl|rfl|rfl|rfl|rfl|rfl|rfl|rfl|rfl|rfl
 ·exact xh c z s o
 ·exact xg c z s o
 ·exact xf c z s o
 ·exact xe c z s o
 ·exact xd c z s o
 ·exact xc c z s o
 ·exact vu c z s o
 ·exact vt c z s o
 ·exact vr c z s o
 ·exact vq c z s o
theorem oZ (cc:Int) (c z s o:Bool) (h:fE cc=true):aF Tryz.prog 163 [.int .i8 cc,fD false c z s o] (.aC [.bool false,.int .i64 20]):=by
 rcases xr h with rfl|rfl|rfl|rfl|rfl|rfl|rfl|rfl|rfl|rfl
 ·exact vp c z s o
 ·exact vo c z s o
 ·exact vn c z s o
 ·exact vm c z s o
 ·exact vk c z s o
 ·exact vj c z s o
 ·exact ss c z s o
 ·exact sr c z s o
 ·exact sq c z s o
 ·exact so c z s o
theorem y7 (q0 q1 q2 q3 q4 q5 q6 q7 q8 q9 bQ bU bZ bX bW bV MW:Int) (fk fc fz fs fo:Bool) (w dst src base aa ai cc ld:Int) (d0:0≤dst) (d1:dst≤15) (s0:0≤src) (s1:src≤15) (b0:0≤base) (b1:base≤15) (hm:ct 24 w dst src base aa ai cc=true) (hd:(aV (rg [q0,q1,q2,q3,q4,q5,q6,q7,q8,q9,bQ,bU,bZ,bX,bW,bV] dst) w==0)=false) (hz:(aV q2 w==0)=true):aF Tryz.prog 83 ([.agg [.int .u64 q0,.int .u64 q1,.int .u64 q2,.int .u64 q3,.int .u64 q4,.int .u64 q5,.int .u64 q6,.int .u64 q7,.int .u64 q8,.int .u64 q9,.int .u64 bQ,.int .u64 bU,.int .u64 bZ,.int .u64 bX,.int .u64 bW,.int .u64 bV,.bool fk,.bool fc,.bool fz,.bool fs,.bool fo,.int .u64 (MW)],xD 24 w dst src base aa ai cc,.int .u64 ld]) (.aC [.agg [.int .u64 (u64 ((aV q0 w).tdiv (aV (rg [q0,q1,q2,q3,q4,q5,q6,q7,q8,q9,bQ,bU,bZ,bX,bW,bV] dst) w))),.int .u64 q1,.int .u64 ((aV q0 w).tmod (aV (rg [q0,q1,q2,q3,q4,q5,q6,q7,q8,q9,bQ,bU,bZ,bX,bW,bV] dst) w)),.int .u64 q3,.int .u64 q4,.int .u64 q5,.int .u64 q6,.int .u64 q7,.int .u64 q8,.int .u64 q9,.int .u64 bQ,.int .u64 bU,.int .u64 bZ,.int .u64 bX,.int .u64 bW,.int .u64 bV,.bool false,.bool false,.bool false,.bool false,.bool false,.int .u64 (u64 (MW+u64 (dJ 24 w dst src base aa ai cc)))],.int .i64 0]):=by
 have c0:= @aK 24 w dst src base aa ai cc (by decide)
 rw [show (ct 24 w dst src base aa ai cc)=true from hm] at c0
 have c1:= @b9 24 w dst src base aa ai cc (by decide)
 have c2:= @bP q0 w
 have c3:= @bP (rg [q0,q1,q2,q3,q4,q5,q6,q7,q8,q9,bQ,bU,bZ,bX,bW,bV] dst) w
 have c4:= @bP q2 w
 have c5:= @ck
 exact (j9 (d:= .aC [.agg [.int .u64 (T8.u64.wrap (Int.tdiv (aV q0 w) (aV (rg [q0,q1,q2,q3,q4,q5,q6,q7,q8,q9,bQ,bU,bZ,bX,bW,bV] dst) w))),.int .u64 q1,.int .u64 (Int.tmod (aV q0 w) (aV (rg [q0,q1,q2,q3,q4,q5,q6,q7,q8,q9,bQ,bU,bZ,bX,bW,bV] dst) w)),.int .u64 q3,.int .u64 q4,.int .u64 q5,.int .u64 q6,.int .u64 q7,.int .u64 q8,.int .u64 q9,.int .u64 bQ,.int .u64 bU,.int .u64 bZ,.int .u64 bX,.int .u64 bW,.int .u64 bV,.bool false,.bool false,.bool false,.bool false,.bool false,.int .u64 (T8.u64.wrap (MW+T8.u64.wrap (dJ 24 w dst src base aa ai cc)))],.int .i64 0]) ([.ret _ _ _ c0,tF,.ret _ _ _ c1,tT,.get ([D.fn (SB 117) [.ptr false 4 0] [],D.fn (SB 118) [.ptr false 4 0] [],D.aq,D.aq,D.aq,D.aq,D.aq,D.aq,D.aq,D.aq,D.aq,D.aq,D.aq,D.aq,D.aq,D.aq,D.aq,D.aq,D.aq,D.aq,D.aq,D.aq,D.aq,D.aq,D.fn (SB 119) [.ptr false 4 0] [],D.fn (SB 120) [.ptr false 4 0] [],D.fn (SB 121) [.ptr false 4 0] [],D.fn (SB 122) [.ptr false 4 0] [],D.fn (SB 123) [.ptr false 4 0] [],D.fn (SB 124) [.ptr false 4 0] [],D.fn (SB 125) [.ptr false 4 0] [],D.fn (SB 126) [.ptr false 4 0] []]) 24 (D.fn (SB 119) [.ptr false 4 0] []) rfl,tF,.inl,.ret _ _ _ c2,.cQ (decide (0≤dst∧dst<(↑(16:Nat):Int))) true (by (simp only [dX] at*;omega)),.get _ _ _ (@lW q0 q1 q2 q3 q4 q5 q6 q7 q8 q9 bQ bU bZ bX bW bV dst ([.bool fk,.bool fc,.bool fz,.bool fs,.bool fo,.int .u64 (T8.u64.wrap (MW+T8.u64.wrap (dJ 24 w dst src base aa ai cc))),.int .i8 24,.int .i8 w,.int .i8 dst,.int .i8 src,.int .i8 base,.int .i64 aa,.int .i64 ai,.int .i8 cc,.int .u64 ld]) d0 d1),.ret _ _ _ c3]++Sx 8 (tC (eF hd))++ [.ret _ _ _ c4,tC (eF hd),tC hd,tC (nt (dx 0 true (eq_of_beq hz))),tC (v:=true) (KV hd),tC (v:=true) (KV hd),.ret _ _ _ c5,tF]) (by kernel_rfl)).to (by first|((simp only [wk,ax,and_true];repeat' (first|rfl|exact Tf|apply S7));done)|(simp [wk,ax,u64,];done))
theorem xl (q0 q1 q2 q3 q4 q5 q6 q7 q8 q9 bQ bU bZ bX bW bV MW:Int) (fk fc fz fs fo:Bool) (w dst src base aa ai cc ld:Int) (d0:0≤dst) (d1:dst≤15) (s0:0≤src) (s1:src≤15) (b0:0≤base) (b1:base≤15) (hm:ct 24 w dst src base aa ai cc=true) (hd:(aV (rg [q0,q1,q2,q3,q4,q5,q6,q7,q8,q9,bQ,bU,bZ,bX,bW,bV] dst) w==0)=true):aF Tryz.prog 83 ([.agg [.int .u64 q0,.int .u64 q1,.int .u64 q2,.int .u64 q3,.int .u64 q4,.int .u64 q5,.int .u64 q6,.int .u64 q7,.int .u64 q8,.int .u64 q9,.int .u64 bQ,.int .u64 bU,.int .u64 bZ,.int .u64 bX,.int .u64 bW,.int .u64 bV,.bool fk,.bool fc,.bool fz,.bool fs,.bool fo,.int .u64 (MW)],xD 24 w dst src base aa ai cc,.int .u64 ld]) (.aC [.agg [.int .u64 (0),.int .u64 (0),.int .u64 (0),.int .u64 (0),.int .u64 (0),.int .u64 (0),.int .u64 (0),.int .u64 (0),.int .u64 (0),.int .u64 (0),.int .u64 (0),.int .u64 (0),.int .u64 (0),.int .u64 (0),.int .u64 (0),.int .u64 (0),.bool false,.bool false,.bool false,.bool false,.bool false,.int .u64 (0)],.int .i64 20]):=by
 have c0:= @aK 24 w dst src base aa ai cc (by decide)
 rw [show (ct 24 w dst src base aa ai cc)=true from hm] at c0
 have c1:= @b9 24 w dst src base aa ai cc (by decide)
 have c2:= @bP q0 w
 have c3:= @bP (rg [q0,q1,q2,q3,q4,q5,q6,q7,q8,q9,bQ,bU,bZ,bX,bW,bV] dst) w
 exact (j9 (d:= .aC [.agg [.int .u64 0,.int .u64 0,.int .u64 0,.int .u64 0,.int .u64 0,.int .u64 0,.int .u64 0,.int .u64 0,.int .u64 0,.int .u64 0,.int .u64 0,.int .u64 0,.int .u64 0,.int .u64 0,.int .u64 0,.int .u64 0,.bool false,.bool false,.bool false,.bool false,.bool false,.int .u64 0],.int .i64 20]) ([.ret _ _ _ c0,tF,.ret _ _ _ c1,tT,.get ([D.fn (SB 117) [.ptr false 4 0] [],D.fn (SB 118) [.ptr false 4 0] [],D.aq,D.aq,D.aq,D.aq,D.aq,D.aq,D.aq,D.aq,D.aq,D.aq,D.aq,D.aq,D.aq,D.aq,D.aq,D.aq,D.aq,D.aq,D.aq,D.aq,D.aq,D.aq,D.fn (SB 119) [.ptr false 4 0] [],D.fn (SB 120) [.ptr false 4 0] [],D.fn (SB 121) [.ptr false 4 0] [],D.fn (SB 122) [.ptr false 4 0] [],D.fn (SB 123) [.ptr false 4 0] [],D.fn (SB 124) [.ptr false 4 0] [],D.fn (SB 125) [.ptr false 4 0] [],D.fn (SB 126) [.ptr false 4 0] []]) 24 (D.fn (SB 119) [.ptr false 4 0] []) rfl,tF,.inl,.ret _ _ _ c2,.cQ (decide (0≤dst∧dst<(↑(16:Nat):Int))) true (by (simp only [dX] at*;omega)),.get _ _ _ (@lW q0 q1 q2 q3 q4 q5 q6 q7 q8 q9 bQ bU bZ bX bW bV dst ([.bool fk,.bool fc,.bool fz,.bool fs,.bool fo,.int .u64 (T8.u64.wrap (MW+T8.u64.wrap (dJ 24 w dst src base aa ai cc))),.int .i8 24,.int .i8 w,.int .i8 dst,.int .i8 src,.int .i8 base,.int .i64 aa,.int .i64 ai,.int .i8 cc,.int .u64 ld]) d0 d1),.ret _ _ _ c3]++Sx 9 (tC (eF (dx 0 true (eq_of_beq hd))))++ [tC (dx 0 true (eq_of_beq hd)),tT,tT]) (by kernel_rfl)).to (by first|((simp only [wk,ax,and_true];repeat' (first|rfl|exact Tf|apply S7));done)|(simp [wk,ax,u64,];done))
theorem xk (q0 q1 q2 q3 q4 q5 q6 q7 q8 q9 bQ bU bZ bX bW bV MW:Int) (fk fc fz fs fo:Bool) (w dst src base aa ai cc ld:Int) (d0:0≤dst) (d1:dst≤15) (s0:0≤src) (s1:src≤15) (b0:0≤base) (b1:base≤15) (hm:ct 24 w dst src base aa ai cc=true) (hd:(aV (rg [q0,q1,q2,q3,q4,q5,q6,q7,q8,q9,bQ,bU,bZ,bX,bW,bV] dst) w==0)=false) (hz:(aV q2 w==0)=false):aF Tryz.prog 83 ([.agg [.int .u64 q0,.int .u64 q1,.int .u64 q2,.int .u64 q3,.int .u64 q4,.int .u64 q5,.int .u64 q6,.int .u64 q7,.int .u64 q8,.int .u64 q9,.int .u64 bQ,.int .u64 bU,.int .u64 bZ,.int .u64 bX,.int .u64 bW,.int .u64 bV,.bool fk,.bool fc,.bool fz,.bool fs,.bool fo,.int .u64 (MW)],xD 24 w dst src base aa ai cc,.int .u64 ld]) (.aC [.agg [.int .u64 (0),.int .u64 (0),.int .u64 (0),.int .u64 (0),.int .u64 (0),.int .u64 (0),.int .u64 (0),.int .u64 (0),.int .u64 (0),.int .u64 (0),.int .u64 (0),.int .u64 (0),.int .u64 (0),.int .u64 (0),.int .u64 (0),.int .u64 (0),.bool false,.bool false,.bool false,.bool false,.bool false,.int .u64 (0)],.int .i64 20]):=by
 have c0:= @aK 24 w dst src base aa ai cc (by decide)
 rw [show (ct 24 w dst src base aa ai cc)=true from hm] at c0
 have c1:= @b9 24 w dst src base aa ai cc (by decide)
 have c2:= @bP q0 w
 have c3:= @bP (rg [q0,q1,q2,q3,q4,q5,q6,q7,q8,q9,bQ,bU,bZ,bX,bW,bV] dst) w
 have c4:= @bP q2 w
 exact (j9 (d:= .aC [.agg [.int .u64 0,.int .u64 0,.int .u64 0,.int .u64 0,.int .u64 0,.int .u64 0,.int .u64 0,.int .u64 0,.int .u64 0,.int .u64 0,.int .u64 0,.int .u64 0,.int .u64 0,.int .u64 0,.int .u64 0,.int .u64 0,.bool false,.bool false,.bool false,.bool false,.bool false,.int .u64 0],.int .i64 20]) ([.ret _ _ _ c0,tF,.ret _ _ _ c1,tT,.get ([D.fn (SB 117) [.ptr false 4 0] [],D.fn (SB 118) [.ptr false 4 0] [],D.aq,D.aq,D.aq,D.aq,D.aq,D.aq,D.aq,D.aq,D.aq,D.aq,D.aq,D.aq,D.aq,D.aq,D.aq,D.aq,D.aq,D.aq,D.aq,D.aq,D.aq,D.aq,D.fn (SB 119) [.ptr false 4 0] [],D.fn (SB 120) [.ptr false 4 0] [],D.fn (SB 121) [.ptr false 4 0] [],D.fn (SB 122) [.ptr false 4 0] [],D.fn (SB 123) [.ptr false 4 0] [],D.fn (SB 124) [.ptr false 4 0] [],D.fn (SB 125) [.ptr false 4 0] [],D.fn (SB 126) [.ptr false 4 0] []]) 24 (D.fn (SB 119) [.ptr false 4 0] []) rfl,tF,.inl,.ret _ _ _ c2,.cQ (decide (0≤dst∧dst<(↑(16:Nat):Int))) true (by (simp only [dX] at*;omega)),.get _ _ _ (@lW q0 q1 q2 q3 q4 q5 q6 q7 q8 q9 bQ bU bZ bX bW bV dst ([.bool fk,.bool fc,.bool fz,.bool fs,.bool fo,.int .u64 (T8.u64.wrap (MW+T8.u64.wrap (dJ 24 w dst src base aa ai cc))),.int .i8 24,.int .i8 w,.int .i8 dst,.int .i8 src,.int .i8 base,.int .i64 aa,.int .i64 ai,.int .i8 cc,.int .u64 ld]) d0 d1),.ret _ _ _ c3]++Sx 8 (tC (eF hd))++ [.ret _ _ _ c4,tC (eF hd),tC hd,tC (nt hz),tT]) (by kernel_rfl)).to (by first|((simp only [wk,ax,and_true];repeat' (first|rfl|exact Tf|apply S7));done)|(simp [wk,ax,u64,];done))
theorem y6 (q0 q1 q2 q3 q4 q5 q6 q7 q8 q9 bQ bU bZ bX bW bV MW:Int) (fc fz fs fo:Bool) (w dst src base aa ai cc ld:Int) (d0:0≤dst) (d1:dst≤15) (s0:0≤src) (s1:src≤15) (b0:0≤base) (b1:base≤15) (hm:ct 25 w dst src base aa ai cc=true) (L7:fE cc=true):aF Tryz.prog 83 ([.agg [.int .u64 q0,.int .u64 q1,.int .u64 q2,.int .u64 q3,.int .u64 q4,.int .u64 q5,.int .u64 q6,.int .u64 q7,.int .u64 q8,.int .u64 q9,.int .u64 bQ,.int .u64 bU,.int .u64 bZ,.int .u64 bX,.int .u64 bW,.int .u64 bV,.bool true,.bool fc,.bool fz,.bool fs,.bool fo,.int .u64 (MW)],xD 25 w dst src base aa ai cc,.int .u64 ld]) (.aC [.agg [.int .u64 (st 0 dst (aV (if dC cc fc fz fs fo then rg [q0,q1,q2,q3,q4,q5,q6,q7,q8,q9,bQ,bU,bZ,bX,bW,bV] src else rg [q0,q1,q2,q3,q4,q5,q6,q7,q8,q9,bQ,bU,bZ,bX,bW,bV] dst) w) q0),.int .u64 (st 1 dst (aV (if dC cc fc fz fs fo then rg [q0,q1,q2,q3,q4,q5,q6,q7,q8,q9,bQ,bU,bZ,bX,bW,bV] src else rg [q0,q1,q2,q3,q4,q5,q6,q7,q8,q9,bQ,bU,bZ,bX,bW,bV] dst) w) q1),.int .u64 (st 2 dst (aV (if dC cc fc fz fs fo then rg [q0,q1,q2,q3,q4,q5,q6,q7,q8,q9,bQ,bU,bZ,bX,bW,bV] src else rg [q0,q1,q2,q3,q4,q5,q6,q7,q8,q9,bQ,bU,bZ,bX,bW,bV] dst) w) q2),.int .u64 (st 3 dst (aV (if dC cc fc fz fs fo then rg [q0,q1,q2,q3,q4,q5,q6,q7,q8,q9,bQ,bU,bZ,bX,bW,bV] src else rg [q0,q1,q2,q3,q4,q5,q6,q7,q8,q9,bQ,bU,bZ,bX,bW,bV] dst) w) q3),.int .u64 (st 4 dst (aV (if dC cc fc fz fs fo then rg [q0,q1,q2,q3,q4,q5,q6,q7,q8,q9,bQ,bU,bZ,bX,bW,bV] src else rg [q0,q1,q2,q3,q4,q5,q6,q7,q8,q9,bQ,bU,bZ,bX,bW,bV] dst) w) q4),.int .u64 (st 5 dst (aV (if dC cc fc fz fs fo then rg [q0,q1,q2,q3,q4,q5,q6,q7,q8,q9,bQ,bU,bZ,bX,bW,bV] src else rg [q0,q1,q2,q3,q4,q5,q6,q7,q8,q9,bQ,bU,bZ,bX,bW,bV] dst) w) q5),.int .u64 (st 6 dst (aV (if dC cc fc fz fs fo then rg [q0,q1,q2,q3,q4,q5,q6,q7,q8,q9,bQ,bU,bZ,bX,bW,bV] src else rg [q0,q1,q2,q3,q4,q5,q6,q7,q8,q9,bQ,bU,bZ,bX,bW,bV] dst) w) q6),.int .u64 (st 7 dst (aV (if dC cc fc fz fs fo then rg [q0,q1,q2,q3,q4,q5,q6,q7,q8,q9,bQ,bU,bZ,bX,bW,bV] src else rg [q0,q1,q2,q3,q4,q5,q6,q7,q8,q9,bQ,bU,bZ,bX,bW,bV] dst) w) q7),.int .u64 (st 8 dst (aV (if dC cc fc fz fs fo then rg [q0,q1,q2,q3,q4,q5,q6,q7,q8,q9,bQ,bU,bZ,bX,bW,bV] src else rg [q0,q1,q2,q3,q4,q5,q6,q7,q8,q9,bQ,bU,bZ,bX,bW,bV] dst) w) q8),.int .u64 (st 9 dst (aV (if dC cc fc fz fs fo then rg [q0,q1,q2,q3,q4,q5,q6,q7,q8,q9,bQ,bU,bZ,bX,bW,bV] src else rg [q0,q1,q2,q3,q4,q5,q6,q7,q8,q9,bQ,bU,bZ,bX,bW,bV] dst) w) q9),.int .u64 (st 10 dst (aV (if dC cc fc fz fs fo then rg [q0,q1,q2,q3,q4,q5,q6,q7,q8,q9,bQ,bU,bZ,bX,bW,bV] src else rg [q0,q1,q2,q3,q4,q5,q6,q7,q8,q9,bQ,bU,bZ,bX,bW,bV] dst) w) bQ),.int .u64 (st 11 dst (aV (if dC cc fc fz fs fo then rg [q0,q1,q2,q3,q4,q5,q6,q7,q8,q9,bQ,bU,bZ,bX,bW,bV] src else rg [q0,q1,q2,q3,q4,q5,q6,q7,q8,q9,bQ,bU,bZ,bX,bW,bV] dst) w) bU),.int .u64 (st 12 dst (aV (if dC cc fc fz fs fo then rg [q0,q1,q2,q3,q4,q5,q6,q7,q8,q9,bQ,bU,bZ,bX,bW,bV] src else rg [q0,q1,q2,q3,q4,q5,q6,q7,q8,q9,bQ,bU,bZ,bX,bW,bV] dst) w) bZ),.int .u64 (st 13 dst (aV (if dC cc fc fz fs fo then rg [q0,q1,q2,q3,q4,q5,q6,q7,q8,q9,bQ,bU,bZ,bX,bW,bV] src else rg [q0,q1,q2,q3,q4,q5,q6,q7,q8,q9,bQ,bU,bZ,bX,bW,bV] dst) w) bX),.int .u64 (st 14 dst (aV (if dC cc fc fz fs fo then rg [q0,q1,q2,q3,q4,q5,q6,q7,q8,q9,bQ,bU,bZ,bX,bW,bV] src else rg [q0,q1,q2,q3,q4,q5,q6,q7,q8,q9,bQ,bU,bZ,bX,bW,bV] dst) w) bW),.int .u64 (st 15 dst (aV (if dC cc fc fz fs fo then rg [q0,q1,q2,q3,q4,q5,q6,q7,q8,q9,bQ,bU,bZ,bX,bW,bV] src else rg [q0,q1,q2,q3,q4,q5,q6,q7,q8,q9,bQ,bU,bZ,bX,bW,bV] dst) w) bV),.bool true,.bool fc,.bool fz,.bool fs,.bool fo,.int .u64 (u64 (MW+u64 (dJ 25 w dst src base aa ai cc)))],.int .i64 0]):=by
 have c0:= @aK 25 w dst src base aa ai cc (by decide)
 rw [show (ct 25 w dst src base aa ai cc)=true from hm] at c0
 have c1:= @b9 25 w dst src base aa ai cc (by decide)
 have c2:= @oY cc fc fz fs fo L7
 let E1:EL:= [.ret _ _ _ c0,tF,.ret _ _ _ c1,tT,.get ([D.fn (SB 117) [.ptr false 4 0] [],D.fn (SB 118) [.ptr false 4 0] [],D.aq,D.aq,D.aq,D.aq,D.aq,D.aq,D.aq,D.aq,D.aq,D.aq,D.aq,D.aq,D.aq,D.aq,D.aq,D.aq,D.aq,D.aq,D.aq,D.aq,D.aq,D.aq,D.fn (SB 119) [.ptr false 4 0] [],D.fn (SB 120) [.ptr false 4 0] [],D.fn (SB 121) [.ptr false 4 0] [],D.fn (SB 122) [.ptr false 4 0] [],D.fn (SB 123) [.ptr false 4 0] [],D.fn (SB 124) [.ptr false 4 0] [],D.fn (SB 125) [.ptr false 4 0] [],D.fn (SB 126) [.ptr false 4 0] []]) 25 (D.fn (SB 120) [.ptr false 4 0] []) rfl,tF,.inl,.inl,.ret _ _ _ c2,tF]
 rcases ef (dC cc fc fz fs fo) with h3|h3
 ·have c4:= @bP (rg [q0,q1,q2,q3,q4,q5,q6,q7,q8,q9,bQ,bU,bZ,bX,bW,bV] src) w
  exact (j9 (d:= .aC [.agg [.int .u64 (st 0 dst (aV (rg [q0,q1,q2,q3,q4,q5,q6,q7,q8,q9,bQ,bU,bZ,bX,bW,bV] src) w) q0),.int .u64 (st 1 dst (aV (rg [q0,q1,q2,q3,q4,q5,q6,q7,q8,q9,bQ,bU,bZ,bX,bW,bV] src) w) q1),.int .u64 (st 2 dst (aV (rg [q0,q1,q2,q3,q4,q5,q6,q7,q8,q9,bQ,bU,bZ,bX,bW,bV] src) w) q2),.int .u64 (st 3 dst (aV (rg [q0,q1,q2,q3,q4,q5,q6,q7,q8,q9,bQ,bU,bZ,bX,bW,bV] src) w) q3),.int .u64 (st 4 dst (aV (rg [q0,q1,q2,q3,q4,q5,q6,q7,q8,q9,bQ,bU,bZ,bX,bW,bV] src) w) q4),.int .u64 (st 5 dst (aV (rg [q0,q1,q2,q3,q4,q5,q6,q7,q8,q9,bQ,bU,bZ,bX,bW,bV] src) w) q5),.int .u64 (st 6 dst (aV (rg [q0,q1,q2,q3,q4,q5,q6,q7,q8,q9,bQ,bU,bZ,bX,bW,bV] src) w) q6),.int .u64 (st 7 dst (aV (rg [q0,q1,q2,q3,q4,q5,q6,q7,q8,q9,bQ,bU,bZ,bX,bW,bV] src) w) q7),.int .u64 (st 8 dst (aV (rg [q0,q1,q2,q3,q4,q5,q6,q7,q8,q9,bQ,bU,bZ,bX,bW,bV] src) w) q8),.int .u64 (st 9 dst (aV (rg [q0,q1,q2,q3,q4,q5,q6,q7,q8,q9,bQ,bU,bZ,bX,bW,bV] src) w) q9),.int .u64 (st 10 dst (aV (rg [q0,q1,q2,q3,q4,q5,q6,q7,q8,q9,bQ,bU,bZ,bX,bW,bV] src) w) bQ),.int .u64 (st 11 dst (aV (rg [q0,q1,q2,q3,q4,q5,q6,q7,q8,q9,bQ,bU,bZ,bX,bW,bV] src) w) bU),.int .u64 (st 12 dst (aV (rg [q0,q1,q2,q3,q4,q5,q6,q7,q8,q9,bQ,bU,bZ,bX,bW,bV] src) w) bZ),.int .u64 (st 13 dst (aV (rg [q0,q1,q2,q3,q4,q5,q6,q7,q8,q9,bQ,bU,bZ,bX,bW,bV] src) w) bX),.int .u64 (st 14 dst (aV (rg [q0,q1,q2,q3,q4,q5,q6,q7,q8,q9,bQ,bU,bZ,bX,bW,bV] src) w) bW),.int .u64 (st 15 dst (aV (rg [q0,q1,q2,q3,q4,q5,q6,q7,q8,q9,bQ,bU,bZ,bX,bW,bV] src) w) bV),.bool true,.bool fc,.bool fz,.bool fs,.bool fo,.int .u64 (T8.u64.wrap (MW+T8.u64.wrap (dJ 25 w dst src base aa ai cc)))],.int .i64 0]) (E1++ [tC h3,.inl,.cQ (decide (0≤src∧src<(↑(16:Nat):Int))) true (by (simp only [dX] at*;omega)),.get _ _ _ (@lW q0 q1 q2 q3 q4 q5 q6 q7 q8 q9 bQ bU bZ bX bW bV src ([.bool true,.bool fc,.bool fz,.bool fs,.bool fo,.int .u64 (T8.u64.wrap (MW+T8.u64.wrap (dJ 25 w dst src base aa ai cc))),.int .i8 25,.int .i8 w,.int .i8 dst,.int .i8 src,.int .i8 base,.int .i64 aa,.int .i64 ai,.int .i8 cc,.int .u64 ld]) s0 s1),.inl,.ret _ _ _ c4,.cQ (decide (0≤dst∧dst<(↑(16:Nat):Int))) true (by (simp only [dX] at*;omega)),.cg _ _ _ _ (@uG q0 q1 q2 q3 q4 q5 q6 q7 q8 q9 bQ bU bZ bX bW bV dst (aV (rg [q0,q1,q2,q3,q4,q5,q6,q7,q8,q9,bQ,bU,bZ,bX,bW,bV] src) w) ([.bool true,.bool fc,.bool fz,.bool fs,.bool fo,.int .u64 (T8.u64.wrap (MW+T8.u64.wrap (dJ 25 w dst src base aa ai cc))),.int .i8 25,.int .i8 w,.int .i8 dst,.int .i8 src,.int .i8 base,.int .i64 aa,.int .i64 ai,.int .i8 cc,.int .u64 ld]) d0 d1),tF]) (by kernel_rfl)).to (by clear E1;first|((simp only [wk,ax,and_true];repeat' (first|rfl|exact Tf|apply S7));done)|(simp [wk,ax,u64,h3];done))
 have c5:= @bP (rg [q0,q1,q2,q3,q4,q5,q6,q7,q8,q9,bQ,bU,bZ,bX,bW,bV] dst) w
 exact (j9 (d:= .aC [.agg [.int .u64 (st 0 dst (aV (rg [q0,q1,q2,q3,q4,q5,q6,q7,q8,q9,bQ,bU,bZ,bX,bW,bV] dst) w) q0),.int .u64 (st 1 dst (aV (rg [q0,q1,q2,q3,q4,q5,q6,q7,q8,q9,bQ,bU,bZ,bX,bW,bV] dst) w) q1),.int .u64 (st 2 dst (aV (rg [q0,q1,q2,q3,q4,q5,q6,q7,q8,q9,bQ,bU,bZ,bX,bW,bV] dst) w) q2),.int .u64 (st 3 dst (aV (rg [q0,q1,q2,q3,q4,q5,q6,q7,q8,q9,bQ,bU,bZ,bX,bW,bV] dst) w) q3),.int .u64 (st 4 dst (aV (rg [q0,q1,q2,q3,q4,q5,q6,q7,q8,q9,bQ,bU,bZ,bX,bW,bV] dst) w) q4),.int .u64 (st 5 dst (aV (rg [q0,q1,q2,q3,q4,q5,q6,q7,q8,q9,bQ,bU,bZ,bX,bW,bV] dst) w) q5),.int .u64 (st 6 dst (aV (rg [q0,q1,q2,q3,q4,q5,q6,q7,q8,q9,bQ,bU,bZ,bX,bW,bV] dst) w) q6),.int .u64 (st 7 dst (aV (rg [q0,q1,q2,q3,q4,q5,q6,q7,q8,q9,bQ,bU,bZ,bX,bW,bV] dst) w) q7),.int .u64 (st 8 dst (aV (rg [q0,q1,q2,q3,q4,q5,q6,q7,q8,q9,bQ,bU,bZ,bX,bW,bV] dst) w) q8),.int .u64 (st 9 dst (aV (rg [q0,q1,q2,q3,q4,q5,q6,q7,q8,q9,bQ,bU,bZ,bX,bW,bV] dst) w) q9),.int .u64 (st 10 dst (aV (rg [q0,q1,q2,q3,q4,q5,q6,q7,q8,q9,bQ,bU,bZ,bX,bW,bV] dst) w) bQ),.int .u64 (st 11 dst (aV (rg [q0,q1,q2,q3,q4,q5,q6,q7,q8,q9,bQ,bU,bZ,bX,bW,bV] dst) w) bU),.int .u64 (st 12 dst (aV (rg [q0,q1,q2,q3,q4,q5,q6,q7,q8,q9,bQ,bU,bZ,bX,bW,bV] dst) w) bZ),.int .u64 (st 13 dst (aV (rg [q0,q1,q2,q3,q4,q5,q6,q7,q8,q9,bQ,bU,bZ,bX,bW,bV] dst) w) bX),.int .u64 (st 14 dst (aV (rg [q0,q1,q2,q3,q4,q5,q6,q7,q8,q9,bQ,bU,bZ,bX,bW,bV] dst) w) bW),.int .u64 (st 15 dst (aV (rg [q0,q1,q2,q3,q4,q5,q6,q7,q8,q9,bQ,bU,bZ,bX,bW,bV] dst) w) bV),.bool true,.bool fc,.bool fz,.bool fs,.bool fo,.int .u64 (T8.u64.wrap (MW+T8.u64.wrap (dJ 25 w dst src base aa ai cc)))],.int .i64 0]) (E1++ [tC h3,.cQ (decide (0≤dst∧dst<(↑(16:Nat):Int))) true (by (simp only [dX] at*;omega)),.get _ _ _ (@lW q0 q1 q2 q3 q4 q5 q6 q7 q8 q9 bQ bU bZ bX bW bV dst ([.bool true,.bool fc,.bool fz,.bool fs,.bool fo,.int .u64 (T8.u64.wrap (MW+T8.u64.wrap (dJ 25 w dst src base aa ai cc))),.int .i8 25,.int .i8 w,.int .i8 dst,.int .i8 src,.int .i8 base,.int .i64 aa,.int .i64 ai,.int .i8 cc,.int .u64 ld]) d0 d1),.inl,.ret _ _ _ c5,.cQ (decide (0≤dst∧dst<(↑(16:Nat):Int))) true (by (simp only [dX] at*;omega)),.cg _ _ _ _ (@uG q0 q1 q2 q3 q4 q5 q6 q7 q8 q9 bQ bU bZ bX bW bV dst (aV (rg [q0,q1,q2,q3,q4,q5,q6,q7,q8,q9,bQ,bU,bZ,bX,bW,bV] dst) w) ([.bool true,.bool fc,.bool fz,.bool fs,.bool fo,.int .u64 (T8.u64.wrap (MW+T8.u64.wrap (dJ 25 w dst src base aa ai cc))),.int .i8 25,.int .i8 w,.int .i8 dst,.int .i8 src,.int .i8 base,.int .i64 aa,.int .i64 ai,.int .i8 cc,.int .u64 ld]) d0 d1),tF]) (by kernel_rfl)).to (by clear E1;first|((simp only [wk,ax,and_true];repeat' (first|rfl|exact Tf|apply S7));done)|(simp [wk,ax,u64,h3];done))
theorem xj (q0 q1 q2 q3 q4 q5 q6 q7 q8 q9 bQ bU bZ bX bW bV MW:Int) (fc fz fs fo:Bool) (w dst src base aa ai cc ld:Int) (d0:0≤dst) (d1:dst≤15) (s0:0≤src) (s1:src≤15) (b0:0≤base) (b1:base≤15) (hm:ct 25 w dst src base aa ai cc=true) (L7:fE cc=true):aF Tryz.prog 83 ([.agg [.int .u64 q0,.int .u64 q1,.int .u64 q2,.int .u64 q3,.int .u64 q4,.int .u64 q5,.int .u64 q6,.int .u64 q7,.int .u64 q8,.int .u64 q9,.int .u64 bQ,.int .u64 bU,.int .u64 bZ,.int .u64 bX,.int .u64 bW,.int .u64 bV,.bool false,.bool fc,.bool fz,.bool fs,.bool fo,.int .u64 (MW)],xD 25 w dst src base aa ai cc,.int .u64 ld]) (.aC [.agg [.int .u64 (0),.int .u64 (0),.int .u64 (0),.int .u64 (0),.int .u64 (0),.int .u64 (0),.int .u64 (0),.int .u64 (0),.int .u64 (0),.int .u64 (0),.int .u64 (0),.int .u64 (0),.int .u64 (0),.int .u64 (0),.int .u64 (0),.int .u64 (0),.bool false,.bool false,.bool false,.bool false,.bool false,.int .u64 (0)],.int .i64 20]):=by
 have c0:= @aK 25 w dst src base aa ai cc (by decide)
 rw [show (ct 25 w dst src base aa ai cc)=true from hm] at c0
 have c1:= @b9 25 w dst src base aa ai cc (by decide)
 have c2:= @oZ cc fc fz fs fo L7
 exact (j9 (d:= .aC [.agg [.int .u64 0,.int .u64 0,.int .u64 0,.int .u64 0,.int .u64 0,.int .u64 0,.int .u64 0,.int .u64 0,.int .u64 0,.int .u64 0,.int .u64 0,.int .u64 0,.int .u64 0,.int .u64 0,.int .u64 0,.int .u64 0,.bool false,.bool false,.bool false,.bool false,.bool false,.int .u64 0],.int .i64 20]) [.ret _ _ _ c0,tF,.ret _ _ _ c1,tT,.get ([D.fn (SB 117) [.ptr false 4 0] [],D.fn (SB 118) [.ptr false 4 0] [],D.aq,D.aq,D.aq,D.aq,D.aq,D.aq,D.aq,D.aq,D.aq,D.aq,D.aq,D.aq,D.aq,D.aq,D.aq,D.aq,D.aq,D.aq,D.aq,D.aq,D.aq,D.aq,D.fn (SB 119) [.ptr false 4 0] [],D.fn (SB 120) [.ptr false 4 0] [],D.fn (SB 121) [.ptr false 4 0] [],D.fn (SB 122) [.ptr false 4 0] [],D.fn (SB 123) [.ptr false 4 0] [],D.fn (SB 124) [.ptr false 4 0] [],D.fn (SB 125) [.ptr false 4 0] [],D.fn (SB 126) [.ptr false 4 0] []]) 25 (D.fn (SB 120) [.ptr false 4 0] []) rfl,tF,.inl,.inl,.ret _ _ _ c2,tT,tT] (by kernel_rfl)).to (by first|((simp only [wk,ax,and_true];repeat' (first|rfl|exact Tf|apply S7));done)|(simp [wk,ax,u64,];done))
theorem yW (q0 q1 q2 q3 q4 q5 q6 q7 q8 q9 bQ bU bZ bX bW bV MW:Int) (fc fz fs fo:Bool) (w dst src base aa ai cc ld:Int) (d0:0≤dst) (d1:dst≤15) (s0:0≤src) (s1:src≤15) (b0:0≤base) (b1:base≤15) (hm:ct 29 w dst src base aa ai cc=true) (L7:fE cc=true):aF Tryz.prog 83 ([.agg [.int .u64 q0,.int .u64 q1,.int .u64 q2,.int .u64 q3,.int .u64 q4,.int .u64 q5,.int .u64 q6,.int .u64 q7,.int .u64 q8,.int .u64 q9,.int .u64 bQ,.int .u64 bU,.int .u64 bZ,.int .u64 bX,.int .u64 bW,.int .u64 bV,.bool true,.bool fc,.bool fz,.bool fs,.bool fo,.int .u64 (MW)],xD 29 w dst src base aa ai cc,.int .u64 ld]) (.aC [.agg [.int .u64 q0,.int .u64 q1,.int .u64 q2,.int .u64 q3,.int .u64 q4,.int .u64 q5,.int .u64 q6,.int .u64 q7,.int .u64 q8,.int .u64 q9,.int .u64 bQ,.int .u64 bU,.int .u64 bZ,.int .u64 bX,.int .u64 bW,.int .u64 bV,.bool true,.bool fc,.bool fz,.bool fs,.bool fo,.int .u64 (if dC cc fc fz fs fo then u64 (u64 (MW+u64 (dJ 29 w dst src base aa ai cc))+u64 ai) else u64 (MW+u64 (dJ 29 w dst src base aa ai cc)))],.int .i64 0]):=by
 have c0:= @aK 29 w dst src base aa ai cc (by decide)
 rw [show (ct 29 w dst src base aa ai cc)=true from hm] at c0
 have c1:= @b9 29 w dst src base aa ai cc (by decide)
 have c2:= @oY cc fc fz fs fo L7
 let E1:EL:= [.ret _ _ _ c0,tF,.ret _ _ _ c1,tT,.get ([D.fn (SB 117) [.ptr false 4 0] [],D.fn (SB 118) [.ptr false 4 0] [],D.aq,D.aq,D.aq,D.aq,D.aq,D.aq,D.aq,D.aq,D.aq,D.aq,D.aq,D.aq,D.aq,D.aq,D.aq,D.aq,D.aq,D.aq,D.aq,D.aq,D.aq,D.aq,D.fn (SB 119) [.ptr false 4 0] [],D.fn (SB 120) [.ptr false 4 0] [],D.fn (SB 121) [.ptr false 4 0] [],D.fn (SB 122) [.ptr false 4 0] [],D.fn (SB 123) [.ptr false 4 0] [],D.fn (SB 124) [.ptr false 4 0] [],D.fn (SB 125) [.ptr false 4 0] [],D.fn (SB 126) [.ptr false 4 0] []]) 29 (D.fn (SB 124) [.ptr false 4 0] []) rfl,tF,.inl,.inl,.ret _ _ _ c2,tF]
 rcases ef (dC cc fc fz fs fo) with h3|h3
 ·exact (j9 (d:= .aC [.agg [.int .u64 q0,.int .u64 q1,.int .u64 q2,.int .u64 q3,.int .u64 q4,.int .u64 q5,.int .u64 q6,.int .u64 q7,.int .u64 q8,.int .u64 q9,.int .u64 bQ,.int .u64 bU,.int .u64 bZ,.int .u64 bX,.int .u64 bW,.int .u64 bV,.bool true,.bool fc,.bool fz,.bool fs,.bool fo,.int .u64 (T8.u64.wrap (T8.u64.wrap (MW+T8.u64.wrap (dJ 29 w dst src base aa ai cc))+T8.u64.wrap ai))],.int .i64 0]) (E1++ [tC h3,.inl,tF]) (by kernel_rfl)).to (by clear E1;first|((simp only [wk,ax,and_true];repeat' (first|rfl|exact Tf|apply S7));done)|(simp [wk,ax,u64,h3];done))
 exact (j9 (d:= .aC [.agg [.int .u64 q0,.int .u64 q1,.int .u64 q2,.int .u64 q3,.int .u64 q4,.int .u64 q5,.int .u64 q6,.int .u64 q7,.int .u64 q8,.int .u64 q9,.int .u64 bQ,.int .u64 bU,.int .u64 bZ,.int .u64 bX,.int .u64 bW,.int .u64 bV,.bool true,.bool fc,.bool fz,.bool fs,.bool fo,.int .u64 (T8.u64.wrap (MW+T8.u64.wrap (dJ 29 w dst src base aa ai cc)))],.int .i64 0]) (E1++ [tC h3,tF]) (by kernel_rfl)).to (by clear E1;first|((simp only [wk,ax,and_true];repeat' (first|rfl|exact Tf|apply S7));done)|(simp [wk,ax,u64,h3];done))
theorem xi (q0 q1 q2 q3 q4 q5 q6 q7 q8 q9 bQ bU bZ bX bW bV MW:Int) (fc fz fs fo:Bool) (w dst src base aa ai cc ld:Int) (d0:0≤dst) (d1:dst≤15) (s0:0≤src) (s1:src≤15) (b0:0≤base) (b1:base≤15) (hm:ct 29 w dst src base aa ai cc=true) (L7:fE cc=true):aF Tryz.prog 83 ([.agg [.int .u64 q0,.int .u64 q1,.int .u64 q2,.int .u64 q3,.int .u64 q4,.int .u64 q5,.int .u64 q6,.int .u64 q7,.int .u64 q8,.int .u64 q9,.int .u64 bQ,.int .u64 bU,.int .u64 bZ,.int .u64 bX,.int .u64 bW,.int .u64 bV,.bool false,.bool fc,.bool fz,.bool fs,.bool fo,.int .u64 (MW)],xD 29 w dst src base aa ai cc,.int .u64 ld]) (.aC [.agg [.int .u64 (0),.int .u64 (0),.int .u64 (0),.int .u64 (0),.int .u64 (0),.int .u64 (0),.int .u64 (0),.int .u64 (0),.int .u64 (0),.int .u64 (0),.int .u64 (0),.int .u64 (0),.int .u64 (0),.int .u64 (0),.int .u64 (0),.int .u64 (0),.bool false,.bool false,.bool false,.bool false,.bool false,.int .u64 (0)],.int .i64 20]):=by
 have c0:= @aK 29 w dst src base aa ai cc (by decide)
 rw [show (ct 29 w dst src base aa ai cc)=true from hm] at c0
 have c1:= @b9 29 w dst src base aa ai cc (by decide)
 have c2:= @oZ cc fc fz fs fo L7
 exact (j9 (d:= .aC [.agg [.int .u64 0,.int .u64 0,.int .u64 0,.int .u64 0,.int .u64 0,.int .u64 0,.int .u64 0,.int .u64 0,.int .u64 0,.int .u64 0,.int .u64 0,.int .u64 0,.int .u64 0,.int .u64 0,.int .u64 0,.int .u64 0,.bool false,.bool false,.bool false,.bool false,.bool false,.int .u64 0],.int .i64 20]) [.ret _ _ _ c0,tF,.ret _ _ _ c1,tT,.get ([D.fn (SB 117) [.ptr false 4 0] [],D.fn (SB 118) [.ptr false 4 0] [],D.aq,D.aq,D.aq,D.aq,D.aq,D.aq,D.aq,D.aq,D.aq,D.aq,D.aq,D.aq,D.aq,D.aq,D.aq,D.aq,D.aq,D.aq,D.aq,D.aq,D.aq,D.aq,D.fn (SB 119) [.ptr false 4 0] [],D.fn (SB 120) [.ptr false 4 0] [],D.fn (SB 121) [.ptr false 4 0] [],D.fn (SB 122) [.ptr false 4 0] [],D.fn (SB 123) [.ptr false 4 0] [],D.fn (SB 124) [.ptr false 4 0] [],D.fn (SB 125) [.ptr false 4 0] [],D.fn (SB 126) [.ptr false 4 0] []]) 29 (D.fn (SB 124) [.ptr false 4 0] []) rfl,tF,.inl,.inl,.ret _ _ _ c2,tT,tT] (by kernel_rfl)).to (by first|((simp only [wk,ax,and_true];repeat' (first|rfl|exact Tf|apply S7));done)|(simp [wk,ax,u64,];done))
theorem yT (q0 q1 q2 q3 q4 q5 q6 q7 q8 q9 bQ bU bZ bX bW bV MW:Int) (fk fc fz fs fo:Bool) (op w dst src base aa ai cc ld:Int)(ho:op≤127) (hm:ct op w dst src base aa ai cc=false):aF Tryz.prog 83 ([.agg [.int .u64 q0,.int .u64 q1,.int .u64 q2,.int .u64 q3,.int .u64 q4,.int .u64 q5,.int .u64 q6,.int .u64 q7,.int .u64 q8,.int .u64 q9,.int .u64 bQ,.int .u64 bU,.int .u64 bZ,.int .u64 bX,.int .u64 bW,.int .u64 bV,.bool fk,.bool fc,.bool fz,.bool fs,.bool fo,.int .u64 (MW)],xD op w dst src base aa ai cc,.int .u64 ld]) (.aC [.agg [.int .u64 (0),.int .u64 (0),.int .u64 (0),.int .u64 (0),.int .u64 (0),.int .u64 (0),.int .u64 (0),.int .u64 (0),.int .u64 (0),.int .u64 (0),.int .u64 (0),.int .u64 (0),.int .u64 (0),.int .u64 (0),.int .u64 (0),.int .u64 (0),.bool false,.bool false,.bool false,.bool false,.bool false,.int .u64 (0)],.int .i64 2]):=by
 have c0:= @aK op w dst src base aa ai cc ho
 rw [show (ct op w dst src base aa ai cc)=false from hm] at c0
 exact (j9 (d:= .aC [.agg [.int .u64 0,.int .u64 0,.int .u64 0,.int .u64 0,.int .u64 0,.int .u64 0,.int .u64 0,.int .u64 0,.int .u64 0,.int .u64 0,.int .u64 0,.int .u64 0,.int .u64 0,.int .u64 0,.int .u64 0,.int .u64 0,.bool false,.bool false,.bool false,.bool false,.bool false,.int .u64 0],.int .i64 2]) [.ret _ _ _ c0,tT] (by kernel_rfl)).to (by first|((simp only [wk,ax,and_true];repeat' (first|rfl|exact Tf|apply S7));done)|(simp [wk,ax,u64,];done))
def pW:List D:= [D.fn (SB 117) [.ptr false 4 0] [],D.fn (SB 118) [.ptr false 4 0] [],D.aq,D.aq,D.aq,D.aq,D.aq,D.aq,D.aq,D.aq,D.aq,D.aq,D.aq,D.aq,D.aq,D.aq,D.aq,D.aq,D.aq,D.aq,D.aq,D.aq,D.aq,D.aq,D.fn (SB 119) [.ptr false 4 0] [],D.fn (SB 120) [.ptr false 4 0] [],D.fn (SB 121) [.ptr false 4 0] [],D.fn (SB 122) [.ptr false 4 0] [],D.fn (SB 123) [.ptr false 4 0] [],D.fn (SB 124) [.ptr false 4 0] [],D.fn (SB 125) [.ptr false 4 0] [],D.fn (SB 126) [.ptr false 4 0] []]
def pV:List (Int×D):= [((2:Int),.int .i8 0),((9:Int),.int .i8 0),((3:Int),.int .i8 4),((10:Int),.int .i8 4),((4:Int),.int .i8 5),((11:Int),.int .i8 5),((8:Int),.int .i8 5),((15:Int),.int .i8 5),((5:Int),.int .i8 1),((12:Int),.int .i8 1),((7:Int),.int .i8 1),((14:Int),.int .i8 1),((6:Int),.int .i8 10),((13:Int),.int .i8 10),((16:Int),.int .i8 2),((17:Int),.int .i8 6),((20:Int),.int .i8 6),((18:Int),.int .i8 7),((21:Int),.int .i8 7),((19:Int),.int .i8 12),((22:Int),.int .i8 12),((23:Int),.int .i8 8)]
def mO (Me:Int):Prop:= ∀(m:ao) (w dst src base aa ai cc ld:Int) (d0:0≤dst) (d1:dst≤15) (s0:0≤src) (s1:src≤15) (b0:0≤base) (b1:base≤15) (hm:ct Me w dst src base aa ai cc=true) (hw:bj w=true),aF Tryz.prog 83 ([m.d,xD Me w dst src base aa ai cc,.int .u64 ld]) (.aC [(jW (m.at (u64 (m.pc+u64 (dJ Me w dst src base aa ai cc)))) ⟨Me,w,dst,src,base,aa,ai,cc⟩ ld).1.d,.int .i64 0])
theorem C0:mO 9:=by
 intro m w dst src base aa ai cc ld d0 d1 s0 s1 b0 b1 hm hw
 have c0:= @aK 9 w dst src base aa ai cc (by decide)
 rw [hm] at c0
 have c1:= @b9 9 w dst src base aa ai cc (by decide)
 have c2:= @xB w (rg (ao.rl m) dst) (T8.wrap T8.u64 ai) hw
 have c3:= @AW w (rg (ao.rl m) dst) (T8.wrap T8.u64 ai) hw
 have c4:= @bq 9 w dst src base aa ai cc (by decide)
 exact (j9 (d:= .aC [(jW (m.at (u64 (m.pc+u64 (dJ 9 w dst src base aa ai cc)))) ⟨9,w,dst,src,base,aa,ai,cc⟩ ld).1.d,.int .i64 0]) ([.ret _ _ _ c0,tF,.ret _ _ _ c1,tT,.get pW 9 (.aq) rfl,tT,.inl,.inl,.aD [(4,.box (ao.cw m (eg m 9 w dst src base aa ai cc) (xT 9 w dst src base aa ai cc ld)))],.gn pV 9 (some (.int .i8 0)) rfl,.cQ _ true (dQ d0 d1),.get _ _ _ (@bL m dst ((fT m (eg m 9 w dst src base aa ai cc) (xT 9 w dst src base aa ai cc ld))) d0 d1),.inl]++Sx 8 tF++Sx 9 tT++ [.aD [(4,.box (ao.cw m (eg m 9 w dst src base aa ai cc) (xT 9 w dst src base aa ai cc ld)))],.ret _ _ _ c2,tF,tT,.ret _ _ _ c3,.ret _ _ _ c4,tC (nt (@hH 9 w dst src base aa ai cc hm d0 d1 (rfl:true=true))),.cQ _ true (dQ d0 d1),.cg _ _ _ _ (@db m dst (gK 0 w (rg (ao.rl m) dst) (T8.wrap T8.u64 ai)) ([.bool true,.bool (Hv w (rg (ao.rl m) dst) (T8.wrap T8.u64 ai)),.bool (aV (u64 (rg (ao.rl m) dst+T8.wrap T8.u64 ai)) w==0),.bool (gW (u64 (rg (ao.rl m) dst+T8.wrap T8.u64 ai)) w),.bool (Hu w (rg (ao.rl m) dst) (T8.wrap T8.u64 ai)),.int .u64 (eg m 9 w dst src base aa ai cc),.int .i8 9,.int .i8 w,.int .i8 dst,.int .i8 src,.int .i8 base,.int .i64 aa,.int .i64 ai,.int .i8 cc,.int .u64 ld]) d0 d1),tF]) (by kernel_rfl))
theorem zo:mO 10:=by
 intro m w dst src base aa ai cc ld d0 d1 s0 s1 b0 b1 hm hw
 have c0:= @aK 10 w dst src base aa ai cc (by decide)
 rw [hm] at c0
 have c1:= @b9 10 w dst src base aa ai cc (by decide)
 have c2:= @xA w (rg (ao.rl m) dst) (T8.wrap T8.u64 ai) hw
 have c3:= @jC w (gK 4 w (rg (ao.rl m) dst) (T8.wrap T8.u64 ai)) hw
 have c4:= @bq 10 w dst src base aa ai cc (by decide)
 exact (j9 (d:= .aC [(jW (m.at (u64 (m.pc+u64 (dJ 10 w dst src base aa ai cc)))) ⟨10,w,dst,src,base,aa,ai,cc⟩ ld).1.d,.int .i64 0]) ([.ret _ _ _ c0,tF,.ret _ _ _ c1,tT,.get pW 10 (.aq) rfl,tT,.inl,.inl,.aD [(4,.box (ao.cw m (eg m 10 w dst src base aa ai cc) (xT 10 w dst src base aa ai cc ld)))],.gn pV 10 (some (.int .i8 4)) rfl,.cQ _ true (dQ d0 d1),.get _ _ _ (@bL m dst ((fT m (eg m 10 w dst src base aa ai cc) (xT 10 w dst src base aa ai cc ld))) d0 d1),.inl]++Sx 8 tF++Sx 9 tT++ [.aD [(4,.box (ao.cw m (eg m 10 w dst src base aa ai cc) (xT 10 w dst src base aa ai cc ld)))],.ret _ _ _ c2,tF,tF,tF,tF,tT,tT,.ret _ _ _ c3,.ret _ _ _ c4,tC (nt (@hH 10 w dst src base aa ai cc hm d0 d1 (rfl:true=true))),.cQ _ true (dQ d0 d1),.cg _ _ _ _ (@db m dst (gK 4 w (rg (ao.rl m) dst) (T8.wrap T8.u64 ai)) ([.bool true,.bool false,.bool (aV (gK 4 w (rg (ao.rl m) dst) (T8.wrap T8.u64 ai)) w==0),.bool (gW (gK 4 w (rg (ao.rl m) dst) (T8.wrap T8.u64 ai)) w),.bool false,.int .u64 (eg m 10 w dst src base aa ai cc),.int .i8 10,.int .i8 w,.int .i8 dst,.int .i8 src,.int .i8 base,.int .i64 aa,.int .i64 ai,.int .i8 cc,.int .u64 ld]) d0 d1),tF]) (by kernel_rfl))
theorem zn:mO 11:=by
 intro m w dst src base aa ai cc ld d0 d1 s0 s1 b0 b1 hm hw
 have c0:= @aK 11 w dst src base aa ai cc (by decide)
 rw [hm] at c0
 have c1:= @b9 11 w dst src base aa ai cc (by decide)
 have c2:= @nH w (rg (ao.rl m) dst) (T8.wrap T8.u64 ai) hw
 have c3:= @jC w (gK 5 w (rg (ao.rl m) dst) (T8.wrap T8.u64 ai)) hw
 have c4:= @bq 11 w dst src base aa ai cc (by decide)
 exact (j9 (d:= .aC [(jW (m.at (u64 (m.pc+u64 (dJ 11 w dst src base aa ai cc)))) ⟨11,w,dst,src,base,aa,ai,cc⟩ ld).1.d,.int .i64 0]) ([.ret _ _ _ c0,tF,.ret _ _ _ c1,tT,.get pW 11 (.aq) rfl,tT,.inl,.inl,.aD [(4,.box (ao.cw m (eg m 11 w dst src base aa ai cc) (xT 11 w dst src base aa ai cc ld)))],.gn pV 11 (some (.int .i8 5)) rfl,.cQ _ true (dQ d0 d1),.get _ _ _ (@bL m dst ((fT m (eg m 11 w dst src base aa ai cc) (xT 11 w dst src base aa ai cc ld))) d0 d1),.inl]++Sx 8 tF++Sx 9 tT++ [.aD [(4,.box (ao.cw m (eg m 11 w dst src base aa ai cc) (xT 11 w dst src base aa ai cc ld)))],.ret _ _ _ c2,tF,tF,tF,tF,tF,tT,tT,.ret _ _ _ c3,.ret _ _ _ c4,tC (nt (@hH 11 w dst src base aa ai cc hm d0 d1 (rfl:true=true))),.cQ _ true (dQ d0 d1),.cg _ _ _ _ (@db m dst (gK 5 w (rg (ao.rl m) dst) (T8.wrap T8.u64 ai)) ([.bool true,.bool false,.bool (aV (gK 5 w (rg (ao.rl m) dst) (T8.wrap T8.u64 ai)) w==0),.bool (gW (gK 5 w (rg (ao.rl m) dst) (T8.wrap T8.u64 ai)) w),.bool false,.int .u64 (eg m 11 w dst src base aa ai cc),.int .i8 11,.int .i8 w,.int .i8 dst,.int .i8 src,.int .i8 base,.int .i64 aa,.int .i64 ai,.int .i8 cc,.int .u64 ld]) d0 d1),tF]) (by kernel_rfl))
theorem zl:mO 13:=by
 intro m w dst src base aa ai cc ld d0 d1 s0 s1 b0 b1 hm hw
 have c0:= @aK 13 w dst src base aa ai cc (by decide)
 rw [hm] at c0
 have c1:= @b9 13 w dst src base aa ai cc (by decide)
 have c2:= @tE w (rg (ao.rl m) dst) (T8.wrap T8.u64 ai) hw
 have c3:= @jC w (gK 10 w (rg (ao.rl m) dst) (T8.wrap T8.u64 ai)) hw
 have c4:= @bq 13 w dst src base aa ai cc (by decide)
 exact (j9 (d:= .aC [(jW (m.at (u64 (m.pc+u64 (dJ 13 w dst src base aa ai cc)))) ⟨13,w,dst,src,base,aa,ai,cc⟩ ld).1.d,.int .i64 0]) ([.ret _ _ _ c0,tF,.ret _ _ _ c1,tT,.get pW 13 (.aq) rfl,tT,.inl,.inl,.aD [(4,.box (ao.cw m (eg m 13 w dst src base aa ai cc) (xT 13 w dst src base aa ai cc ld)))],.gn pV 13 (some (.int .i8 10)) rfl,.cQ _ true (dQ d0 d1),.get _ _ _ (@bL m dst ((fT m (eg m 13 w dst src base aa ai cc) (xT 13 w dst src base aa ai cc ld))) d0 d1),.inl]++Sx 8 tF++Sx 9 tT++ [.aD [(4,.box (ao.cw m (eg m 13 w dst src base aa ai cc) (xT 13 w dst src base aa ai cc ld)))],.ret _ _ _ c2,tF,tF,tF,tF,tF,tF,tT,.ret _ _ _ c3,.ret _ _ _ c4,tC (nt (@hH 13 w dst src base aa ai cc hm d0 d1 (rfl:true=true))),.cQ _ true (dQ d0 d1),.cg _ _ _ _ (@db m dst (gK 10 w (rg (ao.rl m) dst) (T8.wrap T8.u64 ai)) ([.bool true,.bool false,.bool (aV (gK 10 w (rg (ao.rl m) dst) (T8.wrap T8.u64 ai)) w==0),.bool (gW (gK 10 w (rg (ao.rl m) dst) (T8.wrap T8.u64 ai)) w),.bool false,.int .u64 (eg m 13 w dst src base aa ai cc),.int .i8 13,.int .i8 w,.int .i8 dst,.int .i8 src,.int .i8 base,.int .i64 aa,.int .i64 ai,.int .i8 cc,.int .u64 ld]) d0 d1),tF]) (by kernel_rfl))
theorem zk:mO 14:=by
 intro m w dst src base aa ai cc ld d0 d1 s0 s1 b0 b1 hm hw
 have c0:= @aK 14 w dst src base aa ai cc (by decide)
 rw [hm] at c0
 have c1:= @b9 14 w dst src base aa ai cc (by decide)
 have c2:= @nI w (rg (ao.rl m) dst) (T8.wrap T8.u64 ai) hw
 have c3:= @nz w (rg (ao.rl m) dst) (T8.wrap T8.u64 ai) hw
 have c4:= @bq 14 w dst src base aa ai cc (by decide)
 exact (j9 (d:= .aC [(jW (m.at (u64 (m.pc+u64 (dJ 14 w dst src base aa ai cc)))) ⟨14,w,dst,src,base,aa,ai,cc⟩ ld).1.d,.int .i64 0]) ([.ret _ _ _ c0,tF,.ret _ _ _ c1,tT,.get pW 14 (.aq) rfl,tT,.inl,.inl,.aD [(4,.box (ao.cw m (eg m 14 w dst src base aa ai cc) (xT 14 w dst src base aa ai cc ld)))],.gn pV 14 (some (.int .i8 1)) rfl,.cQ _ true (dQ d0 d1),.get _ _ _ (@bL m dst ((fT m (eg m 14 w dst src base aa ai cc) (xT 14 w dst src base aa ai cc ld))) d0 d1),.inl]++Sx 8 tF++Sx 9 tT++ [.aD [(4,.box (ao.cw m (eg m 14 w dst src base aa ai cc) (xT 14 w dst src base aa ai cc ld)))],.ret _ _ _ c2,tF,tF,tT,.ret _ _ _ c3,.ret _ _ _ c4,tC (nt (dx 0 true (eq_of_beq (@F9 14 w dst src base aa ai cc (rfl:false=false))))),tF]) (by kernel_rfl))
theorem zj:mO 15:=by
 intro m w dst src base aa ai cc ld d0 d1 s0 s1 b0 b1 hm hw
 have c0:= @aK 15 w dst src base aa ai cc (by decide)
 rw [hm] at c0
 have c1:= @b9 15 w dst src base aa ai cc (by decide)
 have c2:= @nH w (rg (ao.rl m) dst) (T8.wrap T8.u64 ai) hw
 have c3:= @jC w (gK 5 w (rg (ao.rl m) dst) (T8.wrap T8.u64 ai)) hw
 have c4:= @bq 15 w dst src base aa ai cc (by decide)
 exact (j9 (d:= .aC [(jW (m.at (u64 (m.pc+u64 (dJ 15 w dst src base aa ai cc)))) ⟨15,w,dst,src,base,aa,ai,cc⟩ ld).1.d,.int .i64 0]) ([.ret _ _ _ c0,tF,.ret _ _ _ c1,tT,.get pW 15 (.aq) rfl,tT,.inl,.inl,.aD [(4,.box (ao.cw m (eg m 15 w dst src base aa ai cc) (xT 15 w dst src base aa ai cc ld)))],.gn pV 15 (some (.int .i8 5)) rfl,.cQ _ true (dQ d0 d1),.get _ _ _ (@bL m dst ((fT m (eg m 15 w dst src base aa ai cc) (xT 15 w dst src base aa ai cc ld))) d0 d1),.inl]++Sx 8 tF++Sx 9 tT++ [.aD [(4,.box (ao.cw m (eg m 15 w dst src base aa ai cc) (xT 15 w dst src base aa ai cc ld)))],.ret _ _ _ c2,tF,tF,tF,tF,tF,tT,tT,.ret _ _ _ c3,.ret _ _ _ c4,tC (nt (dx 0 true (eq_of_beq (@F9 15 w dst src base aa ai cc (rfl:false=false))))),tF]) (by kernel_rfl))
theorem zh:mO 16:=by
 intro m w dst src base aa ai cc ld d0 d1 s0 s1 b0 b1 hm hw
 have c0:= @aK 16 w dst src base aa ai cc (by decide)
 rw [hm] at c0
 have c1:= @b9 16 w dst src base aa ai cc (by decide)
 have c2:= @FN w (rg (ao.rl m) dst) (rg (ao.rl m) src) hw
 have c3:= @ck
 have c4:= @bq 16 w dst src base aa ai cc (by decide)
 exact (j9 (d:= .aC [(jW (m.at (u64 (m.pc+u64 (dJ 16 w dst src base aa ai cc)))) ⟨16,w,dst,src,base,aa,ai,cc⟩ ld).1.d,.int .i64 0]) ([.ret _ _ _ c0,tF,.ret _ _ _ c1,tT,.get pW 16 (.aq) rfl,tT,.inl,.inl,.aD [(4,.box (ao.cw m (eg m 16 w dst src base aa ai cc) (xT 16 w dst src base aa ai cc ld)))],.gn pV 16 (some (.int .i8 2)) rfl,.cQ _ true (dQ d0 d1),.get _ _ _ (@bL m dst ((fT m (eg m 16 w dst src base aa ai cc) (xT 16 w dst src base aa ai cc ld))) d0 d1),.inl]++Sx 8 tF++ [tT,tT,tT,tT,tT,tT,tT]++Sx 9 tF++ [.cQ _ true (dQ s0 s1),.get _ _ _ (@bL m src ((fT m (eg m 16 w dst src base aa ai cc) (xT 16 w dst src base aa ai cc ld))) s0 s1),.aD [(4,.box (ao.cw m (eg m 16 w dst src base aa ai cc) (xT 16 w dst src base aa ai cc ld)))],.ret _ _ _ c2,tF,tF,tF,tF,tF,tF,tF,.ret _ _ _ c3,.ret _ _ _ c4,tC (nt (@hH 16 w dst src base aa ai cc hm d0 d1 (rfl:true=true))),.cQ _ true (dQ d0 d1),.cg _ _ _ _ (@db m dst (gK 2 w (rg (ao.rl m) dst) (rg (ao.rl m) src)) ([.bool false,.bool false,.bool false,.bool false,.bool false,.int .u64 (eg m 16 w dst src base aa ai cc),.int .i8 16,.int .i8 w,.int .i8 dst,.int .i8 src,.int .i8 base,.int .i64 aa,.int .i64 ai,.int .i8 cc,.int .u64 ld]) d0 d1),tF]) (by kernel_rfl))
theorem CZ (m:ao) (x:XS) (ld:Int) (ho:x.op≤127):aF Tryz.prog 83 [m.d,x.d,.int .u64 ld] (.aC [(fm m x ld).1.d,.int .i64 (fm m x ld).2]):=by
 cases hm:x.may
 ·rw [FA hm]
  obtain ⟨q0,q1,q2,q3,q4,q5,q6,q7,q8,q9,bQ,bU,bZ,bX,bW,bV,fk,fc,fz,fs,fo,pc⟩:=m
  obtain ⟨op,w,dst,src,base,aa,ai,cc⟩:=x
  exact yT q0 q1 q2 q3 q4 q5 q6 q7 q8 q9 bQ bU bZ bX bW bV pc fk fc fz fs fo op w dst src base aa ai cc ld ho hm
 ·rw [tj hm]
  obtain ⟨q0,q1,q2,q3,q4,q5,q6,q7,q8,q9,bQ,bU,bZ,bX,bW,bV,fk,fc,fz,fs,fo,pc⟩:=m
  obtain ⟨op,w,dst,src,base,aa,ai,cc⟩:=x
  replace hm:ct op w dst src base aa ai cc=true:=hm
  have Oq:aA op≠0:=by
   intro e
   have hs:=(dF hm).2
   rw [e] at hs
   simp [iw] at hs
  obtain ⟨⟨d0,d1,s0,s1,b0,b1,_⟩,hs⟩:=dF hm
  rcases hP Oq with rfl|rfl|rfl|rfl|rfl|rfl|rfl|rfl|rfl|rfl|rfl|rfl|rfl|rfl|rfl|rfl|rfl|rfl|rfl|rfl|rfl|rfl|rfl|rfl|rfl|rfl|rfl|rfl|rfl|rfl|rfl|rfl
  ·exact C9 ⟨q0,q1,q2,q3,q4,q5,q6,q7,q8,q9,bQ,bU,bZ,bX,bW,bV,fk,fc,fz,fs,fo,pc⟩ w dst src base aa ai cc ld d0 d1 s0 s1 b0 b1 hm
  ·exact C8 ⟨q0,q1,q2,q3,q4,q5,q6,q7,q8,q9,bQ,bU,bZ,bX,bW,bV,fk,fc,fz,fs,fo,pc⟩ w dst src base aa ai cc ld d0 d1 s0 s1 b0 b1 hm
  ·exact C7 ⟨q0,q1,q2,q3,q4,q5,q6,q7,q8,q9,bQ,bU,bZ,bX,bW,bV,fk,fc,fz,fs,fo,pc⟩ w dst src base aa ai cc ld d0 d1 s0 s1 b0 b1 hm (cV hs (by decide))
  ·exact C6 ⟨q0,q1,q2,q3,q4,q5,q6,q7,q8,q9,bQ,bU,bZ,bX,bW,bV,fk,fc,fz,fs,fo,pc⟩ w dst src base aa ai cc ld d0 d1 s0 s1 b0 b1 hm (cV hs (by decide))
  ·exact C5 ⟨q0,q1,q2,q3,q4,q5,q6,q7,q8,q9,bQ,bU,bZ,bX,bW,bV,fk,fc,fz,fs,fo,pc⟩ w dst src base aa ai cc ld d0 d1 s0 s1 b0 b1 hm (cV hs (by decide))
  ·exact C4 ⟨q0,q1,q2,q3,q4,q5,q6,q7,q8,q9,bQ,bU,bZ,bX,bW,bV,fk,fc,fz,fs,fo,pc⟩ w dst src base aa ai cc ld d0 d1 s0 s1 b0 b1 hm (cV hs (by decide))
  ·exact C3 ⟨q0,q1,q2,q3,q4,q5,q6,q7,q8,q9,bQ,bU,bZ,bX,bW,bV,fk,fc,fz,fs,fo,pc⟩ w dst src base aa ai cc ld d0 d1 s0 s1 b0 b1 hm (cV hs (by decide))
  ·exact C2 ⟨q0,q1,q2,q3,q4,q5,q6,q7,q8,q9,bQ,bU,bZ,bX,bW,bV,fk,fc,fz,fs,fo,pc⟩ w dst src base aa ai cc ld d0 d1 s0 s1 b0 b1 hm (cV hs (by decide))
  ·exact C1 ⟨q0,q1,q2,q3,q4,q5,q6,q7,q8,q9,bQ,bU,bZ,bX,bW,bV,fk,fc,fz,fs,fo,pc⟩ w dst src base aa ai cc ld d0 d1 s0 s1 b0 b1 hm (cV hs (by decide))
  ·exact C0 ⟨q0,q1,q2,q3,q4,q5,q6,q7,q8,q9,bQ,bU,bZ,bX,bW,bV,fk,fc,fz,fs,fo,pc⟩ w dst src base aa ai cc ld d0 d1 s0 s1 b0 b1 hm (cV hs (by decide))
  ·exact zo ⟨q0,q1,q2,q3,q4,q5,q6,q7,q8,q9,bQ,bU,bZ,bX,bW,bV,fk,fc,fz,fs,fo,pc⟩ w dst src base aa ai cc ld d0 d1 s0 s1 b0 b1 hm (cV hs (by decide))
  ·exact zn ⟨q0,q1,q2,q3,q4,q5,q6,q7,q8,q9,bQ,bU,bZ,bX,bW,bV,fk,fc,fz,fs,fo,pc⟩ w dst src base aa ai cc ld d0 d1 s0 s1 b0 b1 hm (cV hs (by decide))
  ·exact zm ⟨q0,q1,q2,q3,q4,q5,q6,q7,q8,q9,bQ,bU,bZ,bX,bW,bV,fk,fc,fz,fs,fo,pc⟩ w dst src base aa ai cc ld d0 d1 s0 s1 b0 b1 hm (cV hs (by decide))
  ·exact zl ⟨q0,q1,q2,q3,q4,q5,q6,q7,q8,q9,bQ,bU,bZ,bX,bW,bV,fk,fc,fz,fs,fo,pc⟩ w dst src base aa ai cc ld d0 d1 s0 s1 b0 b1 hm (cV hs (by decide))
  ·exact zk ⟨q0,q1,q2,q3,q4,q5,q6,q7,q8,q9,bQ,bU,bZ,bX,bW,bV,fk,fc,fz,fs,fo,pc⟩ w dst src base aa ai cc ld d0 d1 s0 s1 b0 b1 hm (cV hs (by decide))
  ·exact zj ⟨q0,q1,q2,q3,q4,q5,q6,q7,q8,q9,bQ,bU,bZ,bX,bW,bV,fk,fc,fz,fs,fo,pc⟩ w dst src base aa ai cc ld d0 d1 s0 s1 b0 b1 hm (cV hs (by decide))
  ·exact zh ⟨q0,q1,q2,q3,q4,q5,q6,q7,q8,q9,bQ,bU,bZ,bX,bW,bV,fk,fc,fz,fs,fo,pc⟩ w dst src base aa ai cc ld d0 d1 s0 s1 b0 b1 hm (cV hs (by decide))
  ·exact zg ⟨q0,q1,q2,q3,q4,q5,q6,q7,q8,q9,bQ,bU,bZ,bX,bW,bV,fk,fc,fz,fs,fo,pc⟩ w dst src base aa ai cc ld d0 d1 s0 s1 b0 b1 hm (cV hs (by decide))
  ·exact zf ⟨q0,q1,q2,q3,q4,q5,q6,q7,q8,q9,bQ,bU,bZ,bX,bW,bV,fk,fc,fz,fs,fo,pc⟩ w dst src base aa ai cc ld d0 d1 s0 s1 b0 b1 hm (cV hs (by decide))
  ·exact ze ⟨q0,q1,q2,q3,q4,q5,q6,q7,q8,q9,bQ,bU,bZ,bX,bW,bV,fk,fc,fz,fs,fo,pc⟩ w dst src base aa ai cc ld d0 d1 s0 s1 b0 b1 hm (cV hs (by decide))
  ·exact zb ⟨q0,q1,q2,q3,q4,q5,q6,q7,q8,q9,bQ,bU,bZ,bX,bW,bV,fk,fc,fz,fs,fo,pc⟩ w dst src base aa ai cc ld d0 d1 s0 s1 b0 b1 hm (cV hs (by decide))
  ·exact za ⟨q0,q1,q2,q3,q4,q5,q6,q7,q8,q9,bQ,bU,bZ,bX,bW,bV,fk,fc,fz,fs,fo,pc⟩ w dst src base aa ai cc ld d0 d1 s0 s1 b0 b1 hm (cV hs (by decide))
  ·exact y9 ⟨q0,q1,q2,q3,q4,q5,q6,q7,q8,q9,bQ,bU,bZ,bX,bW,bV,fk,fc,fz,fs,fo,pc⟩ w dst src base aa ai cc ld d0 d1 s0 s1 b0 b1 hm (cV hs (by decide))
  ·exact y8 ⟨q0,q1,q2,q3,q4,q5,q6,q7,q8,q9,bQ,bU,bZ,bX,bW,bV,fk,fc,fz,fs,fo,pc⟩ w dst src base aa ai cc ld d0 d1 s0 s1 b0 b1 hm (cV hs (by decide))
  ·cases hd:(aV (rg [q0,q1,q2,q3,q4,q5,q6,q7,q8,q9,bQ,bU,bZ,bX,bW,bV] dst) w==0)
   ·cases hz:(aV q2 w==0)
    ·have e:jW ((⟨q0,q1,q2,q3,q4,q5,q6,q7,q8,q9,bQ,bU,bZ,bX,bW,bV,fk,fc,fz,fs,fo,pc⟩:ao).at (u64 (pc+u64 (XS.len ⟨24,w,dst,src,base,aa,ai,cc⟩)))) ⟨24,w,dst,src,base,aa,ai,cc⟩ ld=(.zero,20):=by
      show (match (aV (rg [q0,q1,q2,q3,q4,q5,q6,q7,q8,q9,bQ,bU,bZ,bX,bW,bV] dst) w==0:Bool) with|true=>((ao.zero,20):ao×Int)|false=>match (aV q2 w==0:Bool) with|false=>(.zero,20)|true=>_)=_
      rw [hd,hz]
     rw [e]
     exact xk q0 q1 q2 q3 q4 q5 q6 q7 q8 q9 bQ bU bZ bX bW bV pc fk fc fz fs fo w dst src base aa ai cc ld d0 d1 s0 s1 b0 b1 hm hd hz
    ·have e:jW ((⟨q0,q1,q2,q3,q4,q5,q6,q7,q8,q9,bQ,bU,bZ,bX,bW,bV,fk,fc,fz,fs,fo,pc⟩:ao).at (u64 (pc+u64 (XS.len ⟨24,w,dst,src,base,aa,ai,cc⟩)))) ⟨24,w,dst,src,base,aa,ai,cc⟩ ld=(⟨u64 ((aV q0 w).tdiv (aV (rg [q0,q1,q2,q3,q4,q5,q6,q7,q8,q9,bQ,bU,bZ,bX,bW,bV] dst) w)),q1,(aV q0 w).tmod (aV (rg [q0,q1,q2,q3,q4,q5,q6,q7,q8,q9,bQ,bU,bZ,bX,bW,bV] dst) w),q3,q4,q5,q6,q7,q8,q9,bQ,bU,bZ,bX,bW,bV,false,false,false,false,false,u64 (pc+u64 (XS.len ⟨24,w,dst,src,base,aa,ai,cc⟩))⟩,0):=by
      show (match (aV (rg [q0,q1,q2,q3,q4,q5,q6,q7,q8,q9,bQ,bU,bZ,bX,bW,bV] dst) w==0:Bool) with|true=>((ao.zero,20):ao×Int)|false=>match (aV q2 w==0:Bool) with|false=>(.zero,20)|true=>_)=_
      rw [hd,hz]
      rfl
     rw [e]
     exact y7 q0 q1 q2 q3 q4 q5 q6 q7 q8 q9 bQ bU bZ bX bW bV pc fk fc fz fs fo w dst src base aa ai cc ld d0 d1 s0 s1 b0 b1 hm hd hz
   ·have e:jW ((⟨q0,q1,q2,q3,q4,q5,q6,q7,q8,q9,bQ,bU,bZ,bX,bW,bV,fk,fc,fz,fs,fo,pc⟩:ao).at (u64 (pc+u64 (XS.len ⟨24,w,dst,src,base,aa,ai,cc⟩)))) ⟨24,w,dst,src,base,aa,ai,cc⟩ ld=(.zero,20):=by
     show (match (aV (rg [q0,q1,q2,q3,q4,q5,q6,q7,q8,q9,bQ,bU,bZ,bX,bW,bV] dst) w==0:Bool) with|true=>((ao.zero,20):ao×Int)|false=>match (aV q2 w==0:Bool) with|false=>(.zero,20)|true=>_)=_
     rw [hd]
    rw [e]
    exact xl q0 q1 q2 q3 q4 q5 q6 q7 q8 q9 bQ bU bZ bX bW bV pc fk fc fz fs fo w dst src base aa ai cc ld d0 d1 s0 s1 b0 b1 hm hd
  ·cases fk
   ·exact xj q0 q1 q2 q3 q4 q5 q6 q7 q8 q9 bQ bU bZ bX bW bV pc fc fz fs fo w dst src base aa ai cc ld d0 d1 s0 s1 b0 b1 hm (EX hs)
   ·exact y6 q0 q1 q2 q3 q4 q5 q6 q7 q8 q9 bQ bU bZ bX bW bV pc fc fz fs fo w dst src base aa ai cc ld d0 d1 s0 s1 b0 b1 hm (EX hs)
  ·exact yZ ⟨q0,q1,q2,q3,q4,q5,q6,q7,q8,q9,bQ,bU,bZ,bX,bW,bV,fk,fc,fz,fs,fo,pc⟩ w dst src base aa ai cc ld d0 d1 s0 s1 b0 b1 hm
  ·exact yY ⟨q0,q1,q2,q3,q4,q5,q6,q7,q8,q9,bQ,bU,bZ,bX,bW,bV,fk,fc,fz,fs,fo,pc⟩ w dst src base aa ai cc ld d0 d1 s0 s1 b0 b1 hm
  ·exact yX ⟨q0,q1,q2,q3,q4,q5,q6,q7,q8,q9,bQ,bU,bZ,bX,bW,bV,fk,fc,fz,fs,fo,pc⟩ w dst src base aa ai cc ld d0 d1 s0 s1 b0 b1 hm
  ·cases fk
   ·exact xi q0 q1 q2 q3 q4 q5 q6 q7 q8 q9 bQ bU bZ bX bW bV pc fc fz fs fo w dst src base aa ai cc ld d0 d1 s0 s1 b0 b1 hm (AH hs)
   ·exact yW q0 q1 q2 q3 q4 q5 q6 q7 q8 q9 bQ bU bZ bX bW bV pc fc fz fs fo w dst src base aa ai cc ld d0 d1 s0 s1 b0 b1 hm (AH hs)
  ·exact yV ⟨q0,q1,q2,q3,q4,q5,q6,q7,q8,q9,bQ,bU,bZ,bX,bW,bV,fk,fc,fz,fs,fo,pc⟩ w dst src base aa ai cc ld d0 d1 s0 s1 b0 b1 hm
  ·exact yU ⟨q0,q1,q2,q3,q4,q5,q6,q7,q8,q9,bQ,bU,bZ,bX,bW,bV,fk,fc,fz,fs,fo,pc⟩ w dst src base aa ai cc ld d0 d1 s0 s1 b0 b1 hm
end Go.Proofs.YtbfpahigdpigpaaGreat
