import Derived.Test.YtbfpahigdpigpaaGreatM06
import Derived.Test.YtbfpahigdpigpaaGreatM09
import Derived.Test.YtbfpahigdpigpaaGreatM11
/- Contracts and plain laws that a statement's proof leans on (texts merged:E0F0,E0F,E1e,Y1f,ESM). -/
set_option linter.unusedVariables false
set_option linter.unusedSimpArgs false
set_option maxRecDepth 100000
set_option maxHeartbeats 8000000
namespace Go.Proofs.YtbfpahigdpigpaaGreat
open Go Go.Ev
theorem rh:aE Tryz.prog 171 ([.int .i8 2]) (.bool true):=by
 exact (aE.ae (d:= .bool true) mixed Tryz.func171 (by kernel_rfl) ([tT,tT,tT,tT,.inl,.inl,.inl,.inl,.inl,.inl,.inl,.inl,.inl,.inl,tT,tT]++ [tT,.get ([D.aq,D.aq,D.fn (Fn.func 187) [] [],D.fn (Fn.func 193) [] [.ptr false 1 0],D.fn (Fn.func 188) [] [],D.fn (Fn.func 193) [] [.ptr false 2 0],D.fn (Fn.func 191) [] [.ptr false 3 0,.ptr false 4 0],D.fn (Fn.func 193) [] [.ptr false 7 0],D.aq,D.aq,D.aq,D.aq,D.fn (Fn.func 189) [] [],D.fn (Fn.func 193) [] [.ptr false 8 0],D.fn (Fn.func 191) [] [.ptr false 9 0,.ptr false 10 0],D.fn (Fn.func 193) [] [.ptr false 13 0]]) 2 (D.fn (Fn.func 187) [] []) rfl,tT,tT]) (by kernel_rfl)).to (by ((simp only [wk,aw,and_true];repeat' (first|rfl|exact True.intro|apply And.intro));done))
theorem rf:aE Tryz.prog 171 ([.int .i8 3]) (.bool true):=by
 exact (aE.ae (d:= .bool true) mixed Tryz.func171 (by kernel_rfl) ([tT,tT,tT,tT,.inl,.inl,.inl,.inl,.inl,.inl,.inl,.inl,.inl,.inl,tT,tT]++ [tT,.get ([D.aq,D.aq,D.fn (Fn.func 187) [] [],D.fn (Fn.func 193) [] [.ptr false 1 0],D.fn (Fn.func 188) [] [],D.fn (Fn.func 193) [] [.ptr false 2 0],D.fn (Fn.func 191) [] [.ptr false 3 0,.ptr false 4 0],D.fn (Fn.func 193) [] [.ptr false 7 0],D.aq,D.aq,D.aq,D.aq,D.fn (Fn.func 189) [] [],D.fn (Fn.func 193) [] [.ptr false 8 0],D.fn (Fn.func 191) [] [.ptr false 9 0,.ptr false 10 0],D.fn (Fn.func 193) [] [.ptr false 13 0]]) 3 (D.fn (Fn.func 193) [] [.ptr false 1 0]) rfl,tT,tT]) (by kernel_rfl)).to (by ((simp only [wk,aw,and_true];repeat' (first|rfl|exact True.intro|apply And.intro));done))
theorem re:aE Tryz.prog 171 ([.int .i8 4]) (.bool true):=by
 exact (aE.ae (d:= .bool true) mixed Tryz.func171 (by kernel_rfl) ([tT,tT,tT,tT,.inl,.inl,.inl,.inl,.inl,.inl,.inl,.inl,.inl,.inl,tT,tT]++ [tT,.get ([D.aq,D.aq,D.fn (Fn.func 187) [] [],D.fn (Fn.func 193) [] [.ptr false 1 0],D.fn (Fn.func 188) [] [],D.fn (Fn.func 193) [] [.ptr false 2 0],D.fn (Fn.func 191) [] [.ptr false 3 0,.ptr false 4 0],D.fn (Fn.func 193) [] [.ptr false 7 0],D.aq,D.aq,D.aq,D.aq,D.fn (Fn.func 189) [] [],D.fn (Fn.func 193) [] [.ptr false 8 0],D.fn (Fn.func 191) [] [.ptr false 9 0,.ptr false 10 0],D.fn (Fn.func 193) [] [.ptr false 13 0]]) 4 (D.fn (Fn.func 188) [] []) rfl,tT,tT]) (by kernel_rfl)).to (by ((simp only [wk,aw,and_true];repeat' (first|rfl|exact True.intro|apply And.intro));done))
theorem qZ:aE Tryz.prog 171 ([.int .i8 5]) (.bool true):=by
 exact (aE.ae (d:= .bool true) mixed Tryz.func171 (by kernel_rfl) ([tT,tT,tT,tT,.inl,.inl,.inl,.inl,.inl,.inl,.inl,.inl,.inl,.inl,tT,tT]++ [tT,.get ([D.aq,D.aq,D.fn (Fn.func 187) [] [],D.fn (Fn.func 193) [] [.ptr false 1 0],D.fn (Fn.func 188) [] [],D.fn (Fn.func 193) [] [.ptr false 2 0],D.fn (Fn.func 191) [] [.ptr false 3 0,.ptr false 4 0],D.fn (Fn.func 193) [] [.ptr false 7 0],D.aq,D.aq,D.aq,D.aq,D.fn (Fn.func 189) [] [],D.fn (Fn.func 193) [] [.ptr false 8 0],D.fn (Fn.func 191) [] [.ptr false 9 0,.ptr false 10 0],D.fn (Fn.func 193) [] [.ptr false 13 0]]) 5 (D.fn (Fn.func 193) [] [.ptr false 2 0]) rfl,tT,tT]) (by kernel_rfl)).to (by ((simp only [wk,aw,and_true];repeat' (first|rfl|exact True.intro|apply And.intro));done))
theorem qY:aE Tryz.prog 171 ([.int .i8 6]) (.bool true):=by
 exact (aE.ae (d:= .bool true) mixed Tryz.func171 (by kernel_rfl) ([tT,tT,tT,tT,.inl,.inl,.inl,.inl,.inl,.inl,.inl,.inl,.inl,.inl,tT,tT]++ [tT,.get ([D.aq,D.aq,D.fn (Fn.func 187) [] [],D.fn (Fn.func 193) [] [.ptr false 1 0],D.fn (Fn.func 188) [] [],D.fn (Fn.func 193) [] [.ptr false 2 0],D.fn (Fn.func 191) [] [.ptr false 3 0,.ptr false 4 0],D.fn (Fn.func 193) [] [.ptr false 7 0],D.aq,D.aq,D.aq,D.aq,D.fn (Fn.func 189) [] [],D.fn (Fn.func 193) [] [.ptr false 8 0],D.fn (Fn.func 191) [] [.ptr false 9 0,.ptr false 10 0],D.fn (Fn.func 193) [] [.ptr false 13 0]]) 6 (D.fn (Fn.func 191) [] [.ptr false 3 0,.ptr false 4 0]) rfl,tT,tT]) (by kernel_rfl)).to (by ((simp only [wk,aw,and_true];repeat' (first|rfl|exact True.intro|apply And.intro));done))
theorem qX:aE Tryz.prog 171 ([.int .i8 7]) (.bool true):=by
 exact (aE.ae (d:= .bool true) mixed Tryz.func171 (by kernel_rfl) ([tT,tT,tT,tT,.inl,.inl,.inl,.inl,.inl,.inl,.inl,.inl,.inl,.inl,tT,tT]++ [tT,.get ([D.aq,D.aq,D.fn (Fn.func 187) [] [],D.fn (Fn.func 193) [] [.ptr false 1 0],D.fn (Fn.func 188) [] [],D.fn (Fn.func 193) [] [.ptr false 2 0],D.fn (Fn.func 191) [] [.ptr false 3 0,.ptr false 4 0],D.fn (Fn.func 193) [] [.ptr false 7 0],D.aq,D.aq,D.aq,D.aq,D.fn (Fn.func 189) [] [],D.fn (Fn.func 193) [] [.ptr false 8 0],D.fn (Fn.func 191) [] [.ptr false 9 0,.ptr false 10 0],D.fn (Fn.func 193) [] [.ptr false 13 0]]) 7 (D.fn (Fn.func 193) [] [.ptr false 7 0]) rfl,tT,tT]) (by kernel_rfl)).to (by ((simp only [wk,aw,and_true];repeat' (first|rfl|exact True.intro|apply And.intro));done))
theorem pT:aE Tryz.prog 171 ([.int .i8 12]) (.bool true):=by
 exact (aE.ae (d:= .bool true) mixed Tryz.func171 (by kernel_rfl) ([tT,tT,tT,tT,.inl,.inl,.inl,.inl,.inl,.inl,.inl,.inl,.inl,.inl,tT,tT]++ [tT,.get ([D.aq,D.aq,D.fn (Fn.func 187) [] [],D.fn (Fn.func 193) [] [.ptr false 1 0],D.fn (Fn.func 188) [] [],D.fn (Fn.func 193) [] [.ptr false 2 0],D.fn (Fn.func 191) [] [.ptr false 3 0,.ptr false 4 0],D.fn (Fn.func 193) [] [.ptr false 7 0],D.aq,D.aq,D.aq,D.aq,D.fn (Fn.func 189) [] [],D.fn (Fn.func 193) [] [.ptr false 8 0],D.fn (Fn.func 191) [] [.ptr false 9 0,.ptr false 10 0],D.fn (Fn.func 193) [] [.ptr false 13 0]]) 12 (D.fn (Fn.func 189) [] []) rfl,tT,tT]) (by kernel_rfl)).to (by ((simp only [wk,aw,and_true];repeat' (first|rfl|exact True.intro|apply And.intro));done))
theorem pS:aE Tryz.prog 171 ([.int .i8 13]) (.bool true):=by
 exact (aE.ae (d:= .bool true) mixed Tryz.func171 (by kernel_rfl) ([tT,tT,tT,tT,.inl,.inl,.inl,.inl,.inl,.inl,.inl,.inl,.inl,.inl,tT,tT]++ [tT,.get ([D.aq,D.aq,D.fn (Fn.func 187) [] [],D.fn (Fn.func 193) [] [.ptr false 1 0],D.fn (Fn.func 188) [] [],D.fn (Fn.func 193) [] [.ptr false 2 0],D.fn (Fn.func 191) [] [.ptr false 3 0,.ptr false 4 0],D.fn (Fn.func 193) [] [.ptr false 7 0],D.aq,D.aq,D.aq,D.aq,D.fn (Fn.func 189) [] [],D.fn (Fn.func 193) [] [.ptr false 8 0],D.fn (Fn.func 191) [] [.ptr false 9 0,.ptr false 10 0],D.fn (Fn.func 193) [] [.ptr false 13 0]]) 13 (D.fn (Fn.func 193) [] [.ptr false 8 0]) rfl,tT,tT]) (by kernel_rfl)).to (by ((simp only [wk,aw,and_true];repeat' (first|rfl|exact True.intro|apply And.intro));done))
theorem pR:aE Tryz.prog 171 ([.int .i8 14]) (.bool true):=by
 exact (aE.ae (d:= .bool true) mixed Tryz.func171 (by kernel_rfl) ([tT,tT,tT,tT,.inl,.inl,.inl,.inl,.inl,.inl,.inl,.inl,.inl,.inl,tT,tT]++ [tT,.get ([D.aq,D.aq,D.fn (Fn.func 187) [] [],D.fn (Fn.func 193) [] [.ptr false 1 0],D.fn (Fn.func 188) [] [],D.fn (Fn.func 193) [] [.ptr false 2 0],D.fn (Fn.func 191) [] [.ptr false 3 0,.ptr false 4 0],D.fn (Fn.func 193) [] [.ptr false 7 0],D.aq,D.aq,D.aq,D.aq,D.fn (Fn.func 189) [] [],D.fn (Fn.func 193) [] [.ptr false 8 0],D.fn (Fn.func 191) [] [.ptr false 9 0,.ptr false 10 0],D.fn (Fn.func 193) [] [.ptr false 13 0]]) 14 (D.fn (Fn.func 191) [] [.ptr false 9 0,.ptr false 10 0]) rfl,tT,tT]) (by kernel_rfl)).to (by ((simp only [wk,aw,and_true];repeat' (first|rfl|exact True.intro|apply And.intro));done))
theorem pQ:aE Tryz.prog 171 ([.int .i8 15]) (.bool true):=by
 exact (aE.ae (d:= .bool true) mixed Tryz.func171 (by kernel_rfl) ([tT,tT,tT,tT,.inl,.inl,.inl,.inl,.inl,.inl,.inl,.inl,.inl,.inl,tT,tT]++ [tT,.get ([D.aq,D.aq,D.fn (Fn.func 187) [] [],D.fn (Fn.func 193) [] [.ptr false 1 0],D.fn (Fn.func 188) [] [],D.fn (Fn.func 193) [] [.ptr false 2 0],D.fn (Fn.func 191) [] [.ptr false 3 0,.ptr false 4 0],D.fn (Fn.func 193) [] [.ptr false 7 0],D.aq,D.aq,D.aq,D.aq,D.fn (Fn.func 189) [] [],D.fn (Fn.func 193) [] [.ptr false 8 0],D.fn (Fn.func 191) [] [.ptr false 9 0,.ptr false 10 0],D.fn (Fn.func 193) [] [.ptr false 13 0]]) 15 (D.fn (Fn.func 193) [] [.ptr false 13 0]) rfl,tT,tT]) (by kernel_rfl)).to (by ((simp only [wk,aw,and_true];repeat' (first|rfl|exact True.intro|apply And.intro));done))
def hG (k0_:Int):Prop:= ∀(c z s o:Bool),aE Tryz.prog 163 ([.int .i8 k0_,fD true c z s o]) (.aA [.bool (dr k0_ c z s o),.int .i64 0])
theorem vo:hG 2:=by
  intro c z s o
  have c0:= @rh
  have c1:= @b8
  exact (aE.ae (d:= .aA [.bool c,.int .i64 0]) mixed Tryz.func163 (by kernel_rfl) ([.ret _ _ _ c0,tF,.ret _ _ _ c1,.flat _ _ aD,tT,tT,tT,tF,tF,.inl,.inl,.inl,.inl,.inl,.inl,.inl]++ [.inl,.inl,.inl,.aB [],.aB [(0,.box [.bool true,.bool c,.bool z,.bool s,.bool o])],tT,.get ([D.aq,D.aq,D.fn (Fn.func 187) [] [],D.fn (Fn.func 193) [] [.ptr false 4 0],D.fn (Fn.func 188) [] [],D.fn (Fn.func 193) [] [.ptr false 5 0],D.fn (Fn.func 191) [] [.ptr false 6 0,.ptr false 7 0],D.fn (Fn.func 193) [] [.ptr false 10 0],D.aq,D.aq,D.aq,D.aq,D.fn (Fn.func 189) [] [],D.fn (Fn.func 193) [] [.ptr false 11 0],D.fn (Fn.func 191) [] [.ptr false 12 0,.ptr false 13 0],D.fn (Fn.func 193) [] [.ptr false 16 0]]) 2 (D.fn (Fn.func 187) [] []) rfl,.inl]) (by kernel_rfl)).to (by (try cases c)<;>(try cases z)<;>(try cases s)<;>(try cases o)<;>first|(simp [wk,aw,dr];done)|rfl|exact ⟨rfl,rfl,trivial⟩)
def hE (k0_:Int):Prop:= ∀(c z s o:Bool),aE Tryz.prog 163 ([.int .i8 k0_,fD false c z s o]) (.aA [.bool false,.int .i64 20])
theorem td:hE 2:=by
  intro c z s o
  have c0:= @rh
  have c1:= @b8
  cases c
  · skip
    cases z
    · skip
      cases s
      · skip
        cases o
        · skip
          exact (aE.ae (d:= .aA [.bool false,.int .i64 20]) mixed Tryz.func163 (by kernel_rfl) [.ret _ _ _ c0,tF,.ret _ _ _ c1,.flat _ _ aD,tF,tF,tF,tT,tT] (by kernel_rfl)).to (by simp [wk,aw])
        · skip
          exact (aE.ae (d:= .aA [.bool false,.int .i64 20]) mixed Tryz.func163 (by kernel_rfl) [.ret _ _ _ c0,tF,.ret _ _ _ c1,.flat _ _ aD,tT,tT,tT,tF,tT] (by kernel_rfl)).to (by simp [wk,aw])
      · skip
        exact (aE.ae (d:= .aA [.bool false,.int .i64 20]) mixed Tryz.func163 (by kernel_rfl) [.ret _ _ _ c0,tF,.ret _ _ _ c1,.flat _ _ aD,tT,tT,tT,tF,tT] (by kernel_rfl)).to (by simp [wk,aw])
    · skip
      exact (aE.ae (d:= .aA [.bool false,.int .i64 20]) mixed Tryz.func163 (by kernel_rfl) [.ret _ _ _ c0,tF,.ret _ _ _ c1,.flat _ _ aD,tT,tT,tT,tF,tT] (by kernel_rfl)).to (by simp [wk,aw])
  · skip
    exact (aE.ae (d:= .aA [.bool false,.int .i64 20]) mixed Tryz.func163 (by kernel_rfl) [.ret _ _ _ c0,tF,.ret _ _ _ c1,.flat _ _ aD,tT,tT,tT,tF,tT] (by kernel_rfl)).to (by simp [wk,aw])
theorem vn:hG 3:=by
 intro c z s o
 have c0:= @rf
 have c1:= @b8
 exact (aE.ae (d:= .aA [.bool !c,.int .i64 0]) mixed Tryz.func163 (by kernel_rfl) ([.ret _ _ _ c0,tF,.ret _ _ _ c1,.flat _ _ aD,tT,tT,tT,tF,tF,.inl,.inl,.inl,.inl,.inl,.inl,.inl]++ [.inl,.inl,.inl,.aB [],.aB [(0,.box [.bool true,.bool c,.bool z,.bool s,.bool o])],tT,.get ([D.aq,D.aq,D.fn (Fn.func 187) [] [],D.fn (Fn.func 193) [] [.ptr false 4 0],D.fn (Fn.func 188) [] [],D.fn (Fn.func 193) [] [.ptr false 5 0],D.fn (Fn.func 191) [] [.ptr false 6 0,.ptr false 7 0],D.fn (Fn.func 193) [] [.ptr false 10 0],D.aq,D.aq,D.aq,D.aq,D.fn (Fn.func 189) [] [],D.fn (Fn.func 193) [] [.ptr false 11 0],D.fn (Fn.func 191) [] [.ptr false 12 0,.ptr false 13 0],D.fn (Fn.func 193) [] [.ptr false 16 0]]) 3 (D.fn (Fn.func 193) [] [.ptr false 4 0]) rfl,.inl,.inl]) (by kernel_rfl)).to (by (try cases c)<;>(try cases z)<;>(try cases s)<;>(try cases o)<;>first|(simp [wk,aw,dr];done)|rfl|exact ⟨rfl,rfl,trivial⟩)
theorem tc:hE 3:=by
 intro c z s o
 have c0:= @rf
 have c1:= @b8
 cases c
 ·skip
  cases z
  ·skip
   cases s
   ·skip
    cases o
    ·skip
     exact (aE.ae (d:= .aA [.bool false,.int .i64 20]) mixed Tryz.func163 (by kernel_rfl) [.ret _ _ _ c0,tF,.ret _ _ _ c1,.flat _ _ aD,tF,tF,tF,tT,tT] (by kernel_rfl)).to (by simp [wk,aw])
    ·skip
     exact (aE.ae (d:= .aA [.bool false,.int .i64 20]) mixed Tryz.func163 (by kernel_rfl) [.ret _ _ _ c0,tF,.ret _ _ _ c1,.flat _ _ aD,tT,tT,tT,tF,tT] (by kernel_rfl)).to (by simp [wk,aw])
   ·skip
    exact (aE.ae (d:= .aA [.bool false,.int .i64 20]) mixed Tryz.func163 (by kernel_rfl) [.ret _ _ _ c0,tF,.ret _ _ _ c1,.flat _ _ aD,tT,tT,tT,tF,tT] (by kernel_rfl)).to (by simp [wk,aw])
  ·skip
   exact (aE.ae (d:= .aA [.bool false,.int .i64 20]) mixed Tryz.func163 (by kernel_rfl) [.ret _ _ _ c0,tF,.ret _ _ _ c1,.flat _ _ aD,tT,tT,tT,tF,tT] (by kernel_rfl)).to (by simp [wk,aw])
 ·skip
  exact (aE.ae (d:= .aA [.bool false,.int .i64 20]) mixed Tryz.func163 (by kernel_rfl) [.ret _ _ _ c0,tF,.ret _ _ _ c1,.flat _ _ aD,tT,tT,tT,tF,tT] (by kernel_rfl)).to (by simp [wk,aw])
theorem vm:hG 4:=by
 intro c z s o
 have c0:= @re
 have c1:= @b8
 exact (aE.ae (d:= .aA [.bool z,.int .i64 0]) mixed Tryz.func163 (by kernel_rfl) ([.ret _ _ _ c0,tF,.ret _ _ _ c1,.flat _ _ aD,tT,tT,tT,tF,tF,.inl,.inl,.inl,.inl,.inl,.inl,.inl]++ [.inl,.inl,.inl,.aB [],.aB [(0,.box [.bool true,.bool c,.bool z,.bool s,.bool o])],tT,.get ([D.aq,D.aq,D.fn (Fn.func 187) [] [],D.fn (Fn.func 193) [] [.ptr false 4 0],D.fn (Fn.func 188) [] [],D.fn (Fn.func 193) [] [.ptr false 5 0],D.fn (Fn.func 191) [] [.ptr false 6 0,.ptr false 7 0],D.fn (Fn.func 193) [] [.ptr false 10 0],D.aq,D.aq,D.aq,D.aq,D.fn (Fn.func 189) [] [],D.fn (Fn.func 193) [] [.ptr false 11 0],D.fn (Fn.func 191) [] [.ptr false 12 0,.ptr false 13 0],D.fn (Fn.func 193) [] [.ptr false 16 0]]) 4 (D.fn (Fn.func 188) [] []) rfl,.inl]) (by kernel_rfl)).to (by (try cases c)<;>(try cases z)<;>(try cases s)<;>(try cases o)<;>first|(simp [wk,aw,dr];done)|rfl|exact ⟨rfl,rfl,trivial⟩)
theorem ta:hE 4:=by
 intro c z s o
 have c0:= @re
 have c1:= @b8
 cases c
 ·skip
  cases z
  ·skip
   cases s
   ·skip
    cases o
    ·skip
     exact (aE.ae (d:= .aA [.bool false,.int .i64 20]) mixed Tryz.func163 (by kernel_rfl) [.ret _ _ _ c0,tF,.ret _ _ _ c1,.flat _ _ aD,tF,tF,tF,tT,tT] (by kernel_rfl)).to (by simp [wk,aw])
    ·skip
     exact (aE.ae (d:= .aA [.bool false,.int .i64 20]) mixed Tryz.func163 (by kernel_rfl) [.ret _ _ _ c0,tF,.ret _ _ _ c1,.flat _ _ aD,tT,tT,tT,tF,tT] (by kernel_rfl)).to (by simp [wk,aw])
   ·skip
    exact (aE.ae (d:= .aA [.bool false,.int .i64 20]) mixed Tryz.func163 (by kernel_rfl) [.ret _ _ _ c0,tF,.ret _ _ _ c1,.flat _ _ aD,tT,tT,tT,tF,tT] (by kernel_rfl)).to (by simp [wk,aw])
  ·skip
   exact (aE.ae (d:= .aA [.bool false,.int .i64 20]) mixed Tryz.func163 (by kernel_rfl) [.ret _ _ _ c0,tF,.ret _ _ _ c1,.flat _ _ aD,tT,tT,tT,tF,tT] (by kernel_rfl)).to (by simp [wk,aw])
 ·skip
  exact (aE.ae (d:= .aA [.bool false,.int .i64 20]) mixed Tryz.func163 (by kernel_rfl) [.ret _ _ _ c0,tF,.ret _ _ _ c1,.flat _ _ aD,tT,tT,tT,tF,tT] (by kernel_rfl)).to (by simp [wk,aw])
theorem vk:hG 5:=by
 intro c z s o
 have c0:= @qZ
 have c1:= @b8
 exact (aE.ae (d:= .aA [.bool !z,.int .i64 0]) mixed Tryz.func163 (by kernel_rfl) ([.ret _ _ _ c0,tF,.ret _ _ _ c1,.flat _ _ aD,tT,tT,tT,tF,tF,.inl,.inl,.inl,.inl,.inl,.inl,.inl]++ [.inl,.inl,.inl,.aB [],.aB [(0,.box [.bool true,.bool c,.bool z,.bool s,.bool o])],tT,.get ([D.aq,D.aq,D.fn (Fn.func 187) [] [],D.fn (Fn.func 193) [] [.ptr false 4 0],D.fn (Fn.func 188) [] [],D.fn (Fn.func 193) [] [.ptr false 5 0],D.fn (Fn.func 191) [] [.ptr false 6 0,.ptr false 7 0],D.fn (Fn.func 193) [] [.ptr false 10 0],D.aq,D.aq,D.aq,D.aq,D.fn (Fn.func 189) [] [],D.fn (Fn.func 193) [] [.ptr false 11 0],D.fn (Fn.func 191) [] [.ptr false 12 0,.ptr false 13 0],D.fn (Fn.func 193) [] [.ptr false 16 0]]) 5 (D.fn (Fn.func 193) [] [.ptr false 5 0]) rfl,.inl,.inl]) (by kernel_rfl)).to (by (try cases c)<;>(try cases z)<;>(try cases s)<;>(try cases o)<;>first|(simp [wk,aw,dr];done)|rfl|exact ⟨rfl,rfl,trivial⟩)
theorem s9:hE 5:=by
 intro c z s o
 have c0:= @qZ
 have c1:= @b8
 cases c
 ·skip
  cases z
  ·skip
   cases s
   ·skip
    cases o
    ·skip
     exact (aE.ae (d:= .aA [.bool false,.int .i64 20]) mixed Tryz.func163 (by kernel_rfl) [.ret _ _ _ c0,tF,.ret _ _ _ c1,.flat _ _ aD,tF,tF,tF,tT,tT] (by kernel_rfl)).to (by simp [wk,aw])
    ·skip
     exact (aE.ae (d:= .aA [.bool false,.int .i64 20]) mixed Tryz.func163 (by kernel_rfl) [.ret _ _ _ c0,tF,.ret _ _ _ c1,.flat _ _ aD,tT,tT,tT,tF,tT] (by kernel_rfl)).to (by simp [wk,aw])
   ·skip
    exact (aE.ae (d:= .aA [.bool false,.int .i64 20]) mixed Tryz.func163 (by kernel_rfl) [.ret _ _ _ c0,tF,.ret _ _ _ c1,.flat _ _ aD,tT,tT,tT,tF,tT] (by kernel_rfl)).to (by simp [wk,aw])
  ·skip
   exact (aE.ae (d:= .aA [.bool false,.int .i64 20]) mixed Tryz.func163 (by kernel_rfl) [.ret _ _ _ c0,tF,.ret _ _ _ c1,.flat _ _ aD,tT,tT,tT,tF,tT] (by kernel_rfl)).to (by simp [wk,aw])
 ·skip
  exact (aE.ae (d:= .aA [.bool false,.int .i64 20]) mixed Tryz.func163 (by kernel_rfl) [.ret _ _ _ c0,tF,.ret _ _ _ c1,.flat _ _ aD,tT,tT,tT,tF,tT] (by kernel_rfl)).to (by simp [wk,aw])
theorem vj:hG 6:=by
 intro c z s o
 have c0:= @qY
 have c1:= @b8
 cases c
 ·skip
  exact (aE.ae (d:= .aA [.bool z,.int .i64 0]) mixed Tryz.func163 (by kernel_rfl) ([.ret _ _ _ c0,tF,.ret _ _ _ c1,.flat _ _ aD,tT,tT,tT,tF,tF,.inl,.inl,.inl,.inl,.inl,.inl,.inl]++ [.inl,.inl,.inl,.aB [],.aB [(0,.box [.bool true,.bool false,.bool z,.bool s,.bool o])],tT,.get ([D.aq,D.aq,D.fn (Fn.func 187) [] [],D.fn (Fn.func 193) [] [.ptr false 4 0],D.fn (Fn.func 188) [] [],D.fn (Fn.func 193) [] [.ptr false 5 0],D.fn (Fn.func 191) [] [.ptr false 6 0,.ptr false 7 0],D.fn (Fn.func 193) [] [.ptr false 10 0],D.aq,D.aq,D.aq,D.aq,D.fn (Fn.func 189) [] [],D.fn (Fn.func 193) [] [.ptr false 11 0],D.fn (Fn.func 191) [] [.ptr false 12 0,.ptr false 13 0],D.fn (Fn.func 193) [] [.ptr false 16 0]]) 6 (D.fn (Fn.func 191) [] [.ptr false 6 0,.ptr false 7 0]) rfl,.inl,.inl,tT,tT,tT,.inl,tF]) (by kernel_rfl)).to (by (try cases c)<;>(try cases z)<;>(try cases s)<;>(try cases o)<;>first|(simp [wk,aw,dr];done)|rfl|exact ⟨rfl,rfl,trivial⟩)
 ·skip
  exact (aE.ae (d:= .aA [.bool true,.int .i64 0]) mixed Tryz.func163 (by kernel_rfl) ([.ret _ _ _ c0,tF,.ret _ _ _ c1,.flat _ _ aD,tT,tT,tT,tF,tF,.inl,.inl,.inl,.inl,.inl,.inl,.inl]++ [.inl,.inl,.inl,.aB [],.aB [(0,.box [.bool true,.bool true,.bool z,.bool s,.bool o])],tT,.get ([D.aq,D.aq,D.fn (Fn.func 187) [] [],D.fn (Fn.func 193) [] [.ptr false 4 0],D.fn (Fn.func 188) [] [],D.fn (Fn.func 193) [] [.ptr false 5 0],D.fn (Fn.func 191) [] [.ptr false 6 0,.ptr false 7 0],D.fn (Fn.func 193) [] [.ptr false 10 0],D.aq,D.aq,D.aq,D.aq,D.fn (Fn.func 189) [] [],D.fn (Fn.func 193) [] [.ptr false 11 0],D.fn (Fn.func 191) [] [.ptr false 12 0,.ptr false 13 0],D.fn (Fn.func 193) [] [.ptr false 16 0]]) 6 (D.fn (Fn.func 191) [] [.ptr false 6 0,.ptr false 7 0]) rfl,.inl,.inl,tF,tF,tF,tT]) (by kernel_rfl)).to (by (try cases c)<;>(try cases z)<;>(try cases s)<;>(try cases o)<;>first|(simp [wk,aw,dr];done)|rfl|exact ⟨rfl,rfl,trivial⟩)
theorem s8:hE 6:=by
 intro c z s o
 have c0:= @qY
 have c1:= @b8
 cases c
 ·skip
  cases z
  ·skip
   cases s
   ·skip
    cases o
    ·skip
     exact (aE.ae (d:= .aA [.bool false,.int .i64 20]) mixed Tryz.func163 (by kernel_rfl) [.ret _ _ _ c0,tF,.ret _ _ _ c1,.flat _ _ aD,tF,tF,tF,tT,tT] (by kernel_rfl)).to (by simp [wk,aw])
    ·skip
     exact (aE.ae (d:= .aA [.bool false,.int .i64 20]) mixed Tryz.func163 (by kernel_rfl) [.ret _ _ _ c0,tF,.ret _ _ _ c1,.flat _ _ aD,tT,tT,tT,tF,tT] (by kernel_rfl)).to (by simp [wk,aw])
   ·skip
    exact (aE.ae (d:= .aA [.bool false,.int .i64 20]) mixed Tryz.func163 (by kernel_rfl) [.ret _ _ _ c0,tF,.ret _ _ _ c1,.flat _ _ aD,tT,tT,tT,tF,tT] (by kernel_rfl)).to (by simp [wk,aw])
  ·skip
   exact (aE.ae (d:= .aA [.bool false,.int .i64 20]) mixed Tryz.func163 (by kernel_rfl) [.ret _ _ _ c0,tF,.ret _ _ _ c1,.flat _ _ aD,tT,tT,tT,tF,tT] (by kernel_rfl)).to (by simp [wk,aw])
 ·skip
  exact (aE.ae (d:= .aA [.bool false,.int .i64 20]) mixed Tryz.func163 (by kernel_rfl) [.ret _ _ _ c0,tF,.ret _ _ _ c1,.flat _ _ aD,tT,tT,tT,tF,tT] (by kernel_rfl)).to (by simp [wk,aw])
theorem vi:hG 7:=by
 intro c z s o
 have c0:= @qX
 have c1:= @b8
 cases c
 ·skip
  exact (aE.ae (d:= .aA [.bool !z,.int .i64 0]) mixed Tryz.func163 (by kernel_rfl) ([.ret _ _ _ c0,tF,.ret _ _ _ c1,.flat _ _ aD,tT,tT,tT,tF,tF,.inl,.inl,.inl,.inl,.inl,.inl,.inl]++ [.inl,.inl,.inl,.aB [],.aB [(0,.box [.bool true,.bool false,.bool z,.bool s,.bool o])],tT,.get ([D.aq,D.aq,D.fn (Fn.func 187) [] [],D.fn (Fn.func 193) [] [.ptr false 4 0],D.fn (Fn.func 188) [] [],D.fn (Fn.func 193) [] [.ptr false 5 0],D.fn (Fn.func 191) [] [.ptr false 6 0,.ptr false 7 0],D.fn (Fn.func 193) [] [.ptr false 10 0],D.aq,D.aq,D.aq,D.aq,D.fn (Fn.func 189) [] [],D.fn (Fn.func 193) [] [.ptr false 11 0],D.fn (Fn.func 191) [] [.ptr false 12 0,.ptr false 13 0],D.fn (Fn.func 193) [] [.ptr false 16 0]]) 7 (D.fn (Fn.func 193) [] [.ptr false 10 0]) rfl,.inl,.inl,.inl,tT,tT,tT,.inl,tF]) (by kernel_rfl)).to (by (try cases c)<;>(try cases z)<;>(try cases s)<;>(try cases o)<;>first|(simp [wk,aw,dr];done)|rfl|exact ⟨rfl,rfl,trivial⟩)
 ·skip
  exact (aE.ae (d:= .aA [.bool false,.int .i64 0]) mixed Tryz.func163 (by kernel_rfl) ([.ret _ _ _ c0,tF,.ret _ _ _ c1,.flat _ _ aD,tT,tT,tT,tF,tF,.inl,.inl,.inl,.inl,.inl,.inl,.inl]++ [.inl,.inl,.inl,.aB [],.aB [(0,.box [.bool true,.bool true,.bool z,.bool s,.bool o])],tT,.get ([D.aq,D.aq,D.fn (Fn.func 187) [] [],D.fn (Fn.func 193) [] [.ptr false 4 0],D.fn (Fn.func 188) [] [],D.fn (Fn.func 193) [] [.ptr false 5 0],D.fn (Fn.func 191) [] [.ptr false 6 0,.ptr false 7 0],D.fn (Fn.func 193) [] [.ptr false 10 0],D.aq,D.aq,D.aq,D.aq,D.fn (Fn.func 189) [] [],D.fn (Fn.func 193) [] [.ptr false 11 0],D.fn (Fn.func 191) [] [.ptr false 12 0,.ptr false 13 0],D.fn (Fn.func 193) [] [.ptr false 16 0]]) 7 (D.fn (Fn.func 193) [] [.ptr false 10 0]) rfl,.inl,.inl,.inl,tF,tF,tF,tT]) (by kernel_rfl)).to (by (try cases c)<;>(try cases z)<;>(try cases s)<;>(try cases o)<;>first|(simp [wk,aw,dr];done)|rfl|exact ⟨rfl,rfl,trivial⟩)
theorem s7:hE 7:=by
 intro c z s o
 have c0:= @qX
 have c1:= @b8
 cases c
 ·skip
  cases z
  ·skip
   cases s
   ·skip
    cases o
    ·skip
     exact (aE.ae (d:= .aA [.bool false,.int .i64 20]) mixed Tryz.func163 (by kernel_rfl) [.ret _ _ _ c0,tF,.ret _ _ _ c1,.flat _ _ aD,tF,tF,tF,tT,tT] (by kernel_rfl)).to (by simp [wk,aw])
    ·skip
     exact (aE.ae (d:= .aA [.bool false,.int .i64 20]) mixed Tryz.func163 (by kernel_rfl) [.ret _ _ _ c0,tF,.ret _ _ _ c1,.flat _ _ aD,tT,tT,tT,tF,tT] (by kernel_rfl)).to (by simp [wk,aw])
   ·skip
    exact (aE.ae (d:= .aA [.bool false,.int .i64 20]) mixed Tryz.func163 (by kernel_rfl) [.ret _ _ _ c0,tF,.ret _ _ _ c1,.flat _ _ aD,tT,tT,tT,tF,tT] (by kernel_rfl)).to (by simp [wk,aw])
  ·skip
   exact (aE.ae (d:= .aA [.bool false,.int .i64 20]) mixed Tryz.func163 (by kernel_rfl) [.ret _ _ _ c0,tF,.ret _ _ _ c1,.flat _ _ aD,tT,tT,tT,tF,tT] (by kernel_rfl)).to (by simp [wk,aw])
 ·skip
  exact (aE.ae (d:= .aA [.bool false,.int .i64 20]) mixed Tryz.func163 (by kernel_rfl) [.ret _ _ _ c0,tF,.ret _ _ _ c1,.flat _ _ aD,tT,tT,tT,tF,tT] (by kernel_rfl)).to (by simp [wk,aw])
theorem th:hG 12:=by
 intro c z s o
 have c0:= @pT
 have c1:= @b8
 exact (aE.ae (d:= .aA [.bool !s==o,.int .i64 0]) mixed Tryz.func163 (by kernel_rfl) ([.ret _ _ _ c0,tF,.ret _ _ _ c1,.flat _ _ aD,tT,tT,tT,tF,tF,.inl,.inl,.inl,.inl,.inl,.inl,.inl]++ [.inl,.inl,.inl,.aB [],.aB [(0,.box [.bool true,.bool c,.bool z,.bool s,.bool o])],tT,.get ([D.aq,D.aq,D.fn (Fn.func 187) [] [],D.fn (Fn.func 193) [] [.ptr false 4 0],D.fn (Fn.func 188) [] [],D.fn (Fn.func 193) [] [.ptr false 5 0],D.fn (Fn.func 191) [] [.ptr false 6 0,.ptr false 7 0],D.fn (Fn.func 193) [] [.ptr false 10 0],D.aq,D.aq,D.aq,D.aq,D.fn (Fn.func 189) [] [],D.fn (Fn.func 193) [] [.ptr false 11 0],D.fn (Fn.func 191) [] [.ptr false 12 0,.ptr false 13 0],D.fn (Fn.func 193) [] [.ptr false 16 0]]) 12 (D.fn (Fn.func 189) [] []) rfl,.inl]) (by kernel_rfl)).to (by (try cases c)<;>(try cases z)<;>(try cases s)<;>(try cases o)<;>first|(simp [wk,aw,dr];done)|rfl|exact ⟨rfl,rfl,trivial⟩)
theorem qA:hE 12:=by
 intro c z s o
 have c0:= @pT
 have c1:= @b8
 cases c
 ·skip
  cases z
  ·skip
   cases s
   ·skip
    cases o
    ·skip
     exact (aE.ae (d:= .aA [.bool false,.int .i64 20]) mixed Tryz.func163 (by kernel_rfl) [.ret _ _ _ c0,tF,.ret _ _ _ c1,.flat _ _ aD,tF,tF,tF,tT,tT] (by kernel_rfl)).to (by simp [wk,aw])
    ·skip
     exact (aE.ae (d:= .aA [.bool false,.int .i64 20]) mixed Tryz.func163 (by kernel_rfl) [.ret _ _ _ c0,tF,.ret _ _ _ c1,.flat _ _ aD,tT,tT,tT,tF,tT] (by kernel_rfl)).to (by simp [wk,aw])
   ·skip
    exact (aE.ae (d:= .aA [.bool false,.int .i64 20]) mixed Tryz.func163 (by kernel_rfl) [.ret _ _ _ c0,tF,.ret _ _ _ c1,.flat _ _ aD,tT,tT,tT,tF,tT] (by kernel_rfl)).to (by simp [wk,aw])
  ·skip
   exact (aE.ae (d:= .aA [.bool false,.int .i64 20]) mixed Tryz.func163 (by kernel_rfl) [.ret _ _ _ c0,tF,.ret _ _ _ c1,.flat _ _ aD,tT,tT,tT,tF,tT] (by kernel_rfl)).to (by simp [wk,aw])
 ·skip
  exact (aE.ae (d:= .aA [.bool false,.int .i64 20]) mixed Tryz.func163 (by kernel_rfl) [.ret _ _ _ c0,tF,.ret _ _ _ c1,.flat _ _ aD,tT,tT,tT,tF,tT] (by kernel_rfl)).to (by simp [wk,aw])
theorem tg:hG 13:=by
 intro c z s o
 have c0:= @pS
 have c1:= @b8
 exact (aE.ae (d:= .aA [.bool !!s==o,.int .i64 0]) mixed Tryz.func163 (by kernel_rfl) ([.ret _ _ _ c0,tF,.ret _ _ _ c1,.flat _ _ aD,tT,tT,tT,tF,tF,.inl,.inl,.inl,.inl,.inl,.inl,.inl]++ [.inl,.inl,.inl,.aB [],.aB [(0,.box [.bool true,.bool c,.bool z,.bool s,.bool o])],tT,.get ([D.aq,D.aq,D.fn (Fn.func 187) [] [],D.fn (Fn.func 193) [] [.ptr false 4 0],D.fn (Fn.func 188) [] [],D.fn (Fn.func 193) [] [.ptr false 5 0],D.fn (Fn.func 191) [] [.ptr false 6 0,.ptr false 7 0],D.fn (Fn.func 193) [] [.ptr false 10 0],D.aq,D.aq,D.aq,D.aq,D.fn (Fn.func 189) [] [],D.fn (Fn.func 193) [] [.ptr false 11 0],D.fn (Fn.func 191) [] [.ptr false 12 0,.ptr false 13 0],D.fn (Fn.func 193) [] [.ptr false 16 0]]) 13 (D.fn (Fn.func 193) [] [.ptr false 11 0]) rfl,.inl,.inl]) (by kernel_rfl)).to (by (try cases c)<;>(try cases z)<;>(try cases s)<;>(try cases o)<;>first|(simp [wk,aw,dr];done)|rfl|exact ⟨rfl,rfl,trivial⟩)
theorem qz:hE 13:=by
 intro c z s o
 have c0:= @pS
 have c1:= @b8
 cases c
 ·skip
  cases z
  ·skip
   cases s
   ·skip
    cases o
    ·skip
     exact (aE.ae (d:= .aA [.bool false,.int .i64 20]) mixed Tryz.func163 (by kernel_rfl) [.ret _ _ _ c0,tF,.ret _ _ _ c1,.flat _ _ aD,tF,tF,tF,tT,tT] (by kernel_rfl)).to (by simp [wk,aw])
    ·skip
     exact (aE.ae (d:= .aA [.bool false,.int .i64 20]) mixed Tryz.func163 (by kernel_rfl) [.ret _ _ _ c0,tF,.ret _ _ _ c1,.flat _ _ aD,tT,tT,tT,tF,tT] (by kernel_rfl)).to (by simp [wk,aw])
   ·skip
    exact (aE.ae (d:= .aA [.bool false,.int .i64 20]) mixed Tryz.func163 (by kernel_rfl) [.ret _ _ _ c0,tF,.ret _ _ _ c1,.flat _ _ aD,tT,tT,tT,tF,tT] (by kernel_rfl)).to (by simp [wk,aw])
  ·skip
   exact (aE.ae (d:= .aA [.bool false,.int .i64 20]) mixed Tryz.func163 (by kernel_rfl) [.ret _ _ _ c0,tF,.ret _ _ _ c1,.flat _ _ aD,tT,tT,tT,tF,tT] (by kernel_rfl)).to (by simp [wk,aw])
 ·skip
  exact (aE.ae (d:= .aA [.bool false,.int .i64 20]) mixed Tryz.func163 (by kernel_rfl) [.ret _ _ _ c0,tF,.ret _ _ _ c1,.flat _ _ aD,tT,tT,tT,tF,tT] (by kernel_rfl)).to (by simp [wk,aw])
theorem tf:hG 14:=by
 intro c z s o
 have c0:= @pR
 have c1:= @b8
 cases z
 ·skip
  exact (aE.ae (d:= .aA [.bool !s==o,.int .i64 0]) mixed Tryz.func163 (by kernel_rfl) ([.ret _ _ _ c0,tF,.ret _ _ _ c1,.flat _ _ aD,tT,tT,tT,tF,tF,.inl,.inl,.inl,.inl,.inl,.inl,.inl]++ [.inl,.inl,.inl,.aB [],.aB [(0,.box [.bool true,.bool c,.bool false,.bool s,.bool o])],tT,.get ([D.aq,D.aq,D.fn (Fn.func 187) [] [],D.fn (Fn.func 193) [] [.ptr false 4 0],D.fn (Fn.func 188) [] [],D.fn (Fn.func 193) [] [.ptr false 5 0],D.fn (Fn.func 191) [] [.ptr false 6 0,.ptr false 7 0],D.fn (Fn.func 193) [] [.ptr false 10 0],D.aq,D.aq,D.aq,D.aq,D.fn (Fn.func 189) [] [],D.fn (Fn.func 193) [] [.ptr false 11 0],D.fn (Fn.func 191) [] [.ptr false 12 0,.ptr false 13 0],D.fn (Fn.func 193) [] [.ptr false 16 0]]) 14 (D.fn (Fn.func 191) [] [.ptr false 12 0,.ptr false 13 0]) rfl,.inl,.inl,tT,tT,tT,.inl,tF]) (by kernel_rfl)).to (by (try cases c)<;>(try cases z)<;>(try cases s)<;>(try cases o)<;>first|(simp [wk,aw,dr];done)|rfl|exact ⟨rfl,rfl,trivial⟩)
 ·skip
  exact (aE.ae (d:= .aA [.bool true,.int .i64 0]) mixed Tryz.func163 (by kernel_rfl) ([.ret _ _ _ c0,tF,.ret _ _ _ c1,.flat _ _ aD,tT,tT,tT,tF,tF,.inl,.inl,.inl,.inl,.inl,.inl,.inl]++ [.inl,.inl,.inl,.aB [],.aB [(0,.box [.bool true,.bool c,.bool true,.bool s,.bool o])],tT,.get ([D.aq,D.aq,D.fn (Fn.func 187) [] [],D.fn (Fn.func 193) [] [.ptr false 4 0],D.fn (Fn.func 188) [] [],D.fn (Fn.func 193) [] [.ptr false 5 0],D.fn (Fn.func 191) [] [.ptr false 6 0,.ptr false 7 0],D.fn (Fn.func 193) [] [.ptr false 10 0],D.aq,D.aq,D.aq,D.aq,D.fn (Fn.func 189) [] [],D.fn (Fn.func 193) [] [.ptr false 11 0],D.fn (Fn.func 191) [] [.ptr false 12 0,.ptr false 13 0],D.fn (Fn.func 193) [] [.ptr false 16 0]]) 14 (D.fn (Fn.func 191) [] [.ptr false 12 0,.ptr false 13 0]) rfl,.inl,.inl,tF,tF,tF,tT]) (by kernel_rfl)).to (by (try cases c)<;>(try cases z)<;>(try cases s)<;>(try cases o)<;>first|(simp [wk,aw,dr];done)|rfl|exact ⟨rfl,rfl,trivial⟩)
theorem qy:hE 14:=by
 intro c z s o
 have c0:= @pR
 have c1:= @b8
 cases c
 ·skip
  cases z
  ·skip
   cases s
   ·skip
    cases o
    ·skip
     exact (aE.ae (d:= .aA [.bool false,.int .i64 20]) mixed Tryz.func163 (by kernel_rfl) [.ret _ _ _ c0,tF,.ret _ _ _ c1,.flat _ _ aD,tF,tF,tF,tT,tT] (by kernel_rfl)).to (by simp [wk,aw])
    ·skip
     exact (aE.ae (d:= .aA [.bool false,.int .i64 20]) mixed Tryz.func163 (by kernel_rfl) [.ret _ _ _ c0,tF,.ret _ _ _ c1,.flat _ _ aD,tT,tT,tT,tF,tT] (by kernel_rfl)).to (by simp [wk,aw])
   ·skip
    exact (aE.ae (d:= .aA [.bool false,.int .i64 20]) mixed Tryz.func163 (by kernel_rfl) [.ret _ _ _ c0,tF,.ret _ _ _ c1,.flat _ _ aD,tT,tT,tT,tF,tT] (by kernel_rfl)).to (by simp [wk,aw])
  ·skip
   exact (aE.ae (d:= .aA [.bool false,.int .i64 20]) mixed Tryz.func163 (by kernel_rfl) [.ret _ _ _ c0,tF,.ret _ _ _ c1,.flat _ _ aD,tT,tT,tT,tF,tT] (by kernel_rfl)).to (by simp [wk,aw])
 ·skip
  exact (aE.ae (d:= .aA [.bool false,.int .i64 20]) mixed Tryz.func163 (by kernel_rfl) [.ret _ _ _ c0,tF,.ret _ _ _ c1,.flat _ _ aD,tT,tT,tT,tF,tT] (by kernel_rfl)).to (by simp [wk,aw])
theorem te:hG 15:=by
 intro c z s o
 have c0:= @pQ
 have c1:= @b8
 cases z
 ·skip
  exact (aE.ae (d:= .aA [.bool !!s==o,.int .i64 0]) mixed Tryz.func163 (by kernel_rfl) ([.ret _ _ _ c0,tF,.ret _ _ _ c1,.flat _ _ aD,tT,tT,tT,tF,tF,.inl,.inl,.inl,.inl,.inl,.inl,.inl]++ [.inl,.inl,.inl,.aB [],.aB [(0,.box [.bool true,.bool c,.bool false,.bool s,.bool o])],tT,.get ([D.aq,D.aq,D.fn (Fn.func 187) [] [],D.fn (Fn.func 193) [] [.ptr false 4 0],D.fn (Fn.func 188) [] [],D.fn (Fn.func 193) [] [.ptr false 5 0],D.fn (Fn.func 191) [] [.ptr false 6 0,.ptr false 7 0],D.fn (Fn.func 193) [] [.ptr false 10 0],D.aq,D.aq,D.aq,D.aq,D.fn (Fn.func 189) [] [],D.fn (Fn.func 193) [] [.ptr false 11 0],D.fn (Fn.func 191) [] [.ptr false 12 0,.ptr false 13 0],D.fn (Fn.func 193) [] [.ptr false 16 0]]) 15 (D.fn (Fn.func 193) [] [.ptr false 16 0]) rfl,.inl,.inl,.inl,tT,tT,tT,.inl,tF]) (by kernel_rfl)).to (by (try cases c)<;>(try cases z)<;>(try cases s)<;>(try cases o)<;>first|(simp [wk,aw,dr];done)|rfl|exact ⟨rfl,rfl,trivial⟩)
 ·skip
  exact (aE.ae (d:= .aA [.bool false,.int .i64 0]) mixed Tryz.func163 (by kernel_rfl) ([.ret _ _ _ c0,tF,.ret _ _ _ c1,.flat _ _ aD,tT,tT,tT,tF,tF,.inl,.inl,.inl,.inl,.inl,.inl,.inl]++ [.inl,.inl,.inl,.aB [],.aB [(0,.box [.bool true,.bool c,.bool true,.bool s,.bool o])],tT,.get ([D.aq,D.aq,D.fn (Fn.func 187) [] [],D.fn (Fn.func 193) [] [.ptr false 4 0],D.fn (Fn.func 188) [] [],D.fn (Fn.func 193) [] [.ptr false 5 0],D.fn (Fn.func 191) [] [.ptr false 6 0,.ptr false 7 0],D.fn (Fn.func 193) [] [.ptr false 10 0],D.aq,D.aq,D.aq,D.aq,D.fn (Fn.func 189) [] [],D.fn (Fn.func 193) [] [.ptr false 11 0],D.fn (Fn.func 191) [] [.ptr false 12 0,.ptr false 13 0],D.fn (Fn.func 193) [] [.ptr false 16 0]]) 15 (D.fn (Fn.func 193) [] [.ptr false 16 0]) rfl,.inl,.inl,.inl,tF,tF,tF,tT]) (by kernel_rfl)).to (by (try cases c)<;>(try cases z)<;>(try cases s)<;>(try cases o)<;>first|(simp [wk,aw,dr];done)|rfl|exact ⟨rfl,rfl,trivial⟩)
theorem qx:hE 15:=by
 intro c z s o
 have c0:= @pQ
 have c1:= @b8
 cases c
 ·skip
  cases z
  ·skip
   cases s
   ·skip
    cases o
    ·skip
     exact (aE.ae (d:= .aA [.bool false,.int .i64 20]) mixed Tryz.func163 (by kernel_rfl) [.ret _ _ _ c0,tF,.ret _ _ _ c1,.flat _ _ aD,tF,tF,tF,tT,tT] (by kernel_rfl)).to (by simp [wk,aw])
    ·skip
     exact (aE.ae (d:= .aA [.bool false,.int .i64 20]) mixed Tryz.func163 (by kernel_rfl) [.ret _ _ _ c0,tF,.ret _ _ _ c1,.flat _ _ aD,tT,tT,tT,tF,tT] (by kernel_rfl)).to (by simp [wk,aw])
   ·skip
    exact (aE.ae (d:= .aA [.bool false,.int .i64 20]) mixed Tryz.func163 (by kernel_rfl) [.ret _ _ _ c0,tF,.ret _ _ _ c1,.flat _ _ aD,tT,tT,tT,tF,tT] (by kernel_rfl)).to (by simp [wk,aw])
  ·skip
   exact (aE.ae (d:= .aA [.bool false,.int .i64 20]) mixed Tryz.func163 (by kernel_rfl) [.ret _ _ _ c0,tF,.ret _ _ _ c1,.flat _ _ aD,tT,tT,tT,tF,tT] (by kernel_rfl)).to (by simp [wk,aw])
 ·skip
  exact (aE.ae (d:= .aA [.bool false,.int .i64 20]) mixed Tryz.func163 (by kernel_rfl) [.ret _ _ _ c0,tF,.ret _ _ _ c1,.flat _ _ aD,tT,tT,tT,tF,tT] (by kernel_rfl)).to (by simp [wk,aw])
theorem vC {cc:Int} (h:ff cc=true):cc=2∨cc=3∨cc=4∨cc=5∨cc=6∨cc=7∨cc=12∨cc=13∨cc=14∨cc=15:=by
 simp only [ff,decide_eq_true_eq] at h;omega
theorem nN (cc:Int) (c z s o:Bool) (h:ff cc=true):aE Tryz.prog 163 [.int .i8 cc,fD true c z s o] (.aA [.bool (dr cc c z s o),.int .i64 0]):=by
 rcases vC h with rfl|rfl|rfl|rfl|rfl|rfl|rfl|rfl|rfl|rfl
 ·exact vo c z s o
 ·exact vn c z s o
 ·exact vm c z s o
 ·exact vk c z s o
 ·exact vj c z s o
 ·exact vi c z s o
 ·exact th c z s o
 ·exact tg c z s o
 ·exact tf c z s o
 ·exact te c z s o
theorem nP (cc:Int) (c z s o:Bool) (h:ff cc=true):aE Tryz.prog 163 [.int .i8 cc,fD false c z s o] (.aA [.bool false,.int .i64 20]):=by
 rcases vC h with rfl|rfl|rfl|rfl|rfl|rfl|rfl|rfl|rfl|rfl
 ·exact td c z s o
 ·exact tc c z s o
 ·exact ta c z s o
 ·exact s9 c z s o
 ·exact s8 c z s o
 ·exact s7 c z s o
 ·exact qA c z s o
 ·exact qz c z s o
 ·exact qy c z s o
 ·exact qx c z s o
theorem xb (q0 q1 q2 q3 q4 q5 q6 q7 q8 q9 bJ bM bQ bP bO bN at':Int) (fk fc fz fs fo:Bool) (w dst src base aa af cc ld:Int) (d0:0≤dst) (d1:dst≤15) (s0:0≤src) (s1:src≤15) (b0:0≤base) (b1:base≤15) (hm:cg 24 w dst src base aa af cc=true) (hd:(aP (rg [q0,q1,q2,q3,q4,q5,q6,q7,q8,q9,bJ,bM,bQ,bP,bO,bN] dst) w==0)=false) (hz:(aP q2 w==0)=true):aE Tryz.prog 83 ([.agg [.int .u64 q0,.int .u64 q1,.int .u64 q2,.int .u64 q3,.int .u64 q4,.int .u64 q5,.int .u64 q6,.int .u64 q7,.int .u64 q8,.int .u64 q9,.int .u64 bJ,.int .u64 bM,.int .u64 bQ,.int .u64 bP,.int .u64 bO,.int .u64 bN,.bool fk,.bool fc,.bool fz,.bool fs,.bool fo,.int .u64 (at')],xD 24 w dst src base aa af cc,.int .u64 ld]) (.aA [.agg [.int .u64 (u64 ((aP q0 w).tdiv (aP (rg [q0,q1,q2,q3,q4,q5,q6,q7,q8,q9,bJ,bM,bQ,bP,bO,bN] dst) w))),.int .u64 q1,.int .u64 ((aP q0 w).tmod (aP (rg [q0,q1,q2,q3,q4,q5,q6,q7,q8,q9,bJ,bM,bQ,bP,bO,bN] dst) w)),.int .u64 q3,.int .u64 q4,.int .u64 q5,.int .u64 q6,.int .u64 q7,.int .u64 q8,.int .u64 q9,.int .u64 bJ,.int .u64 bM,.int .u64 bQ,.int .u64 bP,.int .u64 bO,.int .u64 bN,.bool false,.bool false,.bool false,.bool false,.bool false,.int .u64 (u64 (at'+u64 (dz 24 w dst src base aa af cc)))],.int .i64 0]):=by
 have c0:= @aJ 24 w dst src base aa af cc (by decide)
 rw [show (cg 24 w dst src base aa af cc)=true from hm] at c0
 have c1:= @bU 24 w dst src base aa af cc (by decide)
 have c2:= @bH q0 w
 have c3:= @bH (rg [q0,q1,q2,q3,q4,q5,q6,q7,q8,q9,bJ,bM,bQ,bP,bO,bN] dst) w
 have c4:= @bH q2 w
 have c5:= @b8
 exact (jK (d:= .aA [.agg [.int .u64 (IntKind.u64.wrap (Int.tdiv (aP q0 w) (aP (rg [q0,q1,q2,q3,q4,q5,q6,q7,q8,q9,bJ,bM,bQ,bP,bO,bN] dst) w))),.int .u64 q1,.int .u64 (Int.tmod (aP q0 w) (aP (rg [q0,q1,q2,q3,q4,q5,q6,q7,q8,q9,bJ,bM,bQ,bP,bO,bN] dst) w)),.int .u64 q3,.int .u64 q4,.int .u64 q5,.int .u64 q6,.int .u64 q7,.int .u64 q8,.int .u64 q9,.int .u64 bJ,.int .u64 bM,.int .u64 bQ,.int .u64 bP,.int .u64 bO,.int .u64 bN,.bool false,.bool false,.bool false,.bool false,.bool false,.int .u64 (IntKind.u64.wrap (at'+IntKind.u64.wrap (dz 24 w dst src base aa af cc)))],.int .i64 0]) ([.ret _ _ _ c0,tF,.ret _ _ _ c1,tT,.get ([D.fn (Fn.func 117) [.ptr false 4 0] [],D.fn (Fn.func 118) [.ptr false 4 0] [],D.aq,D.aq,D.aq,D.aq,D.aq,D.aq,D.aq,D.aq,D.aq,D.aq,D.aq,D.aq,D.aq,D.aq,D.aq,D.aq,D.aq,D.aq,D.aq,D.aq,D.aq,D.aq,D.fn (Fn.func 119) [.ptr false 4 0] [],D.fn (Fn.func 120) [.ptr false 4 0] [],D.fn (Fn.func 121) [.ptr false 4 0] [],D.fn (Fn.func 122) [.ptr false 4 0] [],D.fn (Fn.func 123) [.ptr false 4 0] [],D.fn (Fn.func 124) [.ptr false 4 0] [],D.fn (Fn.func 125) [.ptr false 4 0] [],D.fn (Fn.func 126) [.ptr false 4 0] []]) 24 (D.fn (Fn.func 119) [.ptr false 4 0] []) rfl,tF,.inl,.ret _ _ _ c2,.cU (decide (0≤dst∧dst<(↑(16:Nat):Int))) true (by (simp only [dK] at*;omega)),.get _ _ _ (@kZ q0 q1 q2 q3 q4 q5 q6 q7 q8 q9 bJ bM bQ bP bO bN dst ([.bool fk,.bool fc,.bool fz,.bool fs,.bool fo,.int .u64 (IntKind.u64.wrap (at'+IntKind.u64.wrap (dz 24 w dst src base aa af cc))),.int .i8 24,.int .i8 w,.int .i8 dst,.int .i8 src,.int .i8 base,.int .i64 aa,.int .i64 af,.int .i8 cc,.int .u64 ld]) d0 d1),.ret _ _ _ c3]++List.replicate 8 (tC (eF hd))++ [.ret _ _ _ c4,tC (eF hd),tC hd,tC (nt (de 0 true (eq_of_beq hz))),tC (v:=true) (H4 hd),tC (v:=true) (H4 hd),.ret _ _ _ c5,tF]) (by kernel_rfl)).to (by first|((simp only [wk,aw,and_true];repeat' (first|rfl|exact True.intro|apply And.intro));done)|(simp [wk,aw,u64,];done))
theorem vt (q0 q1 q2 q3 q4 q5 q6 q7 q8 q9 bJ bM bQ bP bO bN at':Int) (fk fc fz fs fo:Bool) (w dst src base aa af cc ld:Int) (d0:0≤dst) (d1:dst≤15) (s0:0≤src) (s1:src≤15) (b0:0≤base) (b1:base≤15) (hm:cg 24 w dst src base aa af cc=true) (hd:(aP (rg [q0,q1,q2,q3,q4,q5,q6,q7,q8,q9,bJ,bM,bQ,bP,bO,bN] dst) w==0)=true):aE Tryz.prog 83 ([.agg [.int .u64 q0,.int .u64 q1,.int .u64 q2,.int .u64 q3,.int .u64 q4,.int .u64 q5,.int .u64 q6,.int .u64 q7,.int .u64 q8,.int .u64 q9,.int .u64 bJ,.int .u64 bM,.int .u64 bQ,.int .u64 bP,.int .u64 bO,.int .u64 bN,.bool fk,.bool fc,.bool fz,.bool fs,.bool fo,.int .u64 (at')],xD 24 w dst src base aa af cc,.int .u64 ld]) (.aA [.agg [.int .u64 (0),.int .u64 (0),.int .u64 (0),.int .u64 (0),.int .u64 (0),.int .u64 (0),.int .u64 (0),.int .u64 (0),.int .u64 (0),.int .u64 (0),.int .u64 (0),.int .u64 (0),.int .u64 (0),.int .u64 (0),.int .u64 (0),.int .u64 (0),.bool false,.bool false,.bool false,.bool false,.bool false,.int .u64 (0)],.int .i64 20]):=by
 have c0:= @aJ 24 w dst src base aa af cc (by decide)
 rw [show (cg 24 w dst src base aa af cc)=true from hm] at c0
 have c1:= @bU 24 w dst src base aa af cc (by decide)
 have c2:= @bH q0 w
 have c3:= @bH (rg [q0,q1,q2,q3,q4,q5,q6,q7,q8,q9,bJ,bM,bQ,bP,bO,bN] dst) w
 exact (jK (d:= .aA [.agg [.int .u64 0,.int .u64 0,.int .u64 0,.int .u64 0,.int .u64 0,.int .u64 0,.int .u64 0,.int .u64 0,.int .u64 0,.int .u64 0,.int .u64 0,.int .u64 0,.int .u64 0,.int .u64 0,.int .u64 0,.int .u64 0,.bool false,.bool false,.bool false,.bool false,.bool false,.int .u64 0],.int .i64 20]) ([.ret _ _ _ c0,tF,.ret _ _ _ c1,tT,.get ([D.fn (Fn.func 117) [.ptr false 4 0] [],D.fn (Fn.func 118) [.ptr false 4 0] [],D.aq,D.aq,D.aq,D.aq,D.aq,D.aq,D.aq,D.aq,D.aq,D.aq,D.aq,D.aq,D.aq,D.aq,D.aq,D.aq,D.aq,D.aq,D.aq,D.aq,D.aq,D.aq,D.fn (Fn.func 119) [.ptr false 4 0] [],D.fn (Fn.func 120) [.ptr false 4 0] [],D.fn (Fn.func 121) [.ptr false 4 0] [],D.fn (Fn.func 122) [.ptr false 4 0] [],D.fn (Fn.func 123) [.ptr false 4 0] [],D.fn (Fn.func 124) [.ptr false 4 0] [],D.fn (Fn.func 125) [.ptr false 4 0] [],D.fn (Fn.func 126) [.ptr false 4 0] []]) 24 (D.fn (Fn.func 119) [.ptr false 4 0] []) rfl,tF,.inl,.ret _ _ _ c2,.cU (decide (0≤dst∧dst<(↑(16:Nat):Int))) true (by (simp only [dK] at*;omega)),.get _ _ _ (@kZ q0 q1 q2 q3 q4 q5 q6 q7 q8 q9 bJ bM bQ bP bO bN dst ([.bool fk,.bool fc,.bool fz,.bool fs,.bool fo,.int .u64 (IntKind.u64.wrap (at'+IntKind.u64.wrap (dz 24 w dst src base aa af cc))),.int .i8 24,.int .i8 w,.int .i8 dst,.int .i8 src,.int .i8 base,.int .i64 aa,.int .i64 af,.int .i8 cc,.int .u64 ld]) d0 d1),.ret _ _ _ c3]++List.replicate 9 (tC (eF (de 0 true (eq_of_beq hd))))++ [tC (de 0 true (eq_of_beq hd)),tT,tT]) (by kernel_rfl)).to (by first|((simp only [wk,aw,and_true];repeat' (first|rfl|exact True.intro|apply And.intro));done)|(simp [wk,aw,u64,];done))
theorem vr (q0 q1 q2 q3 q4 q5 q6 q7 q8 q9 bJ bM bQ bP bO bN at':Int) (fk fc fz fs fo:Bool) (w dst src base aa af cc ld:Int) (d0:0≤dst) (d1:dst≤15) (s0:0≤src) (s1:src≤15) (b0:0≤base) (b1:base≤15) (hm:cg 24 w dst src base aa af cc=true) (hd:(aP (rg [q0,q1,q2,q3,q4,q5,q6,q7,q8,q9,bJ,bM,bQ,bP,bO,bN] dst) w==0)=false) (hz:(aP q2 w==0)=false):aE Tryz.prog 83 ([.agg [.int .u64 q0,.int .u64 q1,.int .u64 q2,.int .u64 q3,.int .u64 q4,.int .u64 q5,.int .u64 q6,.int .u64 q7,.int .u64 q8,.int .u64 q9,.int .u64 bJ,.int .u64 bM,.int .u64 bQ,.int .u64 bP,.int .u64 bO,.int .u64 bN,.bool fk,.bool fc,.bool fz,.bool fs,.bool fo,.int .u64 (at')],xD 24 w dst src base aa af cc,.int .u64 ld]) (.aA [.agg [.int .u64 (0),.int .u64 (0),.int .u64 (0),.int .u64 (0),.int .u64 (0),.int .u64 (0),.int .u64 (0),.int .u64 (0),.int .u64 (0),.int .u64 (0),.int .u64 (0),.int .u64 (0),.int .u64 (0),.int .u64 (0),.int .u64 (0),.int .u64 (0),.bool false,.bool false,.bool false,.bool false,.bool false,.int .u64 (0)],.int .i64 20]):=by
 have c0:= @aJ 24 w dst src base aa af cc (by decide)
 rw [show (cg 24 w dst src base aa af cc)=true from hm] at c0
 have c1:= @bU 24 w dst src base aa af cc (by decide)
 have c2:= @bH q0 w
 have c3:= @bH (rg [q0,q1,q2,q3,q4,q5,q6,q7,q8,q9,bJ,bM,bQ,bP,bO,bN] dst) w
 have c4:= @bH q2 w
 exact (jK (d:= .aA [.agg [.int .u64 0,.int .u64 0,.int .u64 0,.int .u64 0,.int .u64 0,.int .u64 0,.int .u64 0,.int .u64 0,.int .u64 0,.int .u64 0,.int .u64 0,.int .u64 0,.int .u64 0,.int .u64 0,.int .u64 0,.int .u64 0,.bool false,.bool false,.bool false,.bool false,.bool false,.int .u64 0],.int .i64 20]) ([.ret _ _ _ c0,tF,.ret _ _ _ c1,tT,.get ([D.fn (Fn.func 117) [.ptr false 4 0] [],D.fn (Fn.func 118) [.ptr false 4 0] [],D.aq,D.aq,D.aq,D.aq,D.aq,D.aq,D.aq,D.aq,D.aq,D.aq,D.aq,D.aq,D.aq,D.aq,D.aq,D.aq,D.aq,D.aq,D.aq,D.aq,D.aq,D.aq,D.fn (Fn.func 119) [.ptr false 4 0] [],D.fn (Fn.func 120) [.ptr false 4 0] [],D.fn (Fn.func 121) [.ptr false 4 0] [],D.fn (Fn.func 122) [.ptr false 4 0] [],D.fn (Fn.func 123) [.ptr false 4 0] [],D.fn (Fn.func 124) [.ptr false 4 0] [],D.fn (Fn.func 125) [.ptr false 4 0] [],D.fn (Fn.func 126) [.ptr false 4 0] []]) 24 (D.fn (Fn.func 119) [.ptr false 4 0] []) rfl,tF,.inl,.ret _ _ _ c2,.cU (decide (0≤dst∧dst<(↑(16:Nat):Int))) true (by (simp only [dK] at*;omega)),.get _ _ _ (@kZ q0 q1 q2 q3 q4 q5 q6 q7 q8 q9 bJ bM bQ bP bO bN dst ([.bool fk,.bool fc,.bool fz,.bool fs,.bool fo,.int .u64 (IntKind.u64.wrap (at'+IntKind.u64.wrap (dz 24 w dst src base aa af cc))),.int .i8 24,.int .i8 w,.int .i8 dst,.int .i8 src,.int .i8 base,.int .i64 aa,.int .i64 af,.int .i8 cc,.int .u64 ld]) d0 d1),.ret _ _ _ c3]++List.replicate 8 (tC (eF hd))++ [.ret _ _ _ c4,tC (eF hd),tC hd,tC (nt hz),tT]) (by kernel_rfl)).to (by first|((simp only [wk,aw,and_true];repeat' (first|rfl|exact True.intro|apply And.intro));done)|(simp [wk,aw,u64,];done))
theorem xa (q0 q1 q2 q3 q4 q5 q6 q7 q8 q9 bJ bM bQ bP bO bN at':Int) (fc fz fs fo:Bool) (w dst src base aa af cc ld:Int) (d0:0≤dst) (d1:dst≤15) (s0:0≤src) (s1:src≤15) (b0:0≤base) (b1:base≤15) (hm:cg 25 w dst src base aa af cc=true) (hcc:ff cc=true):aE Tryz.prog 83 ([.agg [.int .u64 q0,.int .u64 q1,.int .u64 q2,.int .u64 q3,.int .u64 q4,.int .u64 q5,.int .u64 q6,.int .u64 q7,.int .u64 q8,.int .u64 q9,.int .u64 bJ,.int .u64 bM,.int .u64 bQ,.int .u64 bP,.int .u64 bO,.int .u64 bN,.bool true,.bool fc,.bool fz,.bool fs,.bool fo,.int .u64 (at')],xD 25 w dst src base aa af cc,.int .u64 ld]) (.aA [.agg [.int .u64 (st 0 dst (aP (if dr cc fc fz fs fo then rg [q0,q1,q2,q3,q4,q5,q6,q7,q8,q9,bJ,bM,bQ,bP,bO,bN] src else rg [q0,q1,q2,q3,q4,q5,q6,q7,q8,q9,bJ,bM,bQ,bP,bO,bN] dst) w) q0),.int .u64 (st 1 dst (aP (if dr cc fc fz fs fo then rg [q0,q1,q2,q3,q4,q5,q6,q7,q8,q9,bJ,bM,bQ,bP,bO,bN] src else rg [q0,q1,q2,q3,q4,q5,q6,q7,q8,q9,bJ,bM,bQ,bP,bO,bN] dst) w) q1),.int .u64 (st 2 dst (aP (if dr cc fc fz fs fo then rg [q0,q1,q2,q3,q4,q5,q6,q7,q8,q9,bJ,bM,bQ,bP,bO,bN] src else rg [q0,q1,q2,q3,q4,q5,q6,q7,q8,q9,bJ,bM,bQ,bP,bO,bN] dst) w) q2),.int .u64 (st 3 dst (aP (if dr cc fc fz fs fo then rg [q0,q1,q2,q3,q4,q5,q6,q7,q8,q9,bJ,bM,bQ,bP,bO,bN] src else rg [q0,q1,q2,q3,q4,q5,q6,q7,q8,q9,bJ,bM,bQ,bP,bO,bN] dst) w) q3),.int .u64 (st 4 dst (aP (if dr cc fc fz fs fo then rg [q0,q1,q2,q3,q4,q5,q6,q7,q8,q9,bJ,bM,bQ,bP,bO,bN] src else rg [q0,q1,q2,q3,q4,q5,q6,q7,q8,q9,bJ,bM,bQ,bP,bO,bN] dst) w) q4),.int .u64 (st 5 dst (aP (if dr cc fc fz fs fo then rg [q0,q1,q2,q3,q4,q5,q6,q7,q8,q9,bJ,bM,bQ,bP,bO,bN] src else rg [q0,q1,q2,q3,q4,q5,q6,q7,q8,q9,bJ,bM,bQ,bP,bO,bN] dst) w) q5),.int .u64 (st 6 dst (aP (if dr cc fc fz fs fo then rg [q0,q1,q2,q3,q4,q5,q6,q7,q8,q9,bJ,bM,bQ,bP,bO,bN] src else rg [q0,q1,q2,q3,q4,q5,q6,q7,q8,q9,bJ,bM,bQ,bP,bO,bN] dst) w) q6),.int .u64 (st 7 dst (aP (if dr cc fc fz fs fo then rg [q0,q1,q2,q3,q4,q5,q6,q7,q8,q9,bJ,bM,bQ,bP,bO,bN] src else rg [q0,q1,q2,q3,q4,q5,q6,q7,q8,q9,bJ,bM,bQ,bP,bO,bN] dst) w) q7),.int .u64 (st 8 dst (aP (if dr cc fc fz fs fo then rg [q0,q1,q2,q3,q4,q5,q6,q7,q8,q9,bJ,bM,bQ,bP,bO,bN] src else rg [q0,q1,q2,q3,q4,q5,q6,q7,q8,q9,bJ,bM,bQ,bP,bO,bN] dst) w) q8),.int .u64 (st 9 dst (aP (if dr cc fc fz fs fo then rg [q0,q1,q2,q3,q4,q5,q6,q7,q8,q9,bJ,bM,bQ,bP,bO,bN] src else rg [q0,q1,q2,q3,q4,q5,q6,q7,q8,q9,bJ,bM,bQ,bP,bO,bN] dst) w) q9),.int .u64 (st 10 dst (aP (if dr cc fc fz fs fo then rg [q0,q1,q2,q3,q4,q5,q6,q7,q8,q9,bJ,bM,bQ,bP,bO,bN] src else rg [q0,q1,q2,q3,q4,q5,q6,q7,q8,q9,bJ,bM,bQ,bP,bO,bN] dst) w) bJ),.int .u64 (st 11 dst (aP (if dr cc fc fz fs fo then rg [q0,q1,q2,q3,q4,q5,q6,q7,q8,q9,bJ,bM,bQ,bP,bO,bN] src else rg [q0,q1,q2,q3,q4,q5,q6,q7,q8,q9,bJ,bM,bQ,bP,bO,bN] dst) w) bM),.int .u64 (st 12 dst (aP (if dr cc fc fz fs fo then rg [q0,q1,q2,q3,q4,q5,q6,q7,q8,q9,bJ,bM,bQ,bP,bO,bN] src else rg [q0,q1,q2,q3,q4,q5,q6,q7,q8,q9,bJ,bM,bQ,bP,bO,bN] dst) w) bQ),.int .u64 (st 13 dst (aP (if dr cc fc fz fs fo then rg [q0,q1,q2,q3,q4,q5,q6,q7,q8,q9,bJ,bM,bQ,bP,bO,bN] src else rg [q0,q1,q2,q3,q4,q5,q6,q7,q8,q9,bJ,bM,bQ,bP,bO,bN] dst) w) bP),.int .u64 (st 14 dst (aP (if dr cc fc fz fs fo then rg [q0,q1,q2,q3,q4,q5,q6,q7,q8,q9,bJ,bM,bQ,bP,bO,bN] src else rg [q0,q1,q2,q3,q4,q5,q6,q7,q8,q9,bJ,bM,bQ,bP,bO,bN] dst) w) bO),.int .u64 (st 15 dst (aP (if dr cc fc fz fs fo then rg [q0,q1,q2,q3,q4,q5,q6,q7,q8,q9,bJ,bM,bQ,bP,bO,bN] src else rg [q0,q1,q2,q3,q4,q5,q6,q7,q8,q9,bJ,bM,bQ,bP,bO,bN] dst) w) bN),.bool true,.bool fc,.bool fz,.bool fs,.bool fo,.int .u64 (u64 (at'+u64 (dz 25 w dst src base aa af cc)))],.int .i64 0]):=by
 have c0:= @aJ 25 w dst src base aa af cc (by decide)
 rw [show (cg 25 w dst src base aa af cc)=true from hm] at c0
 have c1:= @bU 25 w dst src base aa af cc (by decide)
 have c2:= @nN cc fc fz fs fo hcc
 let E1:EL:= [.ret _ _ _ c0,tF,.ret _ _ _ c1,tT,.get ([D.fn (Fn.func 117) [.ptr false 4 0] [],D.fn (Fn.func 118) [.ptr false 4 0] [],D.aq,D.aq,D.aq,D.aq,D.aq,D.aq,D.aq,D.aq,D.aq,D.aq,D.aq,D.aq,D.aq,D.aq,D.aq,D.aq,D.aq,D.aq,D.aq,D.aq,D.aq,D.aq,D.fn (Fn.func 119) [.ptr false 4 0] [],D.fn (Fn.func 120) [.ptr false 4 0] [],D.fn (Fn.func 121) [.ptr false 4 0] [],D.fn (Fn.func 122) [.ptr false 4 0] [],D.fn (Fn.func 123) [.ptr false 4 0] [],D.fn (Fn.func 124) [.ptr false 4 0] [],D.fn (Fn.func 125) [.ptr false 4 0] [],D.fn (Fn.func 126) [.ptr false 4 0] []]) 25 (D.fn (Fn.func 120) [.ptr false 4 0] []) rfl,tF,.inl,.inl,.ret _ _ _ c2,tF]
 rcases dT (dr cc fc fz fs fo) with h3|h3
 ·have c4:= @bH (rg [q0,q1,q2,q3,q4,q5,q6,q7,q8,q9,bJ,bM,bQ,bP,bO,bN] src) w
  exact (jK (d:= .aA [.agg [.int .u64 (st 0 dst (aP (rg [q0,q1,q2,q3,q4,q5,q6,q7,q8,q9,bJ,bM,bQ,bP,bO,bN] src) w) q0),.int .u64 (st 1 dst (aP (rg [q0,q1,q2,q3,q4,q5,q6,q7,q8,q9,bJ,bM,bQ,bP,bO,bN] src) w) q1),.int .u64 (st 2 dst (aP (rg [q0,q1,q2,q3,q4,q5,q6,q7,q8,q9,bJ,bM,bQ,bP,bO,bN] src) w) q2),.int .u64 (st 3 dst (aP (rg [q0,q1,q2,q3,q4,q5,q6,q7,q8,q9,bJ,bM,bQ,bP,bO,bN] src) w) q3),.int .u64 (st 4 dst (aP (rg [q0,q1,q2,q3,q4,q5,q6,q7,q8,q9,bJ,bM,bQ,bP,bO,bN] src) w) q4),.int .u64 (st 5 dst (aP (rg [q0,q1,q2,q3,q4,q5,q6,q7,q8,q9,bJ,bM,bQ,bP,bO,bN] src) w) q5),.int .u64 (st 6 dst (aP (rg [q0,q1,q2,q3,q4,q5,q6,q7,q8,q9,bJ,bM,bQ,bP,bO,bN] src) w) q6),.int .u64 (st 7 dst (aP (rg [q0,q1,q2,q3,q4,q5,q6,q7,q8,q9,bJ,bM,bQ,bP,bO,bN] src) w) q7),.int .u64 (st 8 dst (aP (rg [q0,q1,q2,q3,q4,q5,q6,q7,q8,q9,bJ,bM,bQ,bP,bO,bN] src) w) q8),.int .u64 (st 9 dst (aP (rg [q0,q1,q2,q3,q4,q5,q6,q7,q8,q9,bJ,bM,bQ,bP,bO,bN] src) w) q9),.int .u64 (st 10 dst (aP (rg [q0,q1,q2,q3,q4,q5,q6,q7,q8,q9,bJ,bM,bQ,bP,bO,bN] src) w) bJ),.int .u64 (st 11 dst (aP (rg [q0,q1,q2,q3,q4,q5,q6,q7,q8,q9,bJ,bM,bQ,bP,bO,bN] src) w) bM),.int .u64 (st 12 dst (aP (rg [q0,q1,q2,q3,q4,q5,q6,q7,q8,q9,bJ,bM,bQ,bP,bO,bN] src) w) bQ),.int .u64 (st 13 dst (aP (rg [q0,q1,q2,q3,q4,q5,q6,q7,q8,q9,bJ,bM,bQ,bP,bO,bN] src) w) bP),.int .u64 (st 14 dst (aP (rg [q0,q1,q2,q3,q4,q5,q6,q7,q8,q9,bJ,bM,bQ,bP,bO,bN] src) w) bO),.int .u64 (st 15 dst (aP (rg [q0,q1,q2,q3,q4,q5,q6,q7,q8,q9,bJ,bM,bQ,bP,bO,bN] src) w) bN),.bool true,.bool fc,.bool fz,.bool fs,.bool fo,.int .u64 (IntKind.u64.wrap (at'+IntKind.u64.wrap (dz 25 w dst src base aa af cc)))],.int .i64 0]) (E1++ [tC h3,.inl,.cU (decide (0≤src∧src<(↑(16:Nat):Int))) true (by (simp only [dK] at*;omega)),.get _ _ _ (@kZ q0 q1 q2 q3 q4 q5 q6 q7 q8 q9 bJ bM bQ bP bO bN src ([.bool true,.bool fc,.bool fz,.bool fs,.bool fo,.int .u64 (IntKind.u64.wrap (at'+IntKind.u64.wrap (dz 25 w dst src base aa af cc))),.int .i8 25,.int .i8 w,.int .i8 dst,.int .i8 src,.int .i8 base,.int .i64 aa,.int .i64 af,.int .i8 cc,.int .u64 ld]) s0 s1),.inl,.ret _ _ _ c4,.cU (decide (0≤dst∧dst<(↑(16:Nat):Int))) true (by (simp only [dK] at*;omega)),.cm _ _ _ _ (@sD q0 q1 q2 q3 q4 q5 q6 q7 q8 q9 bJ bM bQ bP bO bN dst (aP (rg [q0,q1,q2,q3,q4,q5,q6,q7,q8,q9,bJ,bM,bQ,bP,bO,bN] src) w) ([.bool true,.bool fc,.bool fz,.bool fs,.bool fo,.int .u64 (IntKind.u64.wrap (at'+IntKind.u64.wrap (dz 25 w dst src base aa af cc))),.int .i8 25,.int .i8 w,.int .i8 dst,.int .i8 src,.int .i8 base,.int .i64 aa,.int .i64 af,.int .i8 cc,.int .u64 ld]) d0 d1),tF]) (by kernel_rfl)).to (by clear E1;first|((simp only [wk,aw,and_true];repeat' (first|rfl|exact True.intro|apply And.intro));done)|(simp [wk,aw,u64,h3];done))
 have c5:= @bH (rg [q0,q1,q2,q3,q4,q5,q6,q7,q8,q9,bJ,bM,bQ,bP,bO,bN] dst) w
 exact (jK (d:= .aA [.agg [.int .u64 (st 0 dst (aP (rg [q0,q1,q2,q3,q4,q5,q6,q7,q8,q9,bJ,bM,bQ,bP,bO,bN] dst) w) q0),.int .u64 (st 1 dst (aP (rg [q0,q1,q2,q3,q4,q5,q6,q7,q8,q9,bJ,bM,bQ,bP,bO,bN] dst) w) q1),.int .u64 (st 2 dst (aP (rg [q0,q1,q2,q3,q4,q5,q6,q7,q8,q9,bJ,bM,bQ,bP,bO,bN] dst) w) q2),.int .u64 (st 3 dst (aP (rg [q0,q1,q2,q3,q4,q5,q6,q7,q8,q9,bJ,bM,bQ,bP,bO,bN] dst) w) q3),.int .u64 (st 4 dst (aP (rg [q0,q1,q2,q3,q4,q5,q6,q7,q8,q9,bJ,bM,bQ,bP,bO,bN] dst) w) q4),.int .u64 (st 5 dst (aP (rg [q0,q1,q2,q3,q4,q5,q6,q7,q8,q9,bJ,bM,bQ,bP,bO,bN] dst) w) q5),.int .u64 (st 6 dst (aP (rg [q0,q1,q2,q3,q4,q5,q6,q7,q8,q9,bJ,bM,bQ,bP,bO,bN] dst) w) q6),.int .u64 (st 7 dst (aP (rg [q0,q1,q2,q3,q4,q5,q6,q7,q8,q9,bJ,bM,bQ,bP,bO,bN] dst) w) q7),.int .u64 (st 8 dst (aP (rg [q0,q1,q2,q3,q4,q5,q6,q7,q8,q9,bJ,bM,bQ,bP,bO,bN] dst) w) q8),.int .u64 (st 9 dst (aP (rg [q0,q1,q2,q3,q4,q5,q6,q7,q8,q9,bJ,bM,bQ,bP,bO,bN] dst) w) q9),.int .u64 (st 10 dst (aP (rg [q0,q1,q2,q3,q4,q5,q6,q7,q8,q9,bJ,bM,bQ,bP,bO,bN] dst) w) bJ),.int .u64 (st 11 dst (aP (rg [q0,q1,q2,q3,q4,q5,q6,q7,q8,q9,bJ,bM,bQ,bP,bO,bN] dst) w) bM),.int .u64 (st 12 dst (aP (rg [q0,q1,q2,q3,q4,q5,q6,q7,q8,q9,bJ,bM,bQ,bP,bO,bN] dst) w) bQ),.int .u64 (st 13 dst (aP (rg [q0,q1,q2,q3,q4,q5,q6,q7,q8,q9,bJ,bM,bQ,bP,bO,bN] dst) w) bP),.int .u64 (st 14 dst (aP (rg [q0,q1,q2,q3,q4,q5,q6,q7,q8,q9,bJ,bM,bQ,bP,bO,bN] dst) w) bO),.int .u64 (st 15 dst (aP (rg [q0,q1,q2,q3,q4,q5,q6,q7,q8,q9,bJ,bM,bQ,bP,bO,bN] dst) w) bN),.bool true,.bool fc,.bool fz,.bool fs,.bool fo,.int .u64 (IntKind.u64.wrap (at'+IntKind.u64.wrap (dz 25 w dst src base aa af cc)))],.int .i64 0]) (E1++ [tC h3,.cU (decide (0≤dst∧dst<(↑(16:Nat):Int))) true (by (simp only [dK] at*;omega)),.get _ _ _ (@kZ q0 q1 q2 q3 q4 q5 q6 q7 q8 q9 bJ bM bQ bP bO bN dst ([.bool true,.bool fc,.bool fz,.bool fs,.bool fo,.int .u64 (IntKind.u64.wrap (at'+IntKind.u64.wrap (dz 25 w dst src base aa af cc))),.int .i8 25,.int .i8 w,.int .i8 dst,.int .i8 src,.int .i8 base,.int .i64 aa,.int .i64 af,.int .i8 cc,.int .u64 ld]) d0 d1),.inl,.ret _ _ _ c5,.cU (decide (0≤dst∧dst<(↑(16:Nat):Int))) true (by (simp only [dK] at*;omega)),.cm _ _ _ _ (@sD q0 q1 q2 q3 q4 q5 q6 q7 q8 q9 bJ bM bQ bP bO bN dst (aP (rg [q0,q1,q2,q3,q4,q5,q6,q7,q8,q9,bJ,bM,bQ,bP,bO,bN] dst) w) ([.bool true,.bool fc,.bool fz,.bool fs,.bool fo,.int .u64 (IntKind.u64.wrap (at'+IntKind.u64.wrap (dz 25 w dst src base aa af cc))),.int .i8 25,.int .i8 w,.int .i8 dst,.int .i8 src,.int .i8 base,.int .i64 aa,.int .i64 af,.int .i8 cc,.int .u64 ld]) d0 d1),tF]) (by kernel_rfl)).to (by clear E1;first|((simp only [wk,aw,and_true];repeat' (first|rfl|exact True.intro|apply And.intro));done)|(simp [wk,aw,u64,h3];done))
theorem vq (q0 q1 q2 q3 q4 q5 q6 q7 q8 q9 bJ bM bQ bP bO bN at':Int) (fc fz fs fo:Bool) (w dst src base aa af cc ld:Int) (d0:0≤dst) (d1:dst≤15) (s0:0≤src) (s1:src≤15) (b0:0≤base) (b1:base≤15) (hm:cg 25 w dst src base aa af cc=true) (hcc:ff cc=true):aE Tryz.prog 83 ([.agg [.int .u64 q0,.int .u64 q1,.int .u64 q2,.int .u64 q3,.int .u64 q4,.int .u64 q5,.int .u64 q6,.int .u64 q7,.int .u64 q8,.int .u64 q9,.int .u64 bJ,.int .u64 bM,.int .u64 bQ,.int .u64 bP,.int .u64 bO,.int .u64 bN,.bool false,.bool fc,.bool fz,.bool fs,.bool fo,.int .u64 (at')],xD 25 w dst src base aa af cc,.int .u64 ld]) (.aA [.agg [.int .u64 (0),.int .u64 (0),.int .u64 (0),.int .u64 (0),.int .u64 (0),.int .u64 (0),.int .u64 (0),.int .u64 (0),.int .u64 (0),.int .u64 (0),.int .u64 (0),.int .u64 (0),.int .u64 (0),.int .u64 (0),.int .u64 (0),.int .u64 (0),.bool false,.bool false,.bool false,.bool false,.bool false,.int .u64 (0)],.int .i64 20]):=by
 have c0:= @aJ 25 w dst src base aa af cc (by decide)
 rw [show (cg 25 w dst src base aa af cc)=true from hm] at c0
 have c1:= @bU 25 w dst src base aa af cc (by decide)
 have c2:= @nP cc fc fz fs fo hcc
 exact (jK (d:= .aA [.agg [.int .u64 0,.int .u64 0,.int .u64 0,.int .u64 0,.int .u64 0,.int .u64 0,.int .u64 0,.int .u64 0,.int .u64 0,.int .u64 0,.int .u64 0,.int .u64 0,.int .u64 0,.int .u64 0,.int .u64 0,.int .u64 0,.bool false,.bool false,.bool false,.bool false,.bool false,.int .u64 0],.int .i64 20]) [.ret _ _ _ c0,tF,.ret _ _ _ c1,tT,.get ([D.fn (Fn.func 117) [.ptr false 4 0] [],D.fn (Fn.func 118) [.ptr false 4 0] [],D.aq,D.aq,D.aq,D.aq,D.aq,D.aq,D.aq,D.aq,D.aq,D.aq,D.aq,D.aq,D.aq,D.aq,D.aq,D.aq,D.aq,D.aq,D.aq,D.aq,D.aq,D.aq,D.fn (Fn.func 119) [.ptr false 4 0] [],D.fn (Fn.func 120) [.ptr false 4 0] [],D.fn (Fn.func 121) [.ptr false 4 0] [],D.fn (Fn.func 122) [.ptr false 4 0] [],D.fn (Fn.func 123) [.ptr false 4 0] [],D.fn (Fn.func 124) [.ptr false 4 0] [],D.fn (Fn.func 125) [.ptr false 4 0] [],D.fn (Fn.func 126) [.ptr false 4 0] []]) 25 (D.fn (Fn.func 120) [.ptr false 4 0] []) rfl,tF,.inl,.inl,.ret _ _ _ c2,tT,tT] (by kernel_rfl)).to (by first|((simp only [wk,aw,and_true];repeat' (first|rfl|exact True.intro|apply And.intro));done)|(simp [wk,aw,u64,];done))
theorem w6 (q0 q1 q2 q3 q4 q5 q6 q7 q8 q9 bJ bM bQ bP bO bN at':Int) (fc fz fs fo:Bool) (w dst src base aa af cc ld:Int) (d0:0≤dst) (d1:dst≤15) (s0:0≤src) (s1:src≤15) (b0:0≤base) (b1:base≤15) (hm:cg 29 w dst src base aa af cc=true) (hcc:ff cc=true):aE Tryz.prog 83 ([.agg [.int .u64 q0,.int .u64 q1,.int .u64 q2,.int .u64 q3,.int .u64 q4,.int .u64 q5,.int .u64 q6,.int .u64 q7,.int .u64 q8,.int .u64 q9,.int .u64 bJ,.int .u64 bM,.int .u64 bQ,.int .u64 bP,.int .u64 bO,.int .u64 bN,.bool true,.bool fc,.bool fz,.bool fs,.bool fo,.int .u64 (at')],xD 29 w dst src base aa af cc,.int .u64 ld]) (.aA [.agg [.int .u64 q0,.int .u64 q1,.int .u64 q2,.int .u64 q3,.int .u64 q4,.int .u64 q5,.int .u64 q6,.int .u64 q7,.int .u64 q8,.int .u64 q9,.int .u64 bJ,.int .u64 bM,.int .u64 bQ,.int .u64 bP,.int .u64 bO,.int .u64 bN,.bool true,.bool fc,.bool fz,.bool fs,.bool fo,.int .u64 (if dr cc fc fz fs fo then u64 (u64 (at'+u64 (dz 29 w dst src base aa af cc))+u64 af) else u64 (at'+u64 (dz 29 w dst src base aa af cc)))],.int .i64 0]):=by
 have c0:= @aJ 29 w dst src base aa af cc (by decide)
 rw [show (cg 29 w dst src base aa af cc)=true from hm] at c0
 have c1:= @bU 29 w dst src base aa af cc (by decide)
 have c2:= @nN cc fc fz fs fo hcc
 let E1:EL:= [.ret _ _ _ c0,tF,.ret _ _ _ c1,tT,.get ([D.fn (Fn.func 117) [.ptr false 4 0] [],D.fn (Fn.func 118) [.ptr false 4 0] [],D.aq,D.aq,D.aq,D.aq,D.aq,D.aq,D.aq,D.aq,D.aq,D.aq,D.aq,D.aq,D.aq,D.aq,D.aq,D.aq,D.aq,D.aq,D.aq,D.aq,D.aq,D.aq,D.fn (Fn.func 119) [.ptr false 4 0] [],D.fn (Fn.func 120) [.ptr false 4 0] [],D.fn (Fn.func 121) [.ptr false 4 0] [],D.fn (Fn.func 122) [.ptr false 4 0] [],D.fn (Fn.func 123) [.ptr false 4 0] [],D.fn (Fn.func 124) [.ptr false 4 0] [],D.fn (Fn.func 125) [.ptr false 4 0] [],D.fn (Fn.func 126) [.ptr false 4 0] []]) 29 (D.fn (Fn.func 124) [.ptr false 4 0] []) rfl,tF,.inl,.inl,.ret _ _ _ c2,tF]
 rcases dT (dr cc fc fz fs fo) with h3|h3
 ·exact (jK (d:= .aA [.agg [.int .u64 q0,.int .u64 q1,.int .u64 q2,.int .u64 q3,.int .u64 q4,.int .u64 q5,.int .u64 q6,.int .u64 q7,.int .u64 q8,.int .u64 q9,.int .u64 bJ,.int .u64 bM,.int .u64 bQ,.int .u64 bP,.int .u64 bO,.int .u64 bN,.bool true,.bool fc,.bool fz,.bool fs,.bool fo,.int .u64 (IntKind.u64.wrap (IntKind.u64.wrap (at'+IntKind.u64.wrap (dz 29 w dst src base aa af cc))+IntKind.u64.wrap af))],.int .i64 0]) (E1++ [tC h3,.inl,tF]) (by kernel_rfl)).to (by clear E1;first|((simp only [wk,aw,and_true];repeat' (first|rfl|exact True.intro|apply And.intro));done)|(simp [wk,aw,u64,h3];done))
 exact (jK (d:= .aA [.agg [.int .u64 q0,.int .u64 q1,.int .u64 q2,.int .u64 q3,.int .u64 q4,.int .u64 q5,.int .u64 q6,.int .u64 q7,.int .u64 q8,.int .u64 q9,.int .u64 bJ,.int .u64 bM,.int .u64 bQ,.int .u64 bP,.int .u64 bO,.int .u64 bN,.bool true,.bool fc,.bool fz,.bool fs,.bool fo,.int .u64 (IntKind.u64.wrap (at'+IntKind.u64.wrap (dz 29 w dst src base aa af cc)))],.int .i64 0]) (E1++ [tC h3,tF]) (by kernel_rfl)).to (by clear E1;first|((simp only [wk,aw,and_true];repeat' (first|rfl|exact True.intro|apply And.intro));done)|(simp [wk,aw,u64,h3];done))
theorem vp (q0 q1 q2 q3 q4 q5 q6 q7 q8 q9 bJ bM bQ bP bO bN at':Int) (fc fz fs fo:Bool) (w dst src base aa af cc ld:Int) (d0:0≤dst) (d1:dst≤15) (s0:0≤src) (s1:src≤15) (b0:0≤base) (b1:base≤15) (hm:cg 29 w dst src base aa af cc=true) (hcc:ff cc=true):aE Tryz.prog 83 ([.agg [.int .u64 q0,.int .u64 q1,.int .u64 q2,.int .u64 q3,.int .u64 q4,.int .u64 q5,.int .u64 q6,.int .u64 q7,.int .u64 q8,.int .u64 q9,.int .u64 bJ,.int .u64 bM,.int .u64 bQ,.int .u64 bP,.int .u64 bO,.int .u64 bN,.bool false,.bool fc,.bool fz,.bool fs,.bool fo,.int .u64 (at')],xD 29 w dst src base aa af cc,.int .u64 ld]) (.aA [.agg [.int .u64 (0),.int .u64 (0),.int .u64 (0),.int .u64 (0),.int .u64 (0),.int .u64 (0),.int .u64 (0),.int .u64 (0),.int .u64 (0),.int .u64 (0),.int .u64 (0),.int .u64 (0),.int .u64 (0),.int .u64 (0),.int .u64 (0),.int .u64 (0),.bool false,.bool false,.bool false,.bool false,.bool false,.int .u64 (0)],.int .i64 20]):=by
 have c0:= @aJ 29 w dst src base aa af cc (by decide)
 rw [show (cg 29 w dst src base aa af cc)=true from hm] at c0
 have c1:= @bU 29 w dst src base aa af cc (by decide)
 have c2:= @nP cc fc fz fs fo hcc
 exact (jK (d:= .aA [.agg [.int .u64 0,.int .u64 0,.int .u64 0,.int .u64 0,.int .u64 0,.int .u64 0,.int .u64 0,.int .u64 0,.int .u64 0,.int .u64 0,.int .u64 0,.int .u64 0,.int .u64 0,.int .u64 0,.int .u64 0,.int .u64 0,.bool false,.bool false,.bool false,.bool false,.bool false,.int .u64 0],.int .i64 20]) [.ret _ _ _ c0,tF,.ret _ _ _ c1,tT,.get ([D.fn (Fn.func 117) [.ptr false 4 0] [],D.fn (Fn.func 118) [.ptr false 4 0] [],D.aq,D.aq,D.aq,D.aq,D.aq,D.aq,D.aq,D.aq,D.aq,D.aq,D.aq,D.aq,D.aq,D.aq,D.aq,D.aq,D.aq,D.aq,D.aq,D.aq,D.aq,D.aq,D.fn (Fn.func 119) [.ptr false 4 0] [],D.fn (Fn.func 120) [.ptr false 4 0] [],D.fn (Fn.func 121) [.ptr false 4 0] [],D.fn (Fn.func 122) [.ptr false 4 0] [],D.fn (Fn.func 123) [.ptr false 4 0] [],D.fn (Fn.func 124) [.ptr false 4 0] [],D.fn (Fn.func 125) [.ptr false 4 0] [],D.fn (Fn.func 126) [.ptr false 4 0] []]) 29 (D.fn (Fn.func 124) [.ptr false 4 0] []) rfl,tF,.inl,.inl,.ret _ _ _ c2,tT,tT] (by kernel_rfl)).to (by first|((simp only [wk,aw,and_true];repeat' (first|rfl|exact True.intro|apply And.intro));done)|(simp [wk,aw,u64,];done))
theorem wY (q0 q1 q2 q3 q4 q5 q6 q7 q8 q9 bJ bM bQ bP bO bN at':Int) (fk fc fz fs fo:Bool) (op w dst src base aa af cc ld:Int)(ho:op≤127) (hm:cg op w dst src base aa af cc=false):aE Tryz.prog 83 ([.agg [.int .u64 q0,.int .u64 q1,.int .u64 q2,.int .u64 q3,.int .u64 q4,.int .u64 q5,.int .u64 q6,.int .u64 q7,.int .u64 q8,.int .u64 q9,.int .u64 bJ,.int .u64 bM,.int .u64 bQ,.int .u64 bP,.int .u64 bO,.int .u64 bN,.bool fk,.bool fc,.bool fz,.bool fs,.bool fo,.int .u64 (at')],xD op w dst src base aa af cc,.int .u64 ld]) (.aA [.agg [.int .u64 (0),.int .u64 (0),.int .u64 (0),.int .u64 (0),.int .u64 (0),.int .u64 (0),.int .u64 (0),.int .u64 (0),.int .u64 (0),.int .u64 (0),.int .u64 (0),.int .u64 (0),.int .u64 (0),.int .u64 (0),.int .u64 (0),.int .u64 (0),.bool false,.bool false,.bool false,.bool false,.bool false,.int .u64 (0)],.int .i64 2]):=by
 have c0:= @aJ op w dst src base aa af cc ho
 rw [show (cg op w dst src base aa af cc)=false from hm] at c0
 exact (jK (d:= .aA [.agg [.int .u64 0,.int .u64 0,.int .u64 0,.int .u64 0,.int .u64 0,.int .u64 0,.int .u64 0,.int .u64 0,.int .u64 0,.int .u64 0,.int .u64 0,.int .u64 0,.int .u64 0,.int .u64 0,.int .u64 0,.int .u64 0,.bool false,.bool false,.bool false,.bool false,.bool false,.int .u64 0],.int .i64 2]) [.ret _ _ _ c0,tT] (by kernel_rfl)).to (by first|((simp only [wk,aw,and_true];repeat' (first|rfl|exact True.intro|apply And.intro));done)|(simp [wk,aw,u64,];done))
def oL:List D:= [D.fn (Fn.func 117) [.ptr false 4 0] [],D.fn (Fn.func 118) [.ptr false 4 0] [],D.aq,D.aq,D.aq,D.aq,D.aq,D.aq,D.aq,D.aq,D.aq,D.aq,D.aq,D.aq,D.aq,D.aq,D.aq,D.aq,D.aq,D.aq,D.aq,D.aq,D.aq,D.aq,D.fn (Fn.func 119) [.ptr false 4 0] [],D.fn (Fn.func 120) [.ptr false 4 0] [],D.fn (Fn.func 121) [.ptr false 4 0] [],D.fn (Fn.func 122) [.ptr false 4 0] [],D.fn (Fn.func 123) [.ptr false 4 0] [],D.fn (Fn.func 124) [.ptr false 4 0] [],D.fn (Fn.func 125) [.ptr false 4 0] [],D.fn (Fn.func 126) [.ptr false 4 0] []]
def oK:List (Int×D):= [((2:Int),.int .i8 0),((9:Int),.int .i8 0),((3:Int),.int .i8 4),((10:Int),.int .i8 4),((4:Int),.int .i8 5),((11:Int),.int .i8 5),((8:Int),.int .i8 5),((15:Int),.int .i8 5),((5:Int),.int .i8 1),((12:Int),.int .i8 1),((7:Int),.int .i8 1),((14:Int),.int .i8 1),((6:Int),.int .i8 10),((13:Int),.int .i8 10),((16:Int),.int .i8 2),((17:Int),.int .i8 6),((20:Int),.int .i8 6),((18:Int),.int .i8 7),((21:Int),.int .i8 7),((19:Int),.int .i8 12),((22:Int),.int .i8 12),((23:Int),.int .i8 8)]
def l3 (k0_:Int):Prop:= ∀(m:ao) (w dst src base aa af cc ld:Int) (d0:0≤dst) (d1:dst≤15) (s0:0≤src) (s1:src≤15) (b0:0≤base) (b1:base≤15) (hm:cg k0_ w dst src base aa af cc=true) (hw:a8 w=true),aE Tryz.prog 83 ([m.d,xD k0_ w dst src base aa af cc,.int .u64 ld]) (.aA [(jT (m.at (u64 (m.pc+u64 (dz k0_ w dst src base aa af cc)))) ⟨k0_,w,dst,src,base,aa,af,cc⟩ ld).1.d,.int .i64 0])
theorem A1:l3 9:=by
 intro m w dst src base aa af cc ld d0 d1 s0 s1 b0 b1 hm hw
 have c0:= @aJ 9 w dst src base aa af cc (by decide)
 rw [hm] at c0
 have c1:= @bU 9 w dst src base aa af cc (by decide)
 have c2:= @vL w (rg (ao.rl m) dst) (IntKind.wrap IntKind.u64 af) hw
 have c3:= @yG w (rg (ao.rl m) dst) (IntKind.wrap IntKind.u64 af) hw
 have c4:= @bf 9 w dst src base aa af cc (by decide)
 exact (jK (d:= .aA [(jT (m.at (u64 (m.pc+u64 (dz 9 w dst src base aa af cc)))) ⟨9,w,dst,src,base,aa,af,cc⟩ ld).1.d,.int .i64 0]) ([.ret _ _ _ c0,tF,.ret _ _ _ c1,tT,.get oL 9 (.aq) rfl,tT,.inl,.inl,.aB [(4,.box (ao.cw m (dU m 9 w dst src base aa af cc) (xT 9 w dst src base aa af cc ld)))],.ik oK 9 (some (.int .i8 0)) rfl,.cU _ true (dD d0 d1),.get _ _ _ (@bz m dst ((fT m (dU m 9 w dst src base aa af cc) (xT 9 w dst src base aa af cc ld))) d0 d1),.inl]++List.replicate 8 tF++List.replicate 9 tT++ [.aB [(4,.box (ao.cw m (dU m 9 w dst src base aa af cc) (xT 9 w dst src base aa af cc ld)))],.ret _ _ _ c2,tF,tT,.ret _ _ _ c3,.ret _ _ _ c4,tC (nt (@gF 9 w dst src base aa af cc hm d0 d1 (rfl:true=true))),.cU _ true (dD d0 d1),.cm _ _ _ _ (@cP m dst (gl 0 w (rg (ao.rl m) dst) (IntKind.wrap IntKind.u64 af)) ([.bool true,.bool (Fb w (rg (ao.rl m) dst) (IntKind.wrap IntKind.u64 af)),.bool (aP (u64 (rg (ao.rl m) dst+IntKind.wrap IntKind.u64 af)) w==0),.bool (gw (u64 (rg (ao.rl m) dst+IntKind.wrap IntKind.u64 af)) w),.bool (Fa w (rg (ao.rl m) dst) (IntKind.wrap IntKind.u64 af)),.int .u64 (dU m 9 w dst src base aa af cc),.int .i8 9,.int .i8 w,.int .i8 dst,.int .i8 src,.int .i8 base,.int .i64 aa,.int .i64 af,.int .i8 cc,.int .u64 ld]) d0 d1),tF]) (by kernel_rfl))
theorem xp:l3 10:=by
 intro m w dst src base aa af cc ld d0 d1 s0 s1 b0 b1 hm hw
 have c0:= @aJ 10 w dst src base aa af cc (by decide)
 rw [hm] at c0
 have c1:= @bU 10 w dst src base aa af cc (by decide)
 have c2:= @vK w (rg (ao.rl m) dst) (IntKind.wrap IntKind.u64 af) hw
 have c3:= @jg w (gl 4 w (rg (ao.rl m) dst) (IntKind.wrap IntKind.u64 af)) hw
 have c4:= @bf 10 w dst src base aa af cc (by decide)
 exact (jK (d:= .aA [(jT (m.at (u64 (m.pc+u64 (dz 10 w dst src base aa af cc)))) ⟨10,w,dst,src,base,aa,af,cc⟩ ld).1.d,.int .i64 0]) ([.ret _ _ _ c0,tF,.ret _ _ _ c1,tT,.get oL 10 (.aq) rfl,tT,.inl,.inl,.aB [(4,.box (ao.cw m (dU m 10 w dst src base aa af cc) (xT 10 w dst src base aa af cc ld)))],.ik oK 10 (some (.int .i8 4)) rfl,.cU _ true (dD d0 d1),.get _ _ _ (@bz m dst ((fT m (dU m 10 w dst src base aa af cc) (xT 10 w dst src base aa af cc ld))) d0 d1),.inl]++List.replicate 8 tF++List.replicate 9 tT++ [.aB [(4,.box (ao.cw m (dU m 10 w dst src base aa af cc) (xT 10 w dst src base aa af cc ld)))],.ret _ _ _ c2,tF,tF,tF,tF,tT,tT,.ret _ _ _ c3,.ret _ _ _ c4,tC (nt (@gF 10 w dst src base aa af cc hm d0 d1 (rfl:true=true))),.cU _ true (dD d0 d1),.cm _ _ _ _ (@cP m dst (gl 4 w (rg (ao.rl m) dst) (IntKind.wrap IntKind.u64 af)) ([.bool true,.bool false,.bool (aP (gl 4 w (rg (ao.rl m) dst) (IntKind.wrap IntKind.u64 af)) w==0),.bool (gw (gl 4 w (rg (ao.rl m) dst) (IntKind.wrap IntKind.u64 af)) w),.bool false,.int .u64 (dU m 10 w dst src base aa af cc),.int .i8 10,.int .i8 w,.int .i8 dst,.int .i8 src,.int .i8 base,.int .i64 aa,.int .i64 af,.int .i8 cc,.int .u64 ld]) d0 d1),tF]) (by kernel_rfl))
theorem xo:l3 11:=by
 intro m w dst src base aa af cc ld d0 d1 s0 s1 b0 b1 hm hw
 have c0:= @aJ 11 w dst src base aa af cc (by decide)
 rw [hm] at c0
 have c1:= @bU 11 w dst src base aa af cc (by decide)
 have c2:= @mL w (rg (ao.rl m) dst) (IntKind.wrap IntKind.u64 af) hw
 have c3:= @jg w (gl 5 w (rg (ao.rl m) dst) (IntKind.wrap IntKind.u64 af)) hw
 have c4:= @bf 11 w dst src base aa af cc (by decide)
 exact (jK (d:= .aA [(jT (m.at (u64 (m.pc+u64 (dz 11 w dst src base aa af cc)))) ⟨11,w,dst,src,base,aa,af,cc⟩ ld).1.d,.int .i64 0]) ([.ret _ _ _ c0,tF,.ret _ _ _ c1,tT,.get oL 11 (.aq) rfl,tT,.inl,.inl,.aB [(4,.box (ao.cw m (dU m 11 w dst src base aa af cc) (xT 11 w dst src base aa af cc ld)))],.ik oK 11 (some (.int .i8 5)) rfl,.cU _ true (dD d0 d1),.get _ _ _ (@bz m dst ((fT m (dU m 11 w dst src base aa af cc) (xT 11 w dst src base aa af cc ld))) d0 d1),.inl]++List.replicate 8 tF++List.replicate 9 tT++ [.aB [(4,.box (ao.cw m (dU m 11 w dst src base aa af cc) (xT 11 w dst src base aa af cc ld)))],.ret _ _ _ c2,tF,tF,tF,tF,tF,tT,tT,.ret _ _ _ c3,.ret _ _ _ c4,tC (nt (@gF 11 w dst src base aa af cc hm d0 d1 (rfl:true=true))),.cU _ true (dD d0 d1),.cm _ _ _ _ (@cP m dst (gl 5 w (rg (ao.rl m) dst) (IntKind.wrap IntKind.u64 af)) ([.bool true,.bool false,.bool (aP (gl 5 w (rg (ao.rl m) dst) (IntKind.wrap IntKind.u64 af)) w==0),.bool (gw (gl 5 w (rg (ao.rl m) dst) (IntKind.wrap IntKind.u64 af)) w),.bool false,.int .u64 (dU m 11 w dst src base aa af cc),.int .i8 11,.int .i8 w,.int .i8 dst,.int .i8 src,.int .i8 base,.int .i64 aa,.int .i64 af,.int .i8 cc,.int .u64 ld]) d0 d1),tF]) (by kernel_rfl))
theorem xm:l3 13:=by
 intro m w dst src base aa af cc ld d0 d1 s0 s1 b0 b1 hm hw
 have c0:= @aJ 13 w dst src base aa af cc (by decide)
 rw [hm] at c0
 have c1:= @bU 13 w dst src base aa af cc (by decide)
 have c2:= @rH w (rg (ao.rl m) dst) (IntKind.wrap IntKind.u64 af) hw
 have c3:= @jg w (gl 10 w (rg (ao.rl m) dst) (IntKind.wrap IntKind.u64 af)) hw
 have c4:= @bf 13 w dst src base aa af cc (by decide)
 exact (jK (d:= .aA [(jT (m.at (u64 (m.pc+u64 (dz 13 w dst src base aa af cc)))) ⟨13,w,dst,src,base,aa,af,cc⟩ ld).1.d,.int .i64 0]) ([.ret _ _ _ c0,tF,.ret _ _ _ c1,tT,.get oL 13 (.aq) rfl,tT,.inl,.inl,.aB [(4,.box (ao.cw m (dU m 13 w dst src base aa af cc) (xT 13 w dst src base aa af cc ld)))],.ik oK 13 (some (.int .i8 10)) rfl,.cU _ true (dD d0 d1),.get _ _ _ (@bz m dst ((fT m (dU m 13 w dst src base aa af cc) (xT 13 w dst src base aa af cc ld))) d0 d1),.inl]++List.replicate 8 tF++List.replicate 9 tT++ [.aB [(4,.box (ao.cw m (dU m 13 w dst src base aa af cc) (xT 13 w dst src base aa af cc ld)))],.ret _ _ _ c2,tF,tF,tF,tF,tF,tF,tT,.ret _ _ _ c3,.ret _ _ _ c4,tC (nt (@gF 13 w dst src base aa af cc hm d0 d1 (rfl:true=true))),.cU _ true (dD d0 d1),.cm _ _ _ _ (@cP m dst (gl 10 w (rg (ao.rl m) dst) (IntKind.wrap IntKind.u64 af)) ([.bool true,.bool false,.bool (aP (gl 10 w (rg (ao.rl m) dst) (IntKind.wrap IntKind.u64 af)) w==0),.bool (gw (gl 10 w (rg (ao.rl m) dst) (IntKind.wrap IntKind.u64 af)) w),.bool false,.int .u64 (dU m 13 w dst src base aa af cc),.int .i8 13,.int .i8 w,.int .i8 dst,.int .i8 src,.int .i8 base,.int .i64 aa,.int .i64 af,.int .i8 cc,.int .u64 ld]) d0 d1),tF]) (by kernel_rfl))
theorem xl:l3 14:=by
 intro m w dst src base aa af cc ld d0 d1 s0 s1 b0 b1 hm hw
 have c0:= @aJ 14 w dst src base aa af cc (by decide)
 rw [hm] at c0
 have c1:= @bU 14 w dst src base aa af cc (by decide)
 have c2:= @mM w (rg (ao.rl m) dst) (IntKind.wrap IntKind.u64 af) hw
 have c3:= @mC w (rg (ao.rl m) dst) (IntKind.wrap IntKind.u64 af) hw
 have c4:= @bf 14 w dst src base aa af cc (by decide)
 exact (jK (d:= .aA [(jT (m.at (u64 (m.pc+u64 (dz 14 w dst src base aa af cc)))) ⟨14,w,dst,src,base,aa,af,cc⟩ ld).1.d,.int .i64 0]) ([.ret _ _ _ c0,tF,.ret _ _ _ c1,tT,.get oL 14 (.aq) rfl,tT,.inl,.inl,.aB [(4,.box (ao.cw m (dU m 14 w dst src base aa af cc) (xT 14 w dst src base aa af cc ld)))],.ik oK 14 (some (.int .i8 1)) rfl,.cU _ true (dD d0 d1),.get _ _ _ (@bz m dst ((fT m (dU m 14 w dst src base aa af cc) (xT 14 w dst src base aa af cc ld))) d0 d1),.inl]++List.replicate 8 tF++List.replicate 9 tT++ [.aB [(4,.box (ao.cw m (dU m 14 w dst src base aa af cc) (xT 14 w dst src base aa af cc ld)))],.ret _ _ _ c2,tF,tF,tT,.ret _ _ _ c3,.ret _ _ _ c4,tC (nt (de 0 true (eq_of_beq (@DG 14 w dst src base aa af cc (rfl:false=false))))),tF]) (by kernel_rfl))
theorem xk:l3 15:=by
 intro m w dst src base aa af cc ld d0 d1 s0 s1 b0 b1 hm hw
 have c0:= @aJ 15 w dst src base aa af cc (by decide)
 rw [hm] at c0
 have c1:= @bU 15 w dst src base aa af cc (by decide)
 have c2:= @mL w (rg (ao.rl m) dst) (IntKind.wrap IntKind.u64 af) hw
 have c3:= @jg w (gl 5 w (rg (ao.rl m) dst) (IntKind.wrap IntKind.u64 af)) hw
 have c4:= @bf 15 w dst src base aa af cc (by decide)
 exact (jK (d:= .aA [(jT (m.at (u64 (m.pc+u64 (dz 15 w dst src base aa af cc)))) ⟨15,w,dst,src,base,aa,af,cc⟩ ld).1.d,.int .i64 0]) ([.ret _ _ _ c0,tF,.ret _ _ _ c1,tT,.get oL 15 (.aq) rfl,tT,.inl,.inl,.aB [(4,.box (ao.cw m (dU m 15 w dst src base aa af cc) (xT 15 w dst src base aa af cc ld)))],.ik oK 15 (some (.int .i8 5)) rfl,.cU _ true (dD d0 d1),.get _ _ _ (@bz m dst ((fT m (dU m 15 w dst src base aa af cc) (xT 15 w dst src base aa af cc ld))) d0 d1),.inl]++List.replicate 8 tF++List.replicate 9 tT++ [.aB [(4,.box (ao.cw m (dU m 15 w dst src base aa af cc) (xT 15 w dst src base aa af cc ld)))],.ret _ _ _ c2,tF,tF,tF,tF,tF,tT,tT,.ret _ _ _ c3,.ret _ _ _ c4,tC (nt (de 0 true (eq_of_beq (@DG 15 w dst src base aa af cc (rfl:false=false))))),tF]) (by kernel_rfl))
theorem xj:l3 16:=by
 intro m w dst src base aa af cc ld d0 d1 s0 s1 b0 b1 hm hw
 have c0:= @aJ 16 w dst src base aa af cc (by decide)
 rw [hm] at c0
 have c1:= @bU 16 w dst src base aa af cc (by decide)
 have c2:= @Dt w (rg (ao.rl m) dst) (rg (ao.rl m) src) hw
 have c3:= @b8
 have c4:= @bf 16 w dst src base aa af cc (by decide)
 exact (jK (d:= .aA [(jT (m.at (u64 (m.pc+u64 (dz 16 w dst src base aa af cc)))) ⟨16,w,dst,src,base,aa,af,cc⟩ ld).1.d,.int .i64 0]) ([.ret _ _ _ c0,tF,.ret _ _ _ c1,tT,.get oL 16 (.aq) rfl,tT,.inl,.inl,.aB [(4,.box (ao.cw m (dU m 16 w dst src base aa af cc) (xT 16 w dst src base aa af cc ld)))],.ik oK 16 (some (.int .i8 2)) rfl,.cU _ true (dD d0 d1),.get _ _ _ (@bz m dst ((fT m (dU m 16 w dst src base aa af cc) (xT 16 w dst src base aa af cc ld))) d0 d1),.inl]++List.replicate 8 tF++ [tT,tT,tT,tT,tT,tT,tT]++List.replicate 9 tF++ [.cU _ true (dD s0 s1),.get _ _ _ (@bz m src ((fT m (dU m 16 w dst src base aa af cc) (xT 16 w dst src base aa af cc ld))) s0 s1),.aB [(4,.box (ao.cw m (dU m 16 w dst src base aa af cc) (xT 16 w dst src base aa af cc ld)))],.ret _ _ _ c2,tF,tF,tF,tF,tF,tF,tF,.ret _ _ _ c3,.ret _ _ _ c4,tC (nt (@gF 16 w dst src base aa af cc hm d0 d1 (rfl:true=true))),.cU _ true (dD d0 d1),.cm _ _ _ _ (@cP m dst (gl 2 w (rg (ao.rl m) dst) (rg (ao.rl m) src)) ([.bool false,.bool false,.bool false,.bool false,.bool false,.int .u64 (dU m 16 w dst src base aa af cc),.int .i8 16,.int .i8 w,.int .i8 dst,.int .i8 src,.int .i8 base,.int .i64 aa,.int .i64 af,.int .i8 cc,.int .u64 ld]) d0 d1),tF]) (by kernel_rfl))
theorem A0 (m:ao) (x:XS) (ld:Int) (ho:x.op≤127):aE Tryz.prog 83 [m.d,x.d,.int .u64 ld] (.aA [(fw m x ld).1.d,.int .i64 (fw m x ld).2]):=by
 cases hm:x.may
 ·rw [Df hm]
  obtain ⟨q0,q1,q2,q3,q4,q5,q6,q7,q8,q9,bJ,bM,bQ,bP,bO,bN,fk,fc,fz,fs,fo,pc⟩:=m
  obtain ⟨op,w,dst,src,base,aa,af,cc⟩:=x
  exact wY q0 q1 q2 q3 q4 q5 q6 q7 q8 q9 bJ bM bQ bP bO bN pc fk fc fz fs fo op w dst src base aa af cc ld ho hm
 ·rw [ru hm]
  obtain ⟨q0,q1,q2,q3,q4,q5,q6,q7,q8,q9,bJ,bM,bQ,bP,bO,bN,fk,fc,fz,fs,fo,pc⟩:=m
  obtain ⟨op,w,dst,src,base,aa,af,cc⟩:=x
  replace hm:cg op w dst src base aa af cc=true:=hm
  have hsh:ax op≠0:=by
   intro e
   have hs:=(dv hm).2
   rw [e] at hs
   simp [hN] at hs
  obtain ⟨⟨d0,d1,s0,s1,b0,b1,_⟩,hs⟩:=dv hm
  rcases gK hsh with rfl|rfl|rfl|rfl|rfl|rfl|rfl|rfl|rfl|rfl|rfl|rfl|rfl|rfl|rfl|rfl|rfl|rfl|rfl|rfl|rfl|rfl|rfl|rfl|rfl|rfl|rfl|rfl|rfl|rfl|rfl|rfl
  ·exact Ba ⟨q0,q1,q2,q3,q4,q5,q6,q7,q8,q9,bJ,bM,bQ,bP,bO,bN,fk,fc,fz,fs,fo,pc⟩ w dst src base aa af cc ld d0 d1 s0 s1 b0 b1 hm
  ·exact A9 ⟨q0,q1,q2,q3,q4,q5,q6,q7,q8,q9,bJ,bM,bQ,bP,bO,bN,fk,fc,fz,fs,fo,pc⟩ w dst src base aa af cc ld d0 d1 s0 s1 b0 b1 hm
  ·exact A8 ⟨q0,q1,q2,q3,q4,q5,q6,q7,q8,q9,bJ,bM,bQ,bP,bO,bN,fk,fc,fz,fs,fo,pc⟩ w dst src base aa af cc ld d0 d1 s0 s1 b0 b1 hm (cH hs (by decide))
  ·exact A7 ⟨q0,q1,q2,q3,q4,q5,q6,q7,q8,q9,bJ,bM,bQ,bP,bO,bN,fk,fc,fz,fs,fo,pc⟩ w dst src base aa af cc ld d0 d1 s0 s1 b0 b1 hm (cH hs (by decide))
  ·exact A6 ⟨q0,q1,q2,q3,q4,q5,q6,q7,q8,q9,bJ,bM,bQ,bP,bO,bN,fk,fc,fz,fs,fo,pc⟩ w dst src base aa af cc ld d0 d1 s0 s1 b0 b1 hm (cH hs (by decide))
  ·exact A5 ⟨q0,q1,q2,q3,q4,q5,q6,q7,q8,q9,bJ,bM,bQ,bP,bO,bN,fk,fc,fz,fs,fo,pc⟩ w dst src base aa af cc ld d0 d1 s0 s1 b0 b1 hm (cH hs (by decide))
  ·exact A4 ⟨q0,q1,q2,q3,q4,q5,q6,q7,q8,q9,bJ,bM,bQ,bP,bO,bN,fk,fc,fz,fs,fo,pc⟩ w dst src base aa af cc ld d0 d1 s0 s1 b0 b1 hm (cH hs (by decide))
  ·exact A3 ⟨q0,q1,q2,q3,q4,q5,q6,q7,q8,q9,bJ,bM,bQ,bP,bO,bN,fk,fc,fz,fs,fo,pc⟩ w dst src base aa af cc ld d0 d1 s0 s1 b0 b1 hm (cH hs (by decide))
  ·exact A2 ⟨q0,q1,q2,q3,q4,q5,q6,q7,q8,q9,bJ,bM,bQ,bP,bO,bN,fk,fc,fz,fs,fo,pc⟩ w dst src base aa af cc ld d0 d1 s0 s1 b0 b1 hm (cH hs (by decide))
  ·exact A1 ⟨q0,q1,q2,q3,q4,q5,q6,q7,q8,q9,bJ,bM,bQ,bP,bO,bN,fk,fc,fz,fs,fo,pc⟩ w dst src base aa af cc ld d0 d1 s0 s1 b0 b1 hm (cH hs (by decide))
  ·exact xp ⟨q0,q1,q2,q3,q4,q5,q6,q7,q8,q9,bJ,bM,bQ,bP,bO,bN,fk,fc,fz,fs,fo,pc⟩ w dst src base aa af cc ld d0 d1 s0 s1 b0 b1 hm (cH hs (by decide))
  ·exact xo ⟨q0,q1,q2,q3,q4,q5,q6,q7,q8,q9,bJ,bM,bQ,bP,bO,bN,fk,fc,fz,fs,fo,pc⟩ w dst src base aa af cc ld d0 d1 s0 s1 b0 b1 hm (cH hs (by decide))
  ·exact xn ⟨q0,q1,q2,q3,q4,q5,q6,q7,q8,q9,bJ,bM,bQ,bP,bO,bN,fk,fc,fz,fs,fo,pc⟩ w dst src base aa af cc ld d0 d1 s0 s1 b0 b1 hm (cH hs (by decide))
  ·exact xm ⟨q0,q1,q2,q3,q4,q5,q6,q7,q8,q9,bJ,bM,bQ,bP,bO,bN,fk,fc,fz,fs,fo,pc⟩ w dst src base aa af cc ld d0 d1 s0 s1 b0 b1 hm (cH hs (by decide))
  ·exact xl ⟨q0,q1,q2,q3,q4,q5,q6,q7,q8,q9,bJ,bM,bQ,bP,bO,bN,fk,fc,fz,fs,fo,pc⟩ w dst src base aa af cc ld d0 d1 s0 s1 b0 b1 hm (cH hs (by decide))
  ·exact xk ⟨q0,q1,q2,q3,q4,q5,q6,q7,q8,q9,bJ,bM,bQ,bP,bO,bN,fk,fc,fz,fs,fo,pc⟩ w dst src base aa af cc ld d0 d1 s0 s1 b0 b1 hm (cH hs (by decide))
  ·exact xj ⟨q0,q1,q2,q3,q4,q5,q6,q7,q8,q9,bJ,bM,bQ,bP,bO,bN,fk,fc,fz,fs,fo,pc⟩ w dst src base aa af cc ld d0 d1 s0 s1 b0 b1 hm (cH hs (by decide))
  ·exact xi ⟨q0,q1,q2,q3,q4,q5,q6,q7,q8,q9,bJ,bM,bQ,bP,bO,bN,fk,fc,fz,fs,fo,pc⟩ w dst src base aa af cc ld d0 d1 s0 s1 b0 b1 hm (cH hs (by decide))
  ·exact xh ⟨q0,q1,q2,q3,q4,q5,q6,q7,q8,q9,bJ,bM,bQ,bP,bO,bN,fk,fc,fz,fs,fo,pc⟩ w dst src base aa af cc ld d0 d1 s0 s1 b0 b1 hm (cH hs (by decide))
  ·exact xg ⟨q0,q1,q2,q3,q4,q5,q6,q7,q8,q9,bJ,bM,bQ,bP,bO,bN,fk,fc,fz,fs,fo,pc⟩ w dst src base aa af cc ld d0 d1 s0 s1 b0 b1 hm (cH hs (by decide))
  ·exact xf ⟨q0,q1,q2,q3,q4,q5,q6,q7,q8,q9,bJ,bM,bQ,bP,bO,bN,fk,fc,fz,fs,fo,pc⟩ w dst src base aa af cc ld d0 d1 s0 s1 b0 b1 hm (cH hs (by decide))
  ·exact xe ⟨q0,q1,q2,q3,q4,q5,q6,q7,q8,q9,bJ,bM,bQ,bP,bO,bN,fk,fc,fz,fs,fo,pc⟩ w dst src base aa af cc ld d0 d1 s0 s1 b0 b1 hm (cH hs (by decide))
  ·exact xd ⟨q0,q1,q2,q3,q4,q5,q6,q7,q8,q9,bJ,bM,bQ,bP,bO,bN,fk,fc,fz,fs,fo,pc⟩ w dst src base aa af cc ld d0 d1 s0 s1 b0 b1 hm (cH hs (by decide))
  ·exact xc ⟨q0,q1,q2,q3,q4,q5,q6,q7,q8,q9,bJ,bM,bQ,bP,bO,bN,fk,fc,fz,fs,fo,pc⟩ w dst src base aa af cc ld d0 d1 s0 s1 b0 b1 hm (cH hs (by decide))
  ·cases hd:(aP (rg [q0,q1,q2,q3,q4,q5,q6,q7,q8,q9,bJ,bM,bQ,bP,bO,bN] dst) w==0)
   ·cases hz:(aP q2 w==0)
    ·have e:jT ((⟨q0,q1,q2,q3,q4,q5,q6,q7,q8,q9,bJ,bM,bQ,bP,bO,bN,fk,fc,fz,fs,fo,pc⟩:ao).at (u64 (pc+u64 (XS.len ⟨24,w,dst,src,base,aa,af,cc⟩)))) ⟨24,w,dst,src,base,aa,af,cc⟩ ld=(.zero,20):=by
      show (match (aP (rg [q0,q1,q2,q3,q4,q5,q6,q7,q8,q9,bJ,bM,bQ,bP,bO,bN] dst) w==0:Bool) with|true=>((ao.zero,20):ao×Int)|false=>match (aP q2 w==0:Bool) with|false=>(.zero,20)|true=>_)=_
      rw [hd,hz]
     rw [e]
     exact vr q0 q1 q2 q3 q4 q5 q6 q7 q8 q9 bJ bM bQ bP bO bN pc fk fc fz fs fo w dst src base aa af cc ld d0 d1 s0 s1 b0 b1 hm hd hz
    ·have e:jT ((⟨q0,q1,q2,q3,q4,q5,q6,q7,q8,q9,bJ,bM,bQ,bP,bO,bN,fk,fc,fz,fs,fo,pc⟩:ao).at (u64 (pc+u64 (XS.len ⟨24,w,dst,src,base,aa,af,cc⟩)))) ⟨24,w,dst,src,base,aa,af,cc⟩ ld=(⟨u64 ((aP q0 w).tdiv (aP (rg [q0,q1,q2,q3,q4,q5,q6,q7,q8,q9,bJ,bM,bQ,bP,bO,bN] dst) w)),q1,(aP q0 w).tmod (aP (rg [q0,q1,q2,q3,q4,q5,q6,q7,q8,q9,bJ,bM,bQ,bP,bO,bN] dst) w),q3,q4,q5,q6,q7,q8,q9,bJ,bM,bQ,bP,bO,bN,false,false,false,false,false,u64 (pc+u64 (XS.len ⟨24,w,dst,src,base,aa,af,cc⟩))⟩,0):=by
      show (match (aP (rg [q0,q1,q2,q3,q4,q5,q6,q7,q8,q9,bJ,bM,bQ,bP,bO,bN] dst) w==0:Bool) with|true=>((ao.zero,20):ao×Int)|false=>match (aP q2 w==0:Bool) with|false=>(.zero,20)|true=>_)=_
      rw [hd,hz]
      rfl
     rw [e]
     exact xb q0 q1 q2 q3 q4 q5 q6 q7 q8 q9 bJ bM bQ bP bO bN pc fk fc fz fs fo w dst src base aa af cc ld d0 d1 s0 s1 b0 b1 hm hd hz
   ·have e:jT ((⟨q0,q1,q2,q3,q4,q5,q6,q7,q8,q9,bJ,bM,bQ,bP,bO,bN,fk,fc,fz,fs,fo,pc⟩:ao).at (u64 (pc+u64 (XS.len ⟨24,w,dst,src,base,aa,af,cc⟩)))) ⟨24,w,dst,src,base,aa,af,cc⟩ ld=(.zero,20):=by
     show (match (aP (rg [q0,q1,q2,q3,q4,q5,q6,q7,q8,q9,bJ,bM,bQ,bP,bO,bN] dst) w==0:Bool) with|true=>((ao.zero,20):ao×Int)|false=>match (aP q2 w==0:Bool) with|false=>(.zero,20)|true=>_)=_
     rw [hd]
    rw [e]
    exact vt q0 q1 q2 q3 q4 q5 q6 q7 q8 q9 bJ bM bQ bP bO bN pc fk fc fz fs fo w dst src base aa af cc ld d0 d1 s0 s1 b0 b1 hm hd
  ·cases fk
   ·exact vq q0 q1 q2 q3 q4 q5 q6 q7 q8 q9 bJ bM bQ bP bO bN pc fc fz fs fo w dst src base aa af cc ld d0 d1 s0 s1 b0 b1 hm (CR hs)
   ·exact xa q0 q1 q2 q3 q4 q5 q6 q7 q8 q9 bJ bM bQ bP bO bN pc fc fz fs fo w dst src base aa af cc ld d0 d1 s0 s1 b0 b1 hm (CR hs)
  ·exact w9 ⟨q0,q1,q2,q3,q4,q5,q6,q7,q8,q9,bJ,bM,bQ,bP,bO,bN,fk,fc,fz,fs,fo,pc⟩ w dst src base aa af cc ld d0 d1 s0 s1 b0 b1 hm
  ·exact w8 ⟨q0,q1,q2,q3,q4,q5,q6,q7,q8,q9,bJ,bM,bQ,bP,bO,bN,fk,fc,fz,fs,fo,pc⟩ w dst src base aa af cc ld d0 d1 s0 s1 b0 b1 hm
  ·exact w7 ⟨q0,q1,q2,q3,q4,q5,q6,q7,q8,q9,bJ,bM,bQ,bP,bO,bN,fk,fc,fz,fs,fo,pc⟩ w dst src base aa af cc ld d0 d1 s0 s1 b0 b1 hm
  ·cases fk
   ·exact vp q0 q1 q2 q3 q4 q5 q6 q7 q8 q9 bJ bM bQ bP bO bN pc fc fz fs fo w dst src base aa af cc ld d0 d1 s0 s1 b0 b1 hm (yv hs)
   ·exact w6 q0 q1 q2 q3 q4 q5 q6 q7 q8 q9 bJ bM bQ bP bO bN pc fc fz fs fo w dst src base aa af cc ld d0 d1 s0 s1 b0 b1 hm (yv hs)
  ·exact w5 ⟨q0,q1,q2,q3,q4,q5,q6,q7,q8,q9,bJ,bM,bQ,bP,bO,bN,fk,fc,fz,fs,fo,pc⟩ w dst src base aa af cc ld d0 d1 s0 s1 b0 b1 hm
  ·exact wZ ⟨q0,q1,q2,q3,q4,q5,q6,q7,q8,q9,bJ,bM,bQ,bP,bO,bN,fk,fc,fz,fs,fo,pc⟩ w dst src base aa af cc ld d0 d1 s0 s1 b0 b1 hm
end Go.Proofs.YtbfpahigdpigpaaGreat
