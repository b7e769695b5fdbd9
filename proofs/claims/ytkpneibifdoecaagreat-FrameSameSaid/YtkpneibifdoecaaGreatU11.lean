import Derived.Test.YtkpneibifdoecaaGreatU05
import Derived.Test.YtkpneibifdoecaaGreatU10
open List renaming replicate→Vc
open Go.Fn renaming func→Ve
open Bool renaming eq_iff_iff→Vn
open True renaming intro→VS
open And renaming intro→VY
/- Contracts and plain laws that a statement's proof leans on (texts merged:E0F0,I0H,XOf,XOfA,XMay0). -/
set_option linter.unusedVariables false
set_option linter.unusedSimpArgs false
set_option maxRecDepth 100000
set_option maxHeartbeats 8000000
namespace Go.Proofs.YtkpneibifdoecaaGreat
open Go Go.Ev
theorem BO:aZ Tryz.prog 125 ([.int .i8 0]) (.bool false):=by
 exact (j5 (d:= .bool false) ([tT,tT,tT,tT]++Vc 10 .inl++ [tT,tT,tT,.get ([D.av,D.av,D.fn (Ve 167) [] [],D.fn (Ve 173) [] [.ptr false 1 0],D.fn (Ve 168) [] [],D.fn (Ve 173) [] [.ptr false 2 0],D.fn (Ve 171) [] [.ptr false 3 0,.ptr false 4 0],D.fn (Ve 173) [] [.ptr false 7 0],D.av,D.av,D.av,D.av,D.fn (Ve 169) [] [],D.fn (Ve 173) [] [.ptr false 8 0],D.fn (Ve 171) [] [.ptr false 9 0,.ptr false 10 0],D.fn (Ve 173) [] [.ptr false 13 0]]) 0 (D.av) rfl,tT,tT]) (by kernel_rfl)).to (by ((simp only [wk,aB,and_true];repeat' (first|rfl|exact VS|apply VY));done))
theorem BN:aZ Tryz.prog 125 ([.int .i8 1]) (.bool false):=by
 exact (j5 (d:= .bool false) ([tT,tT,tT,tT]++Vc 10 .inl++ [tT,tT,tT,.get ([D.av,D.av,D.fn (Ve 167) [] [],D.fn (Ve 173) [] [.ptr false 1 0],D.fn (Ve 168) [] [],D.fn (Ve 173) [] [.ptr false 2 0],D.fn (Ve 171) [] [.ptr false 3 0,.ptr false 4 0],D.fn (Ve 173) [] [.ptr false 7 0],D.av,D.av,D.av,D.av,D.fn (Ve 169) [] [],D.fn (Ve 173) [] [.ptr false 8 0],D.fn (Ve 171) [] [.ptr false 9 0,.ptr false 10 0],D.fn (Ve 173) [] [.ptr false 13 0]]) 1 (D.av) rfl,tT,tT]) (by kernel_rfl)).to (by ((simp only [wk,aB,and_true];repeat' (first|rfl|exact VS|apply VY));done))
theorem nv:aZ Tryz.prog 125 ([.int .i8 2]) (.bool true):=by
 exact (j5 (d:= .bool true) ([tT,tT,tT,tT]++Vc 10 .inl++ [tT,tT,tT,.get ([D.av,D.av,D.fn (Ve 167) [] [],D.fn (Ve 173) [] [.ptr false 1 0],D.fn (Ve 168) [] [],D.fn (Ve 173) [] [.ptr false 2 0],D.fn (Ve 171) [] [.ptr false 3 0,.ptr false 4 0],D.fn (Ve 173) [] [.ptr false 7 0],D.av,D.av,D.av,D.av,D.fn (Ve 169) [] [],D.fn (Ve 173) [] [.ptr false 8 0],D.fn (Ve 171) [] [.ptr false 9 0,.ptr false 10 0],D.fn (Ve 173) [] [.ptr false 13 0]]) 2 (D.fn (Ve 167) [] []) rfl,tT,tT]) (by kernel_rfl)).to (by ((simp only [wk,aB,and_true];repeat' (first|rfl|exact VS|apply VY));done))
theorem nr:aZ Tryz.prog 125 ([.int .i8 3]) (.bool true):=by
 exact (j5 (d:= .bool true) ([tT,tT,tT,tT]++Vc 10 .inl++ [tT,tT,tT,.get ([D.av,D.av,D.fn (Ve 167) [] [],D.fn (Ve 173) [] [.ptr false 1 0],D.fn (Ve 168) [] [],D.fn (Ve 173) [] [.ptr false 2 0],D.fn (Ve 171) [] [.ptr false 3 0,.ptr false 4 0],D.fn (Ve 173) [] [.ptr false 7 0],D.av,D.av,D.av,D.av,D.fn (Ve 169) [] [],D.fn (Ve 173) [] [.ptr false 8 0],D.fn (Ve 171) [] [.ptr false 9 0,.ptr false 10 0],D.fn (Ve 173) [] [.ptr false 13 0]]) 3 (D.fn (Ve 173) [] [.ptr false 1 0]) rfl,tT,tT]) (by kernel_rfl)).to (by ((simp only [wk,aB,and_true];repeat' (first|rfl|exact VS|apply VY));done))
theorem nq:aZ Tryz.prog 125 ([.int .i8 4]) (.bool true):=by
 exact (j5 (d:= .bool true) ([tT,tT,tT,tT]++Vc 10 .inl++ [tT,tT,tT,.get ([D.av,D.av,D.fn (Ve 167) [] [],D.fn (Ve 173) [] [.ptr false 1 0],D.fn (Ve 168) [] [],D.fn (Ve 173) [] [.ptr false 2 0],D.fn (Ve 171) [] [.ptr false 3 0,.ptr false 4 0],D.fn (Ve 173) [] [.ptr false 7 0],D.av,D.av,D.av,D.av,D.fn (Ve 169) [] [],D.fn (Ve 173) [] [.ptr false 8 0],D.fn (Ve 171) [] [.ptr false 9 0,.ptr false 10 0],D.fn (Ve 173) [] [.ptr false 13 0]]) 4 (D.fn (Ve 168) [] []) rfl,tT,tT]) (by kernel_rfl)).to (by ((simp only [wk,aB,and_true];repeat' (first|rfl|exact VS|apply VY));done))
theorem np:aZ Tryz.prog 125 ([.int .i8 5]) (.bool true):=by
 exact (j5 (d:= .bool true) ([tT,tT,tT,tT]++Vc 10 .inl++ [tT,tT,tT,.get ([D.av,D.av,D.fn (Ve 167) [] [],D.fn (Ve 173) [] [.ptr false 1 0],D.fn (Ve 168) [] [],D.fn (Ve 173) [] [.ptr false 2 0],D.fn (Ve 171) [] [.ptr false 3 0,.ptr false 4 0],D.fn (Ve 173) [] [.ptr false 7 0],D.av,D.av,D.av,D.av,D.fn (Ve 169) [] [],D.fn (Ve 173) [] [.ptr false 8 0],D.fn (Ve 171) [] [.ptr false 9 0,.ptr false 10 0],D.fn (Ve 173) [] [.ptr false 13 0]]) 5 (D.fn (Ve 173) [] [.ptr false 2 0]) rfl,tT,tT]) (by kernel_rfl)).to (by ((simp only [wk,aB,and_true];repeat' (first|rfl|exact VS|apply VY));done))
theorem nn:aZ Tryz.prog 125 ([.int .i8 6]) (.bool true):=by
 exact (j5 (d:= .bool true) ([tT,tT,tT,tT]++Vc 10 .inl++ [tT,tT,tT,.get ([D.av,D.av,D.fn (Ve 167) [] [],D.fn (Ve 173) [] [.ptr false 1 0],D.fn (Ve 168) [] [],D.fn (Ve 173) [] [.ptr false 2 0],D.fn (Ve 171) [] [.ptr false 3 0,.ptr false 4 0],D.fn (Ve 173) [] [.ptr false 7 0],D.av,D.av,D.av,D.av,D.fn (Ve 169) [] [],D.fn (Ve 173) [] [.ptr false 8 0],D.fn (Ve 171) [] [.ptr false 9 0,.ptr false 10 0],D.fn (Ve 173) [] [.ptr false 13 0]]) 6 (D.fn (Ve 171) [] [.ptr false 3 0,.ptr false 4 0]) rfl,tT,tT]) (by kernel_rfl)).to (by ((simp only [wk,aB,and_true];repeat' (first|rfl|exact VS|apply VY));done))
theorem nm:aZ Tryz.prog 125 ([.int .i8 7]) (.bool true):=by
 exact (j5 (d:= .bool true) ([tT,tT,tT,tT]++Vc 10 .inl++ [tT,tT,tT,.get ([D.av,D.av,D.fn (Ve 167) [] [],D.fn (Ve 173) [] [.ptr false 1 0],D.fn (Ve 168) [] [],D.fn (Ve 173) [] [.ptr false 2 0],D.fn (Ve 171) [] [.ptr false 3 0,.ptr false 4 0],D.fn (Ve 173) [] [.ptr false 7 0],D.av,D.av,D.av,D.av,D.fn (Ve 169) [] [],D.fn (Ve 173) [] [.ptr false 8 0],D.fn (Ve 171) [] [.ptr false 9 0,.ptr false 10 0],D.fn (Ve 173) [] [.ptr false 13 0]]) 7 (D.fn (Ve 173) [] [.ptr false 7 0]) rfl,tT,tT]) (by kernel_rfl)).to (by ((simp only [wk,aB,and_true];repeat' (first|rfl|exact VS|apply VY));done))
theorem BM:aZ Tryz.prog 125 ([.int .i8 8]) (.bool false):=by
 exact (j5 (d:= .bool false) ([tT,tT,tT,tT]++Vc 10 .inl++ [tT,tT,tT,.get ([D.av,D.av,D.fn (Ve 167) [] [],D.fn (Ve 173) [] [.ptr false 1 0],D.fn (Ve 168) [] [],D.fn (Ve 173) [] [.ptr false 2 0],D.fn (Ve 171) [] [.ptr false 3 0,.ptr false 4 0],D.fn (Ve 173) [] [.ptr false 7 0],D.av,D.av,D.av,D.av,D.fn (Ve 169) [] [],D.fn (Ve 173) [] [.ptr false 8 0],D.fn (Ve 171) [] [.ptr false 9 0,.ptr false 10 0],D.fn (Ve 173) [] [.ptr false 13 0]]) 8 (D.av) rfl,tT,tT]) (by kernel_rfl)).to (by ((simp only [wk,aB,and_true];repeat' (first|rfl|exact VS|apply VY));done))
theorem BL:aZ Tryz.prog 125 ([.int .i8 9]) (.bool false):=by
 exact (j5 (d:= .bool false) ([tT,tT,tT,tT]++Vc 10 .inl++ [tT,tT,tT,.get ([D.av,D.av,D.fn (Ve 167) [] [],D.fn (Ve 173) [] [.ptr false 1 0],D.fn (Ve 168) [] [],D.fn (Ve 173) [] [.ptr false 2 0],D.fn (Ve 171) [] [.ptr false 3 0,.ptr false 4 0],D.fn (Ve 173) [] [.ptr false 7 0],D.av,D.av,D.av,D.av,D.fn (Ve 169) [] [],D.fn (Ve 173) [] [.ptr false 8 0],D.fn (Ve 171) [] [.ptr false 9 0,.ptr false 10 0],D.fn (Ve 173) [] [.ptr false 13 0]]) 9 (D.av) rfl,tT,tT]) (by kernel_rfl)).to (by ((simp only [wk,aB,and_true];repeat' (first|rfl|exact VS|apply VY));done))
theorem x8:aZ Tryz.prog 125 ([.int .i8 10]) (.bool false):=by
 exact (j5 (d:= .bool false) ([tT,tT,tT,tT]++Vc 10 .inl++ [tT,tT,tT,.get ([D.av,D.av,D.fn (Ve 167) [] [],D.fn (Ve 173) [] [.ptr false 1 0],D.fn (Ve 168) [] [],D.fn (Ve 173) [] [.ptr false 2 0],D.fn (Ve 171) [] [.ptr false 3 0,.ptr false 4 0],D.fn (Ve 173) [] [.ptr false 7 0],D.av,D.av,D.av,D.av,D.fn (Ve 169) [] [],D.fn (Ve 173) [] [.ptr false 8 0],D.fn (Ve 171) [] [.ptr false 9 0,.ptr false 10 0],D.fn (Ve 173) [] [.ptr false 13 0]]) 10 (D.av) rfl,tT,tT]) (by kernel_rfl)).to (by ((simp only [wk,aB,and_true];repeat' (first|rfl|exact VS|apply VY));done))
theorem x7:aZ Tryz.prog 125 ([.int .i8 11]) (.bool false):=by
 exact (j5 (d:= .bool false) ([tT,tT,tT,tT]++Vc 10 .inl++ [tT,tT,tT,.get ([D.av,D.av,D.fn (Ve 167) [] [],D.fn (Ve 173) [] [.ptr false 1 0],D.fn (Ve 168) [] [],D.fn (Ve 173) [] [.ptr false 2 0],D.fn (Ve 171) [] [.ptr false 3 0,.ptr false 4 0],D.fn (Ve 173) [] [.ptr false 7 0],D.av,D.av,D.av,D.av,D.fn (Ve 169) [] [],D.fn (Ve 173) [] [.ptr false 8 0],D.fn (Ve 171) [] [.ptr false 9 0,.ptr false 10 0],D.fn (Ve 173) [] [.ptr false 13 0]]) 11 (D.av) rfl,tT,tT]) (by kernel_rfl)).to (by ((simp only [wk,aB,and_true];repeat' (first|rfl|exact VS|apply VY));done))
theorem lY:aZ Tryz.prog 125 ([.int .i8 12]) (.bool true):=by
 exact (j5 (d:= .bool true) ([tT,tT,tT,tT]++Vc 10 .inl++ [tT,tT,tT,.get ([D.av,D.av,D.fn (Ve 167) [] [],D.fn (Ve 173) [] [.ptr false 1 0],D.fn (Ve 168) [] [],D.fn (Ve 173) [] [.ptr false 2 0],D.fn (Ve 171) [] [.ptr false 3 0,.ptr false 4 0],D.fn (Ve 173) [] [.ptr false 7 0],D.av,D.av,D.av,D.av,D.fn (Ve 169) [] [],D.fn (Ve 173) [] [.ptr false 8 0],D.fn (Ve 171) [] [.ptr false 9 0,.ptr false 10 0],D.fn (Ve 173) [] [.ptr false 13 0]]) 12 (D.fn (Ve 169) [] []) rfl,tT,tT]) (by kernel_rfl)).to (by ((simp only [wk,aB,and_true];repeat' (first|rfl|exact VS|apply VY));done))
theorem lX:aZ Tryz.prog 125 ([.int .i8 13]) (.bool true):=by
 exact (j5 (d:= .bool true) ([tT,tT,tT,tT]++Vc 10 .inl++ [tT,tT,tT,.get ([D.av,D.av,D.fn (Ve 167) [] [],D.fn (Ve 173) [] [.ptr false 1 0],D.fn (Ve 168) [] [],D.fn (Ve 173) [] [.ptr false 2 0],D.fn (Ve 171) [] [.ptr false 3 0,.ptr false 4 0],D.fn (Ve 173) [] [.ptr false 7 0],D.av,D.av,D.av,D.av,D.fn (Ve 169) [] [],D.fn (Ve 173) [] [.ptr false 8 0],D.fn (Ve 171) [] [.ptr false 9 0,.ptr false 10 0],D.fn (Ve 173) [] [.ptr false 13 0]]) 13 (D.fn (Ve 173) [] [.ptr false 8 0]) rfl,tT,tT]) (by kernel_rfl)).to (by ((simp only [wk,aB,and_true];repeat' (first|rfl|exact VS|apply VY));done))
theorem lW:aZ Tryz.prog 125 ([.int .i8 14]) (.bool true):=by
 exact (j5 (d:= .bool true) ([tT,tT,tT,tT]++Vc 10 .inl++ [tT,tT,tT,.get ([D.av,D.av,D.fn (Ve 167) [] [],D.fn (Ve 173) [] [.ptr false 1 0],D.fn (Ve 168) [] [],D.fn (Ve 173) [] [.ptr false 2 0],D.fn (Ve 171) [] [.ptr false 3 0,.ptr false 4 0],D.fn (Ve 173) [] [.ptr false 7 0],D.av,D.av,D.av,D.av,D.fn (Ve 169) [] [],D.fn (Ve 173) [] [.ptr false 8 0],D.fn (Ve 171) [] [.ptr false 9 0,.ptr false 10 0],D.fn (Ve 173) [] [.ptr false 13 0]]) 14 (D.fn (Ve 171) [] [.ptr false 9 0,.ptr false 10 0]) rfl,tT,tT]) (by kernel_rfl)).to (by ((simp only [wk,aB,and_true];repeat' (first|rfl|exact VS|apply VY));done))
theorem lV:aZ Tryz.prog 125 ([.int .i8 15]) (.bool true):=by
 exact (j5 (d:= .bool true) ([tT,tT,tT,tT]++Vc 10 .inl++ [tT,tT,tT,.get ([D.av,D.av,D.fn (Ve 167) [] [],D.fn (Ve 173) [] [.ptr false 1 0],D.fn (Ve 168) [] [],D.fn (Ve 173) [] [.ptr false 2 0],D.fn (Ve 171) [] [.ptr false 3 0,.ptr false 4 0],D.fn (Ve 173) [] [.ptr false 7 0],D.av,D.av,D.av,D.av,D.fn (Ve 169) [] [],D.fn (Ve 173) [] [.ptr false 8 0],D.fn (Ve 171) [] [.ptr false 9 0,.ptr false 10 0],D.fn (Ve 173) [] [.ptr false 13 0]]) 15 (D.fn (Ve 173) [] [.ptr false 13 0]) rfl,tT,tT]) (by kernel_rfl)).to (by ((simp only [wk,aB,and_true];repeat' (first|rfl|exact VS|apply VY));done))
theorem vU (cc:Int) (h:decide (0≤cc∧cc≤15)=false):aZ Tryz.prog 125 ([.int .i8 cc]) (.bool false):=by
 rcases de (decide (cc<0)) with h0|h0
 ·exact (j5 (d:= .bool false) [tC (eT (bk 0 h0)),tC (eT (bk 0 h0)),tC (bk 0 h0),tF,tF,tF,tF,tF] (by kernel_rfl)).to (by simp [wk])
 exact (j5 (d:= .bool false) ([tC (eT (bk 0 h0)),tC (eT (bk 0 h0)),tC (bk 0 h0)]++Vc 4 (tC (eT (by (simp only [cf] at*;omega):(decide (cc<16))=false)))++ [tC (by (simp only [cf] at*;omega):(decide (cc<16))=false)]) (by kernel_rfl)).to (by simp [wk])
def gN (Pf:Int):Prop:= ∀(c z s o:Bool),aZ Tryz.prog 141 ([.int .i8 Pf,fD true c z s o]) (.aM [.bool (dw Pf c z s o),.int .i64 0])
theorem wb:gN 2:=by
 intro c z s o
 have c0:= @nv
 have c1:= @cg
 exact (dd (d:= .aM [.bool c,.int .i64 0]) ([.ret _ _ _ c0,tF,.ret _ _ _ c1,.flat _ _ cn,tT,tT,tT,tF,tF]++Vc 10 .inl++ [.bn [],.bn [(0,.box [.bool true,.bool c,.bool z,.bool s,.bool o])],tT,.get ([D.av,D.av,D.fn (Ve 167) [] [],D.fn (Ve 173) [] [.ptr false 4 0],D.fn (Ve 168) [] [],D.fn (Ve 173) [] [.ptr false 5 0],D.fn (Ve 171) [] [.ptr false 6 0,.ptr false 7 0],D.fn (Ve 173) [] [.ptr false 10 0],D.av,D.av,D.av,D.av,D.fn (Ve 169) [] [],D.fn (Ve 173) [] [.ptr false 11 0],D.fn (Ve 171) [] [.ptr false 12 0,.ptr false 13 0],D.fn (Ve 173) [] [.ptr false 16 0]]) 2 (D.fn (Ve 167) [] []) rfl,.inl]) (by kernel_rfl)).to (by (try cases c)<;>(try cases z)<;>(try cases s)<;>(try cases o)<;>first|(simp [wk,aB,dw];done)|rfl|exact ⟨rfl,rfl,trivial⟩)
def gM (Pf:Int):Prop:= ∀(c z s o:Bool),aZ Tryz.prog 141 ([.int .i8 Pf,fD false c z s o]) (.aM [.bool false,.int .i64 20])
theorem tp:gM 2:=by
 intro c z s o
 have c0:= @nv
 have c1:= @cg
 let E1:EL:= [.ret _ _ _ c0,tF,.ret _ _ _ c1,.flat _ _ cn]
 cases c
 ·cases z
  ·cases s
   ·cases o
    ·exact (dd (d:= .aM [.bool false,.int .i64 20]) (E1++ [tF,tF,tF,tT,tT]) (by kernel_rfl)).to (by clear E1;simp [wk,aB])
    exact (dd (d:= .aM [.bool false,.int .i64 20]) (E1++ [tT,tT,tT,tF,tT]) (by kernel_rfl)).to (by clear E1;simp [wk,aB])
   exact (dd (d:= .aM [.bool false,.int .i64 20]) (E1++ [tT,tT,tT,tF,tT]) (by kernel_rfl)).to (by clear E1;simp [wk,aB])
  exact (dd (d:= .aM [.bool false,.int .i64 20]) (E1++ [tT,tT,tT,tF,tT]) (by kernel_rfl)).to (by clear E1;simp [wk,aB])
 exact (dd (d:= .aM [.bool false,.int .i64 20]) (E1++ [tT,tT,tT,tF,tT]) (by kernel_rfl)).to (by clear E1;simp [wk,aB])
theorem wa:gN 3:=by
 intro c z s o
 have c0:= @nr
 have c1:= @cg
 exact (dd (d:= .aM [.bool !c,.int .i64 0]) ([.ret _ _ _ c0,tF,.ret _ _ _ c1,.flat _ _ cn,tT,tT,tT,tF,tF]++Vc 10 .inl++ [.bn [],.bn [(0,.box [.bool true,.bool c,.bool z,.bool s,.bool o])],tT,.get ([D.av,D.av,D.fn (Ve 167) [] [],D.fn (Ve 173) [] [.ptr false 4 0],D.fn (Ve 168) [] [],D.fn (Ve 173) [] [.ptr false 5 0],D.fn (Ve 171) [] [.ptr false 6 0,.ptr false 7 0],D.fn (Ve 173) [] [.ptr false 10 0],D.av,D.av,D.av,D.av,D.fn (Ve 169) [] [],D.fn (Ve 173) [] [.ptr false 11 0],D.fn (Ve 171) [] [.ptr false 12 0,.ptr false 13 0],D.fn (Ve 173) [] [.ptr false 16 0]]) 3 (D.fn (Ve 173) [] [.ptr false 4 0]) rfl,.inl,.inl]) (by kernel_rfl)).to (by (try cases c)<;>(try cases z)<;>(try cases s)<;>(try cases o)<;>first|(simp [wk,aB,dw];done)|rfl|exact ⟨rfl,rfl,trivial⟩)
theorem tk:gM 3:=by
 intro c z s o
 have c0:= @nr
 have c1:= @cg
 let E1:EL:= [.ret _ _ _ c0,tF,.ret _ _ _ c1,.flat _ _ cn]
 cases c
 ·cases z
  ·cases s
   ·cases o
    ·exact (dd (d:= .aM [.bool false,.int .i64 20]) (E1++ [tF,tF,tF,tT,tT]) (by kernel_rfl)).to (by clear E1;simp [wk,aB])
    exact (dd (d:= .aM [.bool false,.int .i64 20]) (E1++ [tT,tT,tT,tF,tT]) (by kernel_rfl)).to (by clear E1;simp [wk,aB])
   exact (dd (d:= .aM [.bool false,.int .i64 20]) (E1++ [tT,tT,tT,tF,tT]) (by kernel_rfl)).to (by clear E1;simp [wk,aB])
  exact (dd (d:= .aM [.bool false,.int .i64 20]) (E1++ [tT,tT,tT,tF,tT]) (by kernel_rfl)).to (by clear E1;simp [wk,aB])
 exact (dd (d:= .aM [.bool false,.int .i64 20]) (E1++ [tT,tT,tT,tF,tT]) (by kernel_rfl)).to (by clear E1;simp [wk,aB])
theorem v9:gN 4:=by
 intro c z s o
 have c0:= @nq
 have c1:= @cg
 exact (dd (d:= .aM [.bool z,.int .i64 0]) ([.ret _ _ _ c0,tF,.ret _ _ _ c1,.flat _ _ cn,tT,tT,tT,tF,tF]++Vc 10 .inl++ [.bn [],.bn [(0,.box [.bool true,.bool c,.bool z,.bool s,.bool o])],tT,.get ([D.av,D.av,D.fn (Ve 167) [] [],D.fn (Ve 173) [] [.ptr false 4 0],D.fn (Ve 168) [] [],D.fn (Ve 173) [] [.ptr false 5 0],D.fn (Ve 171) [] [.ptr false 6 0,.ptr false 7 0],D.fn (Ve 173) [] [.ptr false 10 0],D.av,D.av,D.av,D.av,D.fn (Ve 169) [] [],D.fn (Ve 173) [] [.ptr false 11 0],D.fn (Ve 171) [] [.ptr false 12 0,.ptr false 13 0],D.fn (Ve 173) [] [.ptr false 16 0]]) 4 (D.fn (Ve 168) [] []) rfl,.inl]) (by kernel_rfl)).to (by (try cases c)<;>(try cases z)<;>(try cases s)<;>(try cases o)<;>first|(simp [wk,aB,dw];done)|rfl|exact ⟨rfl,rfl,trivial⟩)
theorem tj:gM 4:=by
 intro c z s o
 have c0:= @nq
 have c1:= @cg
 let E1:EL:= [.ret _ _ _ c0,tF,.ret _ _ _ c1,.flat _ _ cn]
 cases c
 ·cases z
  ·cases s
   ·cases o
    ·exact (dd (d:= .aM [.bool false,.int .i64 20]) (E1++ [tF,tF,tF,tT,tT]) (by kernel_rfl)).to (by clear E1;simp [wk,aB])
    exact (dd (d:= .aM [.bool false,.int .i64 20]) (E1++ [tT,tT,tT,tF,tT]) (by kernel_rfl)).to (by clear E1;simp [wk,aB])
   exact (dd (d:= .aM [.bool false,.int .i64 20]) (E1++ [tT,tT,tT,tF,tT]) (by kernel_rfl)).to (by clear E1;simp [wk,aB])
  exact (dd (d:= .aM [.bool false,.int .i64 20]) (E1++ [tT,tT,tT,tF,tT]) (by kernel_rfl)).to (by clear E1;simp [wk,aB])
 exact (dd (d:= .aM [.bool false,.int .i64 20]) (E1++ [tT,tT,tT,tF,tT]) (by kernel_rfl)).to (by clear E1;simp [wk,aB])
theorem v8:gN 5:=by
 intro c z s o
 have c0:= @np
 have c1:= @cg
 exact (dd (d:= .aM [.bool !z,.int .i64 0]) ([.ret _ _ _ c0,tF,.ret _ _ _ c1,.flat _ _ cn,tT,tT,tT,tF,tF]++Vc 10 .inl++ [.bn [],.bn [(0,.box [.bool true,.bool c,.bool z,.bool s,.bool o])],tT,.get ([D.av,D.av,D.fn (Ve 167) [] [],D.fn (Ve 173) [] [.ptr false 4 0],D.fn (Ve 168) [] [],D.fn (Ve 173) [] [.ptr false 5 0],D.fn (Ve 171) [] [.ptr false 6 0,.ptr false 7 0],D.fn (Ve 173) [] [.ptr false 10 0],D.av,D.av,D.av,D.av,D.fn (Ve 169) [] [],D.fn (Ve 173) [] [.ptr false 11 0],D.fn (Ve 171) [] [.ptr false 12 0,.ptr false 13 0],D.fn (Ve 173) [] [.ptr false 16 0]]) 5 (D.fn (Ve 173) [] [.ptr false 5 0]) rfl,.inl,.inl]) (by kernel_rfl)).to (by (try cases c)<;>(try cases z)<;>(try cases s)<;>(try cases o)<;>first|(simp [wk,aB,dw];done)|rfl|exact ⟨rfl,rfl,trivial⟩)
theorem ti:gM 5:=by
 intro c z s o
 have c0:= @np
 have c1:= @cg
 let E1:EL:= [.ret _ _ _ c0,tF,.ret _ _ _ c1,.flat _ _ cn]
 cases c
 ·cases z
  ·cases s
   ·cases o
    ·exact (dd (d:= .aM [.bool false,.int .i64 20]) (E1++ [tF,tF,tF,tT,tT]) (by kernel_rfl)).to (by clear E1;simp [wk,aB])
    exact (dd (d:= .aM [.bool false,.int .i64 20]) (E1++ [tT,tT,tT,tF,tT]) (by kernel_rfl)).to (by clear E1;simp [wk,aB])
   exact (dd (d:= .aM [.bool false,.int .i64 20]) (E1++ [tT,tT,tT,tF,tT]) (by kernel_rfl)).to (by clear E1;simp [wk,aB])
  exact (dd (d:= .aM [.bool false,.int .i64 20]) (E1++ [tT,tT,tT,tF,tT]) (by kernel_rfl)).to (by clear E1;simp [wk,aB])
 exact (dd (d:= .aM [.bool false,.int .i64 20]) (E1++ [tT,tT,tT,tF,tT]) (by kernel_rfl)).to (by clear E1;simp [wk,aB])
theorem v7:gN 6:=by
 intro c z s o
 have c0:= @nn
 have c1:= @cg
 let E1:EL:=([.ret _ _ _ c0,tF,.ret _ _ _ c1,.flat _ _ cn,tT,tT,tT,tF,tF]++Vc 10 .inl++ [.bn []])
 cases c
 ·exact (dd (d:= .aM [.bool z,.int .i64 0]) (E1++ [.bn [(0,.box [.bool true,.bool false,.bool z,.bool s,.bool o])],tT,.get ([D.av,D.av,D.fn (Ve 167) [] [],D.fn (Ve 173) [] [.ptr false 4 0],D.fn (Ve 168) [] [],D.fn (Ve 173) [] [.ptr false 5 0],D.fn (Ve 171) [] [.ptr false 6 0,.ptr false 7 0],D.fn (Ve 173) [] [.ptr false 10 0],D.av,D.av,D.av,D.av,D.fn (Ve 169) [] [],D.fn (Ve 173) [] [.ptr false 11 0],D.fn (Ve 171) [] [.ptr false 12 0,.ptr false 13 0],D.fn (Ve 173) [] [.ptr false 16 0]]) 6 (D.fn (Ve 171) [] [.ptr false 6 0,.ptr false 7 0]) rfl,.inl,.inl,tT,tT,tT,.inl,tF]) (by kernel_rfl)).to (by clear E1;(try cases c)<;>(try cases z)<;>(try cases s)<;>(try cases o)<;>first|(simp [wk,aB,dw];done)|rfl|exact ⟨rfl,rfl,trivial⟩)
 exact (dd (d:= .aM [.bool true,.int .i64 0]) (E1++ [.bn [(0,.box [.bool true,.bool true,.bool z,.bool s,.bool o])],tT,.get ([D.av,D.av,D.fn (Ve 167) [] [],D.fn (Ve 173) [] [.ptr false 4 0],D.fn (Ve 168) [] [],D.fn (Ve 173) [] [.ptr false 5 0],D.fn (Ve 171) [] [.ptr false 6 0,.ptr false 7 0],D.fn (Ve 173) [] [.ptr false 10 0],D.av,D.av,D.av,D.av,D.fn (Ve 169) [] [],D.fn (Ve 173) [] [.ptr false 11 0],D.fn (Ve 171) [] [.ptr false 12 0,.ptr false 13 0],D.fn (Ve 173) [] [.ptr false 16 0]]) 6 (D.fn (Ve 171) [] [.ptr false 6 0,.ptr false 7 0]) rfl,.inl,.inl,tF,tF,tF,tT]) (by kernel_rfl)).to (by clear E1;(try cases c)<;>(try cases z)<;>(try cases s)<;>(try cases o)<;>first|(simp [wk,aB,dw];done)|rfl|exact ⟨rfl,rfl,trivial⟩)
theorem th:gM 6:=by
 intro c z s o
 have c0:= @nn
 have c1:= @cg
 let E1:EL:= [.ret _ _ _ c0,tF,.ret _ _ _ c1,.flat _ _ cn]
 cases c
 ·cases z
  ·cases s
   ·cases o
    ·exact (dd (d:= .aM [.bool false,.int .i64 20]) (E1++ [tF,tF,tF,tT,tT]) (by kernel_rfl)).to (by clear E1;simp [wk,aB])
    exact (dd (d:= .aM [.bool false,.int .i64 20]) (E1++ [tT,tT,tT,tF,tT]) (by kernel_rfl)).to (by clear E1;simp [wk,aB])
   exact (dd (d:= .aM [.bool false,.int .i64 20]) (E1++ [tT,tT,tT,tF,tT]) (by kernel_rfl)).to (by clear E1;simp [wk,aB])
  exact (dd (d:= .aM [.bool false,.int .i64 20]) (E1++ [tT,tT,tT,tF,tT]) (by kernel_rfl)).to (by clear E1;simp [wk,aB])
 exact (dd (d:= .aM [.bool false,.int .i64 20]) (E1++ [tT,tT,tT,tF,tT]) (by kernel_rfl)).to (by clear E1;simp [wk,aB])
theorem v5:gN 7:=by
 intro c z s o
 have c0:= @nm
 have c1:= @cg
 let E1:EL:=([.ret _ _ _ c0,tF,.ret _ _ _ c1,.flat _ _ cn,tT,tT,tT,tF,tF]++Vc 10 .inl++ [.bn []])
 cases c
 ·exact (dd (d:= .aM [.bool !z,.int .i64 0]) (E1++ [.bn [(0,.box [.bool true,.bool false,.bool z,.bool s,.bool o])],tT,.get ([D.av,D.av,D.fn (Ve 167) [] [],D.fn (Ve 173) [] [.ptr false 4 0],D.fn (Ve 168) [] [],D.fn (Ve 173) [] [.ptr false 5 0],D.fn (Ve 171) [] [.ptr false 6 0,.ptr false 7 0],D.fn (Ve 173) [] [.ptr false 10 0],D.av,D.av,D.av,D.av,D.fn (Ve 169) [] [],D.fn (Ve 173) [] [.ptr false 11 0],D.fn (Ve 171) [] [.ptr false 12 0,.ptr false 13 0],D.fn (Ve 173) [] [.ptr false 16 0]]) 7 (D.fn (Ve 173) [] [.ptr false 10 0]) rfl,.inl,.inl,.inl,tT,tT,tT,.inl,tF]) (by kernel_rfl)).to (by clear E1;(try cases c)<;>(try cases z)<;>(try cases s)<;>(try cases o)<;>first|(simp [wk,aB,dw];done)|rfl|exact ⟨rfl,rfl,trivial⟩)
 exact (dd (d:= .aM [.bool false,.int .i64 0]) (E1++ [.bn [(0,.box [.bool true,.bool true,.bool z,.bool s,.bool o])],tT,.get ([D.av,D.av,D.fn (Ve 167) [] [],D.fn (Ve 173) [] [.ptr false 4 0],D.fn (Ve 168) [] [],D.fn (Ve 173) [] [.ptr false 5 0],D.fn (Ve 171) [] [.ptr false 6 0,.ptr false 7 0],D.fn (Ve 173) [] [.ptr false 10 0],D.av,D.av,D.av,D.av,D.fn (Ve 169) [] [],D.fn (Ve 173) [] [.ptr false 11 0],D.fn (Ve 171) [] [.ptr false 12 0,.ptr false 13 0],D.fn (Ve 173) [] [.ptr false 16 0]]) 7 (D.fn (Ve 173) [] [.ptr false 10 0]) rfl,.inl,.inl,.inl,tF,tF,tF,tT]) (by kernel_rfl)).to (by clear E1;(try cases c)<;>(try cases z)<;>(try cases s)<;>(try cases o)<;>first|(simp [wk,aB,dw];done)|rfl|exact ⟨rfl,rfl,trivial⟩)
theorem tg:gM 7:=by
 intro c z s o
 have c0:= @nm
 have c1:= @cg
 let E1:EL:= [.ret _ _ _ c0,tF,.ret _ _ _ c1,.flat _ _ cn]
 cases c
 ·cases z
  ·cases s
   ·cases o
    ·exact (dd (d:= .aM [.bool false,.int .i64 20]) (E1++ [tF,tF,tF,tT,tT]) (by kernel_rfl)).to (by clear E1;simp [wk,aB])
    exact (dd (d:= .aM [.bool false,.int .i64 20]) (E1++ [tT,tT,tT,tF,tT]) (by kernel_rfl)).to (by clear E1;simp [wk,aB])
   exact (dd (d:= .aM [.bool false,.int .i64 20]) (E1++ [tT,tT,tT,tF,tT]) (by kernel_rfl)).to (by clear E1;simp [wk,aB])
  exact (dd (d:= .aM [.bool false,.int .i64 20]) (E1++ [tT,tT,tT,tF,tT]) (by kernel_rfl)).to (by clear E1;simp [wk,aB])
 exact (dd (d:= .aM [.bool false,.int .i64 20]) (E1++ [tT,tT,tT,tF,tT]) (by kernel_rfl)).to (by clear E1;simp [wk,aB])
theorem tx:gN 12:=by
 intro c z s o
 have c0:= @lY
 have c1:= @cg
 exact (dd (d:= .aM [.bool !s==o,.int .i64 0]) ([.ret _ _ _ c0,tF,.ret _ _ _ c1,.flat _ _ cn,tT,tT,tT,tF,tF]++Vc 10 .inl++ [.bn [],.bn [(0,.box [.bool true,.bool c,.bool z,.bool s,.bool o])],tT,.get ([D.av,D.av,D.fn (Ve 167) [] [],D.fn (Ve 173) [] [.ptr false 4 0],D.fn (Ve 168) [] [],D.fn (Ve 173) [] [.ptr false 5 0],D.fn (Ve 171) [] [.ptr false 6 0,.ptr false 7 0],D.fn (Ve 173) [] [.ptr false 10 0],D.av,D.av,D.av,D.av,D.fn (Ve 169) [] [],D.fn (Ve 173) [] [.ptr false 11 0],D.fn (Ve 171) [] [.ptr false 12 0,.ptr false 13 0],D.fn (Ve 173) [] [.ptr false 16 0]]) 12 (D.fn (Ve 169) [] []) rfl,.inl]) (by kernel_rfl)).to (by (try cases c)<;>(try cases z)<;>(try cases s)<;>(try cases o)<;>first|(simp [wk,aB,dw];done)|rfl|exact ⟨rfl,rfl,trivial⟩)
theorem qL:gM 12:=by
 intro c z s o
 have c0:= @lY
 have c1:= @cg
 let E1:EL:= [.ret _ _ _ c0,tF,.ret _ _ _ c1,.flat _ _ cn]
 cases c
 ·cases z
  ·cases s
   ·cases o
    ·exact (dd (d:= .aM [.bool false,.int .i64 20]) (E1++ [tF,tF,tF,tT,tT]) (by kernel_rfl)).to (by clear E1;simp [wk,aB])
    exact (dd (d:= .aM [.bool false,.int .i64 20]) (E1++ [tT,tT,tT,tF,tT]) (by kernel_rfl)).to (by clear E1;simp [wk,aB])
   exact (dd (d:= .aM [.bool false,.int .i64 20]) (E1++ [tT,tT,tT,tF,tT]) (by kernel_rfl)).to (by clear E1;simp [wk,aB])
  exact (dd (d:= .aM [.bool false,.int .i64 20]) (E1++ [tT,tT,tT,tF,tT]) (by kernel_rfl)).to (by clear E1;simp [wk,aB])
 exact (dd (d:= .aM [.bool false,.int .i64 20]) (E1++ [tT,tT,tT,tF,tT]) (by kernel_rfl)).to (by clear E1;simp [wk,aB])
theorem tw:gN 13:=by
 intro c z s o
 have c0:= @lX
 have c1:= @cg
 exact (dd (d:= .aM [.bool !!s==o,.int .i64 0]) ([.ret _ _ _ c0,tF,.ret _ _ _ c1,.flat _ _ cn,tT,tT,tT,tF,tF]++Vc 10 .inl++ [.bn [],.bn [(0,.box [.bool true,.bool c,.bool z,.bool s,.bool o])],tT,.get ([D.av,D.av,D.fn (Ve 167) [] [],D.fn (Ve 173) [] [.ptr false 4 0],D.fn (Ve 168) [] [],D.fn (Ve 173) [] [.ptr false 5 0],D.fn (Ve 171) [] [.ptr false 6 0,.ptr false 7 0],D.fn (Ve 173) [] [.ptr false 10 0],D.av,D.av,D.av,D.av,D.fn (Ve 169) [] [],D.fn (Ve 173) [] [.ptr false 11 0],D.fn (Ve 171) [] [.ptr false 12 0,.ptr false 13 0],D.fn (Ve 173) [] [.ptr false 16 0]]) 13 (D.fn (Ve 173) [] [.ptr false 11 0]) rfl,.inl,.inl]) (by kernel_rfl)).to (by (try cases c)<;>(try cases z)<;>(try cases s)<;>(try cases o)<;>first|(simp [wk,aB,dw];done)|rfl|exact ⟨rfl,rfl,trivial⟩)
theorem qK:gM 13:=by
 intro c z s o
 have c0:= @lX
 have c1:= @cg
 let E1:EL:= [.ret _ _ _ c0,tF,.ret _ _ _ c1,.flat _ _ cn]
 cases c
 ·cases z
  ·cases s
   ·cases o
    ·exact (dd (d:= .aM [.bool false,.int .i64 20]) (E1++ [tF,tF,tF,tT,tT]) (by kernel_rfl)).to (by clear E1;simp [wk,aB])
    exact (dd (d:= .aM [.bool false,.int .i64 20]) (E1++ [tT,tT,tT,tF,tT]) (by kernel_rfl)).to (by clear E1;simp [wk,aB])
   exact (dd (d:= .aM [.bool false,.int .i64 20]) (E1++ [tT,tT,tT,tF,tT]) (by kernel_rfl)).to (by clear E1;simp [wk,aB])
  exact (dd (d:= .aM [.bool false,.int .i64 20]) (E1++ [tT,tT,tT,tF,tT]) (by kernel_rfl)).to (by clear E1;simp [wk,aB])
 exact (dd (d:= .aM [.bool false,.int .i64 20]) (E1++ [tT,tT,tT,tF,tT]) (by kernel_rfl)).to (by clear E1;simp [wk,aB])
theorem tu:gN 14:=by
 intro c z s o
 have c0:= @lW
 have c1:= @cg
 let E1:EL:=([.ret _ _ _ c0,tF,.ret _ _ _ c1,.flat _ _ cn,tT,tT,tT,tF,tF]++Vc 10 .inl++ [.bn []])
 cases z
 ·exact (dd (d:= .aM [.bool !s==o,.int .i64 0]) (E1++ [.bn [(0,.box [.bool true,.bool c,.bool false,.bool s,.bool o])],tT,.get ([D.av,D.av,D.fn (Ve 167) [] [],D.fn (Ve 173) [] [.ptr false 4 0],D.fn (Ve 168) [] [],D.fn (Ve 173) [] [.ptr false 5 0],D.fn (Ve 171) [] [.ptr false 6 0,.ptr false 7 0],D.fn (Ve 173) [] [.ptr false 10 0],D.av,D.av,D.av,D.av,D.fn (Ve 169) [] [],D.fn (Ve 173) [] [.ptr false 11 0],D.fn (Ve 171) [] [.ptr false 12 0,.ptr false 13 0],D.fn (Ve 173) [] [.ptr false 16 0]]) 14 (D.fn (Ve 171) [] [.ptr false 12 0,.ptr false 13 0]) rfl,.inl,.inl,tT,tT,tT,.inl,tF]) (by kernel_rfl)).to (by clear E1;(try cases c)<;>(try cases z)<;>(try cases s)<;>(try cases o)<;>first|(simp [wk,aB,dw];done)|rfl|exact ⟨rfl,rfl,trivial⟩)
 exact (dd (d:= .aM [.bool true,.int .i64 0]) (E1++ [.bn [(0,.box [.bool true,.bool c,.bool true,.bool s,.bool o])],tT,.get ([D.av,D.av,D.fn (Ve 167) [] [],D.fn (Ve 173) [] [.ptr false 4 0],D.fn (Ve 168) [] [],D.fn (Ve 173) [] [.ptr false 5 0],D.fn (Ve 171) [] [.ptr false 6 0,.ptr false 7 0],D.fn (Ve 173) [] [.ptr false 10 0],D.av,D.av,D.av,D.av,D.fn (Ve 169) [] [],D.fn (Ve 173) [] [.ptr false 11 0],D.fn (Ve 171) [] [.ptr false 12 0,.ptr false 13 0],D.fn (Ve 173) [] [.ptr false 16 0]]) 14 (D.fn (Ve 171) [] [.ptr false 12 0,.ptr false 13 0]) rfl,.inl,.inl,tF,tF,tF,tT]) (by kernel_rfl)).to (by clear E1;(try cases c)<;>(try cases z)<;>(try cases s)<;>(try cases o)<;>first|(simp [wk,aB,dw];done)|rfl|exact ⟨rfl,rfl,trivial⟩)
theorem qJ:gM 14:=by
 intro c z s o
 have c0:= @lW
 have c1:= @cg
 let E1:EL:= [.ret _ _ _ c0,tF,.ret _ _ _ c1,.flat _ _ cn]
 cases c
 ·cases z
  ·cases s
   ·cases o
    ·exact (dd (d:= .aM [.bool false,.int .i64 20]) (E1++ [tF,tF,tF,tT,tT]) (by kernel_rfl)).to (by clear E1;simp [wk,aB])
    exact (dd (d:= .aM [.bool false,.int .i64 20]) (E1++ [tT,tT,tT,tF,tT]) (by kernel_rfl)).to (by clear E1;simp [wk,aB])
   exact (dd (d:= .aM [.bool false,.int .i64 20]) (E1++ [tT,tT,tT,tF,tT]) (by kernel_rfl)).to (by clear E1;simp [wk,aB])
  exact (dd (d:= .aM [.bool false,.int .i64 20]) (E1++ [tT,tT,tT,tF,tT]) (by kernel_rfl)).to (by clear E1;simp [wk,aB])
 exact (dd (d:= .aM [.bool false,.int .i64 20]) (E1++ [tT,tT,tT,tF,tT]) (by kernel_rfl)).to (by clear E1;simp [wk,aB])
theorem tq:gN 15:=by
 intro c z s o
 have c0:= @lV
 have c1:= @cg
 let E1:EL:=([.ret _ _ _ c0,tF,.ret _ _ _ c1,.flat _ _ cn,tT,tT,tT,tF,tF]++Vc 10 .inl++ [.bn []])
 cases z
 ·exact (dd (d:= .aM [.bool !!s==o,.int .i64 0]) (E1++ [.bn [(0,.box [.bool true,.bool c,.bool false,.bool s,.bool o])],tT,.get ([D.av,D.av,D.fn (Ve 167) [] [],D.fn (Ve 173) [] [.ptr false 4 0],D.fn (Ve 168) [] [],D.fn (Ve 173) [] [.ptr false 5 0],D.fn (Ve 171) [] [.ptr false 6 0,.ptr false 7 0],D.fn (Ve 173) [] [.ptr false 10 0],D.av,D.av,D.av,D.av,D.fn (Ve 169) [] [],D.fn (Ve 173) [] [.ptr false 11 0],D.fn (Ve 171) [] [.ptr false 12 0,.ptr false 13 0],D.fn (Ve 173) [] [.ptr false 16 0]]) 15 (D.fn (Ve 173) [] [.ptr false 16 0]) rfl,.inl,.inl,.inl,tT,tT,tT,.inl,tF]) (by kernel_rfl)).to (by clear E1;(try cases c)<;>(try cases z)<;>(try cases s)<;>(try cases o)<;>first|(simp [wk,aB,dw];done)|rfl|exact ⟨rfl,rfl,trivial⟩)
 exact (dd (d:= .aM [.bool false,.int .i64 0]) (E1++ [.bn [(0,.box [.bool true,.bool c,.bool true,.bool s,.bool o])],tT,.get ([D.av,D.av,D.fn (Ve 167) [] [],D.fn (Ve 173) [] [.ptr false 4 0],D.fn (Ve 168) [] [],D.fn (Ve 173) [] [.ptr false 5 0],D.fn (Ve 171) [] [.ptr false 6 0,.ptr false 7 0],D.fn (Ve 173) [] [.ptr false 10 0],D.av,D.av,D.av,D.av,D.fn (Ve 169) [] [],D.fn (Ve 173) [] [.ptr false 11 0],D.fn (Ve 171) [] [.ptr false 12 0,.ptr false 13 0],D.fn (Ve 173) [] [.ptr false 16 0]]) 15 (D.fn (Ve 173) [] [.ptr false 16 0]) rfl,.inl,.inl,.inl,tF,tF,tF,tT]) (by kernel_rfl)).to (by clear E1;(try cases c)<;>(try cases z)<;>(try cases s)<;>(try cases o)<;>first|(simp [wk,aB,dw];done)|rfl|exact ⟨rfl,rfl,trivial⟩)
theorem qI:gM 15:=by
 intro c z s o
 have c0:= @lV
 have c1:= @cg
 let E1:EL:= [.ret _ _ _ c0,tF,.ret _ _ _ c1,.flat _ _ cn]
 cases c
 ·cases z
  ·cases s
   ·cases o
    ·exact (dd (d:= .aM [.bool false,.int .i64 20]) (E1++ [tF,tF,tF,tT,tT]) (by kernel_rfl)).to (by clear E1;simp [wk,aB])
    exact (dd (d:= .aM [.bool false,.int .i64 20]) (E1++ [tT,tT,tT,tF,tT]) (by kernel_rfl)).to (by clear E1;simp [wk,aB])
   exact (dd (d:= .aM [.bool false,.int .i64 20]) (E1++ [tT,tT,tT,tF,tT]) (by kernel_rfl)).to (by clear E1;simp [wk,aB])
  exact (dd (d:= .aM [.bool false,.int .i64 20]) (E1++ [tT,tT,tT,tF,tT]) (by kernel_rfl)).to (by clear E1;simp [wk,aB])
 exact (dd (d:= .aM [.bool false,.int .i64 20]) (E1++ [tT,tT,tT,tF,tT]) (by kernel_rfl)).to (by clear E1;simp [wk,aB])
theorem vV (cc:Int):aZ Tryz.prog 125 [.int .i8 cc] (.bool (bb cc)):=by
 by_cases h:0≤cc∧cc≤15
 ·have hc:cc=0∨cc=1∨cc=2∨cc=3∨cc=4∨cc=5∨cc=6∨cc=7∨cc=8∨cc=9∨cc=10∨cc=11∨cc=12∨cc=13∨cc=14∨cc=15:=by omega
  rcases hc with rfl|rfl|rfl|rfl|rfl|rfl|rfl|rfl|rfl|rfl|rfl|rfl|rfl|rfl|rfl|rfl
  ·exact BO
  ·exact BN
  ·exact nv
  ·exact nr
  ·exact nq
  ·exact np
  ·exact nn
  ·exact nm
  ·exact BM
  ·exact BL
  ·exact x8
  ·exact x7
  ·exact lY
  ·exact lX
  ·exact lW
  ·exact lV
 ·have e:bb cc=false:=decide_eq_false (by omega)
  rw [e]
  exact vU cc (decide_eq_false h)
def bE:List D:= [.int .i8 1,.int .u8 137,.int .i8 0,.int .i8 3,.int .u8 199,.int .i8 0,.int .i8 1,.int .u8 1,.int .i8 0,.int .i8 1,.int .u8 9,.int .i8 0,.int .i8 1,.int .u8 33,.int .i8 0,.int .i8 1,.int .u8 41,.int .i8 0,.int .i8 1,.int .u8 49,.int .i8 0,.int .i8 1,.int .u8 57,.int .i8 0,.int .i8 1,.int .u8 133,.int .i8 0,.int .i8 3,.int .u8 129,.int .i8 0,.int .i8 3,.int .u8 129,.int .i8 1,.int .i8 3,.int .u8 129,.int .i8 4,.int .i8 3,.int .u8 129,.int .i8 5,.int .i8 3,.int .u8 129,.int .i8 6,.int .i8 3,.int .u8 129,.int .i8 7,.int .i8 3,.int .u8 247,.int .i8 0,.int .i8 2,.int .u8 175,.int .i8 0,.int .i8 4,.int .u8 193,.int .i8 4,.int .i8 4,.int .u8 193,.int .i8 5,.int .i8 4,.int .u8 193,.int .i8 7,.int .i8 5,.int .u8 211,.int .i8 4,.int .i8 5,.int .u8 211,.int .i8 5,.int .i8 5,.int .u8 211,.int .i8 7,.int .i8 5,.int .u8 247,.int .i8 3,.int .i8 5,.int .u8 247,.int .i8 6,.int .i8 6,.int .u8 64,.int .i8 0,.int .i8 7,.int .u8 139,.int .i8 0,.int .i8 8,.int .u8 137,.int .i8 0,.int .i8 9,.int .u8 233,.int .i8 0,.int .i8 10,.int .u8 128,.int .i8 0,.int .i8 11,.int .u8 195,.int .i8 0,.int .i8 11,.int .u8 5,.int .i8 0]
def dc (Pf:Int):Prop:=aZ Tryz.prog 99 ([.int .i8 Pf]) (.aM [.agg [.int .i8 (aR Pf),.int .u8 (cr Pf),.int .i8 (dV Pf)],.bool true])
theorem FN:dc 0:=by
 exact (kS (d:= .aM [.agg [.int .i8 1,.int .u8 137,.int .i8 0],.bool true]) [.inl,tT,tT,tT,tF,tF,tT,.bV bE 0 3 ([.int .i8 1,.int .u8 137,.int .i8 0]) ⟨rfl,by decide⟩] (by kernel_rfl)).to (by simp [wk,aB];decide)
theorem FM:dc 1:=by
 exact (kS (d:= .aM [.agg [.int .i8 3,.int .u8 199,.int .i8 0],.bool true]) [.inl,tT,tT,tT,tF,tF,tT,.bV bE 3 3 ([.int .i8 3,.int .u8 199,.int .i8 0]) ⟨rfl,by decide⟩] (by kernel_rfl)).to (by simp [wk,aB];decide)
theorem FL:dc 2:=by
 exact (kS (d:= .aM [.agg [.int .i8 1,.int .u8 1,.int .i8 0],.bool true]) [.inl,tT,tT,tT,tF,tF,tT,.bV bE 6 3 ([.int .i8 1,.int .u8 1,.int .i8 0]) ⟨rfl,by decide⟩] (by kernel_rfl)).to (by simp [wk,aB];decide)
theorem FK:dc 3:=by
 exact (kS (d:= .aM [.agg [.int .i8 1,.int .u8 9,.int .i8 0],.bool true]) [.inl,tT,tT,tT,tF,tF,tT,.bV bE 9 3 ([.int .i8 1,.int .u8 9,.int .i8 0]) ⟨rfl,by decide⟩] (by kernel_rfl)).to (by simp [wk,aB];decide)
theorem FJ:dc 4:=by
 exact (kS (d:= .aM [.agg [.int .i8 1,.int .u8 33,.int .i8 0],.bool true]) [.inl,tT,tT,tT,tF,tF,tT,.bV bE 12 3 ([.int .i8 1,.int .u8 33,.int .i8 0]) ⟨rfl,by decide⟩] (by kernel_rfl)).to (by simp [wk,aB];decide)
theorem FI:dc 5:=by
 exact (kS (d:= .aM [.agg [.int .i8 1,.int .u8 41,.int .i8 0],.bool true]) [.inl,tT,tT,tT,tF,tF,tT,.bV bE 15 3 ([.int .i8 1,.int .u8 41,.int .i8 0]) ⟨rfl,by decide⟩] (by kernel_rfl)).to (by simp [wk,aB];decide)
theorem FH:dc 6:=by
 exact (kS (d:= .aM [.agg [.int .i8 1,.int .u8 49,.int .i8 0],.bool true]) [.inl,tT,tT,tT,tF,tF,tT,.bV bE 18 3 ([.int .i8 1,.int .u8 49,.int .i8 0]) ⟨rfl,by decide⟩] (by kernel_rfl)).to (by simp [wk,aB];decide)
theorem FG:dc 7:=by
 exact (kS (d:= .aM [.agg [.int .i8 1,.int .u8 57,.int .i8 0],.bool true]) [.inl,tT,tT,tT,tF,tF,tT,.bV bE 21 3 ([.int .i8 1,.int .u8 57,.int .i8 0]) ⟨rfl,by decide⟩] (by kernel_rfl)).to (by simp [wk,aB];decide)
theorem FF:dc 8:=by
 exact (kS (d:= .aM [.agg [.int .i8 1,.int .u8 133,.int .i8 0],.bool true]) [.inl,tT,tT,tT,tF,tF,tT,.bV bE 24 3 ([.int .i8 1,.int .u8 133,.int .i8 0]) ⟨rfl,by decide⟩] (by kernel_rfl)).to (by simp [wk,aB];decide)
theorem FE:dc 9:=by
 exact (kS (d:= .aM [.agg [.int .i8 3,.int .u8 129,.int .i8 0],.bool true]) [.inl,tT,tT,tT,tF,tF,tT,.bV bE 27 3 ([.int .i8 3,.int .u8 129,.int .i8 0]) ⟨rfl,by decide⟩] (by kernel_rfl)).to (by simp [wk,aB];decide)
theorem Dp:dc 10:=by
 exact (kS (d:= .aM [.agg [.int .i8 3,.int .u8 129,.int .i8 1],.bool true]) [.inl,tT,tT,tT,tF,tF,tT,.bV bE 30 3 ([.int .i8 3,.int .u8 129,.int .i8 1]) ⟨rfl,by decide⟩] (by kernel_rfl)).to (by simp [wk,aB];decide)
theorem Dn:dc 11:=by
 exact (kS (d:= .aM [.agg [.int .i8 3,.int .u8 129,.int .i8 4],.bool true]) [.inl,tT,tT,tT,tF,tF,tT,.bV bE 33 3 ([.int .i8 3,.int .u8 129,.int .i8 4]) ⟨rfl,by decide⟩] (by kernel_rfl)).to (by simp [wk,aB];decide)
theorem Dm:dc 12:=by
 exact (kS (d:= .aM [.agg [.int .i8 3,.int .u8 129,.int .i8 5],.bool true]) [.inl,tT,tT,tT,tF,tF,tT,.bV bE 36 3 ([.int .i8 3,.int .u8 129,.int .i8 5]) ⟨rfl,by decide⟩] (by kernel_rfl)).to (by simp [wk,aB];decide)
theorem Dl:dc 13:=by
 exact (kS (d:= .aM [.agg [.int .i8 3,.int .u8 129,.int .i8 6],.bool true]) [.inl,tT,tT,tT,tF,tF,tT,.bV bE 39 3 ([.int .i8 3,.int .u8 129,.int .i8 6]) ⟨rfl,by decide⟩] (by kernel_rfl)).to (by simp [wk,aB];decide)
theorem Dk:dc 14:=by
 exact (kS (d:= .aM [.agg [.int .i8 3,.int .u8 129,.int .i8 7],.bool true]) [.inl,tT,tT,tT,tF,tF,tT,.bV bE 42 3 ([.int .i8 3,.int .u8 129,.int .i8 7]) ⟨rfl,by decide⟩] (by kernel_rfl)).to (by simp [wk,aB];decide)
theorem Dj:dc 15:=by
 exact (kS (d:= .aM [.agg [.int .i8 3,.int .u8 247,.int .i8 0],.bool true]) [.inl,tT,tT,tT,tF,tF,tT,.bV bE 45 3 ([.int .i8 3,.int .u8 247,.int .i8 0]) ⟨rfl,by decide⟩] (by kernel_rfl)).to (by simp [wk,aB];decide)
theorem Di:dc 16:=by
 exact (kS (d:= .aM [.agg [.int .i8 2,.int .u8 175,.int .i8 0],.bool true]) [.inl,tT,tT,tT,tF,tF,tT,.bV bE 48 3 ([.int .i8 2,.int .u8 175,.int .i8 0]) ⟨rfl,by decide⟩] (by kernel_rfl)).to (by simp [wk,aB];decide)
theorem Dh:dc 17:=by
 exact (kS (d:= .aM [.agg [.int .i8 4,.int .u8 193,.int .i8 4],.bool true]) [.inl,tT,tT,tT,tF,tF,tT,.bV bE 51 3 ([.int .i8 4,.int .u8 193,.int .i8 4]) ⟨rfl,by decide⟩] (by kernel_rfl)).to (by simp [wk,aB];decide)
theorem Dg:dc 18:=by
 exact (kS (d:= .aM [.agg [.int .i8 4,.int .u8 193,.int .i8 5],.bool true]) [.inl,tT,tT,tT,tF,tF,tT,.bV bE 54 3 ([.int .i8 4,.int .u8 193,.int .i8 5]) ⟨rfl,by decide⟩] (by kernel_rfl)).to (by simp [wk,aB];decide)
theorem Df:dc 19:=by
 exact (kS (d:= .aM [.agg [.int .i8 4,.int .u8 193,.int .i8 7],.bool true]) [.inl,tT,tT,tT,tF,tF,tT,.bV bE 57 3 ([.int .i8 4,.int .u8 193,.int .i8 7]) ⟨rfl,by decide⟩] (by kernel_rfl)).to (by simp [wk,aB];decide)
theorem De:dc 20:=by
 exact (kS (d:= .aM [.agg [.int .i8 5,.int .u8 211,.int .i8 4],.bool true]) [.inl,tT,tT,tT,tF,tF,tT,.bV bE 60 3 ([.int .i8 5,.int .u8 211,.int .i8 4]) ⟨rfl,by decide⟩] (by kernel_rfl)).to (by simp [wk,aB];decide)
theorem Dd:dc 21:=by
 exact (kS (d:= .aM [.agg [.int .i8 5,.int .u8 211,.int .i8 5],.bool true]) [.inl,tT,tT,tT,tF,tF,tT,.bV bE 63 3 ([.int .i8 5,.int .u8 211,.int .i8 5]) ⟨rfl,by decide⟩] (by kernel_rfl)).to (by simp [wk,aB];decide)
theorem Dc:dc 22:=by
 exact (kS (d:= .aM [.agg [.int .i8 5,.int .u8 211,.int .i8 7],.bool true]) [.inl,tT,tT,tT,tF,tF,tT,.bV bE 66 3 ([.int .i8 5,.int .u8 211,.int .i8 7]) ⟨rfl,by decide⟩] (by kernel_rfl)).to (by simp [wk,aB];decide)
theorem Db:dc 23:=by
 exact (kS (d:= .aM [.agg [.int .i8 5,.int .u8 247,.int .i8 3],.bool true]) [.inl,tT,tT,tT,tF,tF,tT,.bV bE 69 3 ([.int .i8 5,.int .u8 247,.int .i8 3]) ⟨rfl,by decide⟩] (by kernel_rfl)).to (by simp [wk,aB];decide)
theorem Da:dc 24:=by
 exact (kS (d:= .aM [.agg [.int .i8 5,.int .u8 247,.int .i8 6],.bool true]) [.inl,tT,tT,tT,tF,tF,tT,.bV bE 72 3 ([.int .i8 5,.int .u8 247,.int .i8 6]) ⟨rfl,by decide⟩] (by kernel_rfl)).to (by simp [wk,aB];decide)
theorem C9:dc 25:=by
 exact (kS (d:= .aM [.agg [.int .i8 6,.int .u8 64,.int .i8 0],.bool true]) [.inl,tT,tT,tT,tF,tF,tT,.bV bE 75 3 ([.int .i8 6,.int .u8 64,.int .i8 0]) ⟨rfl,by decide⟩] (by kernel_rfl)).to (by simp [wk,aB];decide)
theorem C8:dc 26:=by
 exact (kS (d:= .aM [.agg [.int .i8 7,.int .u8 139,.int .i8 0],.bool true]) [.inl,tT,tT,tT,tF,tF,tT,.bV bE 78 3 ([.int .i8 7,.int .u8 139,.int .i8 0]) ⟨rfl,by decide⟩] (by kernel_rfl)).to (by simp [wk,aB];decide)
theorem C7:dc 27:=by
 exact (kS (d:= .aM [.agg [.int .i8 8,.int .u8 137,.int .i8 0],.bool true]) [.inl,tT,tT,tT,tF,tF,tT,.bV bE 81 3 ([.int .i8 8,.int .u8 137,.int .i8 0]) ⟨rfl,by decide⟩] (by kernel_rfl)).to (by simp [wk,aB];decide)
theorem C6:dc 28:=by
 exact (kS (d:= .aM [.agg [.int .i8 9,.int .u8 233,.int .i8 0],.bool true]) [.inl,tT,tT,tT,tF,tF,tT,.bV bE 84 3 ([.int .i8 9,.int .u8 233,.int .i8 0]) ⟨rfl,by decide⟩] (by kernel_rfl)).to (by simp [wk,aB];decide)
theorem C5:dc 29:=by
 exact (kS (d:= .aM [.agg [.int .i8 10,.int .u8 128,.int .i8 0],.bool true]) [.inl,tT,tT,tT,tF,tF,tT,.bV bE 87 3 ([.int .i8 10,.int .u8 128,.int .i8 0]) ⟨rfl,by decide⟩] (by kernel_rfl)).to (by simp [wk,aB];decide)
theorem C4:dc 30:=by
 exact (kS (d:= .aM [.agg [.int .i8 11,.int .u8 195,.int .i8 0],.bool true]) [.inl,tT,tT,tT,tF,tF,tT,.bV bE 90 3 ([.int .i8 11,.int .u8 195,.int .i8 0]) ⟨rfl,by decide⟩] (by kernel_rfl)).to (by simp [wk,aB];decide)
theorem C3:dc 31:=by
 exact (kS (d:= .aM [.agg [.int .i8 11,.int .u8 5,.int .i8 0],.bool true]) [.inl,tT,tT,tT,tF,tF,tT,.bV bE 93 3 ([.int .i8 11,.int .u8 5,.int .i8 0]) ⟨rfl,by decide⟩] (by kernel_rfl)).to (by simp [wk,aB];decide)
theorem AU (op:Int) (h:op<0):aZ Tryz.prog 99 ([.int .i8 op]) (.aM [.agg [.int .i8 0,.int .u8 0,.int .i8 0],.bool false]):=by
 exact (kS (d:= .aM [.agg [.int .i8 0,.int .u8 0,.int .i8 0],.bool false]) ([.inl]++Vc 3 (tC (eF (decide_eq_true h)))++ [tC (decide_eq_true h),tT]) (by kernel_rfl)).to (by simp [wk,aB])
theorem xE (op:Int) (h:32≤op) (ho:op≤127):aZ Tryz.prog 99 ([.int .i8 op]) (.aM [.agg [.int .i8 0,.int .u8 0,.int .i8 0],.bool false]):=by
 exact (kS (d:= .aM [.agg [.int .i8 0,.int .u8 0,.int .i8 0],.bool false]) ([.inl]++Vc 3 (tC (eF (Io 0 (decide_eq_false (Int.not_lt.2 h)))))++ [tC (Io 0 (decide_eq_false (Int.not_lt.2 h))),tC (bk 32 (by (simp only [cf] at*;omega):(decide (IntKind.wrap IntKind.i64 op<32))=false))]) (by kernel_rfl)).to (by simp [wk,aB])
theorem cU (n:Int):aZ Tryz.prog 101 ([.int .i8 n]) (.bool (ay n)):=by
 rcases de (decide (n<0)) with h0|h0
 ·exact (Jh (d:= .bool false) [tC (eT (bk 0 h0)),tC (eT (bk 0 h0)),tC (bk 0 h0)] (by kernel_rfl)).to (by (try simp only [cJ,wk,aB,aK,ae,ak,ay,bb,an,au] at*);first|(simp [wk,aB,aK,ae,ak,ay,bb,an,au, *];done)|(simp [wk,aB,aK,ae,ak,ay,bb,an,au, *];omega)|(rw [Vn];simp [wk,aB,aK,ae,ak,ay,bb,an,au, *];done)|(rw [Vn];simp [wk,aB,aK,ae,ak,ay,bb,an,au, *];omega)|(rw [Vn];simp [wk,aB,aK,ae,ak,ay,bb,an,au, *];grind)|(subst_vars;rw [Vn];simp;grind))
 exact (Jh (d:= .bool (decide (n<16))) [tC (eT (bk 0 h0)),tC (eT (bk 0 h0)),tC (bk 0 h0)] (by kernel_rfl)).to (by (try simp only [cJ,wk,aB,aK,ae,ak,ay,bb,an,au] at*);first|(simp [wk,aB,aK,ae,ak,ay,bb,an,au, *];done)|(simp [wk,aB,aK,ae,ak,ay,bb,an,au, *];omega)|(rw [Vn];simp [wk,aB,aK,ae,ak,ay,bb,an,au, *];done)|(rw [Vn];simp [wk,aB,aK,ae,ak,ay,bb,an,au, *];omega)|(rw [Vn];simp [wk,aB,aK,ae,ak,ay,bb,an,au, *];grind)|(subst_vars;rw [Vn];simp;grind))
theorem oI (n:Int):aZ Tryz.prog 103 ([.int .i8 n]) (.bool (bb n)):=by
 rcases de (decide (n<2)) with h0|h0
 ·exact (FR (d:= .bool false) [tC (eT (bk 2 h0)),tC (eT (bk 2 h0)),tC (bk 2 h0),tT,tT,tT,tC (eT (bk 12 (K2 12 h0))),tC (eT (bk 12 (K2 12 h0))),tT,tC (bk 12 (K2 12 h0)),tF] (by kernel_rfl)).to (by (try simp only [cJ,wk,aB,aK,ae,ak,ay,bb,an,au] at*);first|(simp [wk,aB,aK,ae,ak,ay,bb,an,au, *];done)|(simp [wk,aB,aK,ae,ak,ay,bb,an,au, *];omega)|(rw [Vn];simp [wk,aB,aK,ae,ak,ay,bb,an,au, *];done)|(rw [Vn];simp [wk,aB,aK,ae,ak,ay,bb,an,au, *];omega)|(rw [Vn];simp [wk,aB,aK,ae,ak,ay,bb,an,au, *];grind)|(subst_vars;rw [Vn];simp;grind))
 let E1:EL:= [tC (eT (bk 2 h0)),tC (eT (bk 2 h0)),tC (bk 2 h0)]
 rcases de (decide (n<8)) with h1|h1
 ·exact (FR (d:= .bool true) (E1++Vc 4 (tC (eF (cY 7 h1)))++ [tC (cY 7 h1)]) (by kernel_rfl)).to (by clear E1;(try simp only [cJ,wk,aB,aK,ae,ak,ay,bb,an,au] at*);first|(simp [wk,aB,aK,ae,ak,ay,bb,an,au, *];done)|(simp [wk,aB,aK,ae,ak,ay,bb,an,au, *];omega)|(rw [Vn];simp [wk,aB,aK,ae,ak,ay,bb,an,au, *];done)|(rw [Vn];simp [wk,aB,aK,ae,ak,ay,bb,an,au, *];omega)|(rw [Vn];simp [wk,aB,aK,ae,ak,ay,bb,an,au, *];grind)|(subst_vars;rw [Vn];simp;grind))
 rcases de (decide (n<12)) with h2|h2
 ·exact (FR (d:= .bool false) (E1++Vc 3 (tC (eF (cY 7 h1)))++ [tC (eT (bk 12 h2)),tC (eT (bk 12 h2)),tC (eF (cY 7 h1)),tC (bk 12 h2),tC (cY 7 h1)]) (by kernel_rfl)).to (by clear E1;(try simp only [cJ,wk,aB,aK,ae,ak,ay,bb,an,au] at*);first|(simp [wk,aB,aK,ae,ak,ay,bb,an,au, *];done)|(simp [wk,aB,aK,ae,ak,ay,bb,an,au, *];omega)|(rw [Vn];simp [wk,aB,aK,ae,ak,ay,bb,an,au, *];done)|(rw [Vn];simp [wk,aB,aK,ae,ak,ay,bb,an,au, *];omega)|(rw [Vn];simp [wk,aB,aK,ae,ak,ay,bb,an,au, *];grind)|(subst_vars;rw [Vn];simp;grind))
 exact (FR (d:= .bool (decide (n≤15))) (E1++Vc 3 (tC (eF (cY 7 h1)))++ [tC (eT (bk 12 h2)),tC (eT (bk 12 h2)),tC (eF (cY 7 h1)),tC (bk 12 h2),tC (cY 7 h1)]) (by kernel_rfl)).to (by clear E1;(try simp only [cJ,wk,aB,aK,ae,ak,ay,bb,an,au] at*);first|(simp [wk,aB,aK,ae,ak,ay,bb,an,au, *];done)|(simp [wk,aB,aK,ae,ak,ay,bb,an,au, *];omega)|(rw [Vn];simp [wk,aB,aK,ae,ak,ay,bb,an,au, *];done)|(rw [Vn];simp [wk,aB,aK,ae,ak,ay,bb,an,au, *];omega)|(rw [Vn];simp [wk,aB,aK,ae,ak,ay,bb,an,au, *];grind)|(subst_vars;rw [Vn];simp;grind))
theorem br (n a b:Int):aZ Tryz.prog 102 ([.int .i64 n,.int .i64 a,.int .i64 b]) (.bool (decide (a≤n)&&decide (n≤b))):=by
 rcases de (decide (n≥a)) with h0|h0
 ·exact (Jg (d:= .bool (decide (n≤b))) [tC (eT h0),tC (eT h0),tC (eT h0),tC h0] (by kernel_rfl)).to (by (try simp only [cJ,wk,aB,aK,ae,ak,ay,bb,an,au] at*);(simp [wk,aB,aK,ae,ak,ay,bb,an,au, *];done))
 exact (Jg (d:= .bool false) [tC (eT h0),tC (eT h0),tC (eT h0),tC h0] (by kernel_rfl)).to (by (try simp only [cJ,wk,aB,aK,ae,ak,ay,bb,an,au] at*);(simp [wk,aB,aK,ae,ak,ay,bb,an,au, *];done))
theorem je (n:Int):aZ Tryz.prog 104 ([.int .i8 n]) (.bool (an n)):=by
 by_cases h0:n=8
 ·subst h0
  exact (Dr (d:= .bool true) [tT,tT] (by kernel_rfl)).to (by (try simp only [cJ,wk,aB,aK,ae,ak,ay,bb,an,au] at*);(simp [wk,aB,aK,ae,ak,ay,bb,an,au, *];done))
 by_cases h1:n=16
 ·subst h1
  exact (Dr (d:= .bool true) [tC (aL h0),tT,tT] (by kernel_rfl)).to (by (try simp only [cJ,wk,aB,aK,ae,ak,ay,bb,an,au] at*);(simp [wk,aB,aK,ae,ak,ay,bb,an,au, *];done))
 by_cases h2:n=32
 ·subst h2
  exact (Dr (d:= .bool true) [tC (aL h0),tC (aL h1),tT,tT] (by kernel_rfl)).to (by (try simp only [cJ,wk,aB,aK,ae,ak,ay,bb,an,au] at*);(simp [wk,aB,aK,ae,ak,ay,bb,an,au, *];done))
 by_cases h3:n=64
 ·subst h3
  exact (Dr (d:= .bool true) [tC (aL h0),tC (aL h1),tC (aL h2),tT] (by kernel_rfl)).to (by (try simp only [cJ,wk,aB,aK,ae,ak,ay,bb,an,au] at*);(simp [wk,aB,aK,ae,ak,ay,bb,an,au, *];done))
 exact (Dr (d:= .bool false) [tC (aL h0),tC (aL h1),tC (aL h2),tC (aL h3)] (by kernel_rfl)).to (by (try simp only [cJ,wk,aB,aK,ae,ak,ay,bb,an,au] at*);(simp [wk,aB,aK,ae,ak,ay,bb,an,au, *];done))
theorem yY (op w dst src base aa ai cc:Int):aZ Tryz.prog 100 ([xD op w dst src base aa ai cc,.int .i8 1]) (xD 0 0 0 0 base aa ai cc):=by
 let E1:EL:= [tT,tT,tT,tT,tF,tF,.flat _ _ dP]
 by_cases h0:base=0
 ·subst h0
  by_cases h1:aa=0
  ·subst h1
   by_cases h2:ai=0
   ·subst h2
    by_cases h3:cc=0
    ·subst h3
     exact (dv (d:=(xD 0 0 0 0 0 0 0 0)) (E1++ [tF]) (by kernel_rfl)).to (by (simp [wk,aB,];done))
    exact (dv (d:=(xD 0 0 0 0 0 0 0 cc)) (E1++ [tC (nt (aD rfl (aD rfl (aD rfl (aD rfl (aD rfl (aD rfl (aD rfl (bj (y:=true) (aL h3))))))))))]) (by kernel_rfl)).to (by (simp [wk,aB,h3];done))
   exact (dv (d:=(xD 0 0 0 0 0 0 ai cc)) (E1++ [tC (nt (aD rfl (aD rfl (aD rfl (aD rfl (aD rfl (aD rfl (bj (y:=ae [.int .i8 cc] [.int .i8 0]) (aL h2)))))))))]) (by kernel_rfl)).to (by (simp [wk,aB,h2];done))
  exact (dv (d:=(xD 0 0 0 0 0 aa ai cc)) (E1++ [tC (nt (aD rfl (aD rfl (aD rfl (aD rfl (aD rfl (bj (y:=ae [.int .i64 ai,.int .i8 cc] [.int .i64 0,.int .i8 0]) (aL h1))))))))]) (by kernel_rfl)).to (by (simp [wk,aB,h1];done))
 exact (dv (d:=(xD 0 0 0 0 base aa ai cc)) (E1++ [tC (nt (aD rfl (aD rfl (aD rfl (aD rfl (bj (y:=ae [.int .i64 aa,.int .i64 ai,.int .i8 cc] [.int .i64 0,.int .i64 0,.int .i8 0]) (aL h0)))))))]) (by kernel_rfl)).to (by (simp [wk,aB,h0];done))
theorem yX (op w dst src base aa ai cc:Int):aZ Tryz.prog 100 ([xD op w dst src base aa ai cc,.int .i8 2]) (xD 0 0 0 0 base aa ai cc):=by
 let E1:EL:= [tF,tT,tT,tT,tT,tF,tF,.flat _ _ dP]
 by_cases h0:base=0
 ·subst h0
  by_cases h1:aa=0
  ·subst h1
   by_cases h2:ai=0
   ·subst h2
    by_cases h3:cc=0
    ·subst h3
     exact (dv (d:=(xD 0 0 0 0 0 0 0 0)) (E1++ [tF]) (by kernel_rfl)).to (by (simp [wk,aB,];done))
    exact (dv (d:=(xD 0 0 0 0 0 0 0 cc)) (E1++ [tC (nt (aD rfl (aD rfl (aD rfl (aD rfl (aD rfl (aD rfl (aD rfl (bj (y:=true) (aL h3))))))))))]) (by kernel_rfl)).to (by (simp [wk,aB,h3];done))
   exact (dv (d:=(xD 0 0 0 0 0 0 ai cc)) (E1++ [tC (nt (aD rfl (aD rfl (aD rfl (aD rfl (aD rfl (aD rfl (bj (y:=ae [.int .i8 cc] [.int .i8 0]) (aL h2)))))))))]) (by kernel_rfl)).to (by (simp [wk,aB,h2];done))
  exact (dv (d:=(xD 0 0 0 0 0 aa ai cc)) (E1++ [tC (nt (aD rfl (aD rfl (aD rfl (aD rfl (aD rfl (bj (y:=ae [.int .i64 ai,.int .i8 cc] [.int .i64 0,.int .i8 0]) (aL h1))))))))]) (by kernel_rfl)).to (by (simp [wk,aB,h1];done))
 exact (dv (d:=(xD 0 0 0 0 base aa ai cc)) (E1++ [tC (nt (aD rfl (aD rfl (aD rfl (aD rfl (bj (y:=ae [.int .i64 aa,.int .i64 ai,.int .i8 cc] [.int .i64 0,.int .i64 0,.int .i8 0]) (aL h0)))))))]) (by kernel_rfl)).to (by (simp [wk,aB,h0];done))
theorem yW (op w dst src base aa ai cc:Int):aZ Tryz.prog 100 ([xD op w dst src base aa ai cc,.int .i8 3]) (xD 0 0 0 src base aa 0 cc):=by
 let E1:EL:= [tF,tF,tF,tT,tT,tT,tT,tF,tF,.flat _ _ dP]
 by_cases h0:src=0
 ·subst h0
  by_cases h1:base=0
  ·subst h1
   by_cases h2:aa=0
   ·subst h2
    by_cases h3:cc=0
    ·subst h3
     exact (dv (d:=(xD 0 0 0 0 0 0 0 0)) (E1++ [tF]) (by kernel_rfl)).to (by (simp [wk,aB,];done))
    exact (dv (d:=(xD 0 0 0 0 0 0 0 cc)) (E1++ [tC (nt (aD rfl (aD rfl (aD rfl (aD rfl (aD rfl (aD rfl (aD rfl (bj (y:=true) (aL h3))))))))))]) (by kernel_rfl)).to (by (simp [wk,aB,h3];done))
   exact (dv (d:=(xD 0 0 0 0 0 aa 0 cc)) (E1++ [tC (nt (aD rfl (aD rfl (aD rfl (aD rfl (aD rfl (bj (y:=ae [.int .i64 0,.int .i8 cc] [.int .i64 0,.int .i8 0]) (aL h2))))))))]) (by kernel_rfl)).to (by (simp [wk,aB,h2];done))
  exact (dv (d:=(xD 0 0 0 0 base aa 0 cc)) (E1++ [tC (nt (aD rfl (aD rfl (aD rfl (aD rfl (bj (y:=ae [.int .i64 aa,.int .i64 0,.int .i8 cc] [.int .i64 0,.int .i64 0,.int .i8 0]) (aL h1)))))))]) (by kernel_rfl)).to (by (simp [wk,aB,h1];done))
 exact (dv (d:=(xD 0 0 0 src base aa 0 cc)) (E1++ [tC (nt (aD rfl (aD rfl (aD rfl (bj (y:=ae [.int .i8 base,.int .i64 aa,.int .i64 0,.int .i8 cc] [.int .i8 0,.int .i64 0,.int .i64 0,.int .i8 0]) (aL h0))))))]) (by kernel_rfl)).to (by (simp [wk,aB,h0];done))
theorem yV (op w dst src base aa ai cc:Int):aZ Tryz.prog 100 ([xD op w dst src base aa ai cc,.int .i8 4]) (xD 0 0 0 src base aa 0 cc):=by
 let E1:EL:= [tF,tF,tF,tF,tT,tT,tT,tF,tF,.flat _ _ dP]
 by_cases h0:src=0
 ·subst h0
  by_cases h1:base=0
  ·subst h1
   by_cases h2:aa=0
   ·subst h2
    by_cases h3:cc=0
    ·subst h3
     exact (dv (d:=(xD 0 0 0 0 0 0 0 0)) (E1++ [tF]) (by kernel_rfl)).to (by (simp [wk,aB,];done))
    exact (dv (d:=(xD 0 0 0 0 0 0 0 cc)) (E1++ [tC (nt (aD rfl (aD rfl (aD rfl (aD rfl (aD rfl (aD rfl (aD rfl (bj (y:=true) (aL h3))))))))))]) (by kernel_rfl)).to (by (simp [wk,aB,h3];done))
   exact (dv (d:=(xD 0 0 0 0 0 aa 0 cc)) (E1++ [tC (nt (aD rfl (aD rfl (aD rfl (aD rfl (aD rfl (bj (y:=ae [.int .i64 0,.int .i8 cc] [.int .i64 0,.int .i8 0]) (aL h2))))))))]) (by kernel_rfl)).to (by (simp [wk,aB,h2];done))
  exact (dv (d:=(xD 0 0 0 0 base aa 0 cc)) (E1++ [tC (nt (aD rfl (aD rfl (aD rfl (aD rfl (bj (y:=ae [.int .i64 aa,.int .i64 0,.int .i8 cc] [.int .i64 0,.int .i64 0,.int .i8 0]) (aL h1)))))))]) (by kernel_rfl)).to (by (simp [wk,aB,h1];done))
 exact (dv (d:=(xD 0 0 0 src base aa 0 cc)) (E1++ [tC (nt (aD rfl (aD rfl (aD rfl (bj (y:=ae [.int .i8 base,.int .i64 aa,.int .i64 0,.int .i8 cc] [.int .i8 0,.int .i64 0,.int .i64 0,.int .i8 0]) (aL h0))))))]) (by kernel_rfl)).to (by (simp [wk,aB,h0];done))
theorem yU (op w dst src base aa ai cc:Int):aZ Tryz.prog 100 ([xD op w dst src base aa ai cc,.int .i8 5]) (xD 0 0 0 src base aa ai cc):=by
 let E1:EL:= [tF,tF,tF,tF,tF,tT,tT,tT,tF,tF,.flat _ _ dP]
 by_cases h0:src=0
 ·subst h0
  by_cases h1:base=0
  ·subst h1
   by_cases h2:aa=0
   ·subst h2
    by_cases h3:ai=0
    ·subst h3
     by_cases h4:cc=0
     ·subst h4
      exact (dv (d:=(xD 0 0 0 0 0 0 0 0)) (E1++ [tF]) (by kernel_rfl)).to (by (simp [wk,aB,];done))
     exact (dv (d:=(xD 0 0 0 0 0 0 0 cc)) (E1++ [tC (nt (aD rfl (aD rfl (aD rfl (aD rfl (aD rfl (aD rfl (aD rfl (bj (y:=true) (aL h4))))))))))]) (by kernel_rfl)).to (by (simp [wk,aB,h4];done))
    exact (dv (d:=(xD 0 0 0 0 0 0 ai cc)) (E1++ [tC (nt (aD rfl (aD rfl (aD rfl (aD rfl (aD rfl (aD rfl (bj (y:=ae [.int .i8 cc] [.int .i8 0]) (aL h3)))))))))]) (by kernel_rfl)).to (by (simp [wk,aB,h3];done))
   exact (dv (d:=(xD 0 0 0 0 0 aa ai cc)) (E1++ [tC (nt (aD rfl (aD rfl (aD rfl (aD rfl (aD rfl (bj (y:=ae [.int .i64 ai,.int .i8 cc] [.int .i64 0,.int .i8 0]) (aL h2))))))))]) (by kernel_rfl)).to (by (simp [wk,aB,h2];done))
  exact (dv (d:=(xD 0 0 0 0 base aa ai cc)) (E1++ [tC (nt (aD rfl (aD rfl (aD rfl (aD rfl (bj (y:=ae [.int .i64 aa,.int .i64 ai,.int .i8 cc] [.int .i64 0,.int .i64 0,.int .i8 0]) (aL h1)))))))]) (by kernel_rfl)).to (by (simp [wk,aB,h1];done))
 exact (dv (d:=(xD 0 0 0 src base aa ai cc)) (E1++ [tC (nt (aD rfl (aD rfl (aD rfl (bj (y:=ae [.int .i8 base,.int .i64 aa,.int .i64 ai,.int .i8 cc] [.int .i8 0,.int .i64 0,.int .i64 0,.int .i8 0]) (aL h0))))))]) (by kernel_rfl)).to (by (simp [wk,aB,h0];done))
theorem yT (op w dst src base aa ai cc:Int):aZ Tryz.prog 100 ([xD op w dst src base aa ai cc,.int .i8 6]) (xD 0 0 0 0 base aa ai 0):=by
 let E1:EL:= [tF,tF,tT,tF,tF,tT,tT,.flat _ _ dP]
 by_cases h0:base=0
 ·subst h0
  by_cases h1:aa=0
  ·subst h1
   by_cases h2:ai=0
   ·subst h2
    exact (dv (d:=(xD 0 0 0 0 0 0 0 0)) (E1++ [tF]) (by kernel_rfl)).to (by (simp [wk,aB,];done))
   exact (dv (d:=(xD 0 0 0 0 0 0 ai 0)) (E1++ [tC (nt (aD rfl (aD rfl (aD rfl (aD rfl (aD rfl (aD rfl (bj (y:=true) (aL h2)))))))))]) (by kernel_rfl)).to (by (simp [wk,aB,h2];done))
  exact (dv (d:=(xD 0 0 0 0 0 aa ai 0)) (E1++ [tC (nt (aD rfl (aD rfl (aD rfl (aD rfl (aD rfl (bj (y:=ae [.int .i64 ai,.int .i8 0] [.int .i64 0,.int .i8 0]) (aL h1))))))))]) (by kernel_rfl)).to (by (simp [wk,aB,h1];done))
 exact (dv (d:=(xD 0 0 0 0 base aa ai 0)) (E1++ [tC (nt (aD rfl (aD rfl (aD rfl (aD rfl (bj (y:=ae [.int .i64 aa,.int .i64 ai,.int .i8 0] [.int .i64 0,.int .i64 0,.int .i8 0]) (aL h0)))))))]) (by kernel_rfl)).to (by (simp [wk,aB,h0];done))
theorem yR (op w dst src base aa ai cc:Int):aZ Tryz.prog 100 ([xD op w dst src base aa ai cc,.int .i8 7]) (xD 0 0 0 src 0 0 ai cc):=by
 let E1:EL:= [tF,tF,tF,tF,tF,tF,tT,tT,tT,tF,tF,.flat _ _ dP]
 by_cases h0:src=0
 ·subst h0
  by_cases h1:ai=0
  ·subst h1
   by_cases h2:cc=0
   ·subst h2
    exact (dv (d:=(xD 0 0 0 0 0 0 0 0)) (E1++ [tF]) (by kernel_rfl)).to (by (simp [wk,aB,];done))
   exact (dv (d:=(xD 0 0 0 0 0 0 0 cc)) (E1++ [tC (nt (aD rfl (aD rfl (aD rfl (aD rfl (aD rfl (aD rfl (aD rfl (bj (y:=true) (aL h2))))))))))]) (by kernel_rfl)).to (by (simp [wk,aB,h2];done))
  exact (dv (d:=(xD 0 0 0 0 0 0 ai cc)) (E1++ [tC (nt (aD rfl (aD rfl (aD rfl (aD rfl (aD rfl (aD rfl (bj (y:=ae [.int .i8 cc] [.int .i8 0]) (aL h1)))))))))]) (by kernel_rfl)).to (by (simp [wk,aB,h1];done))
 exact (dv (d:=(xD 0 0 0 src 0 0 ai cc)) (E1++ [tC (nt (aD rfl (aD rfl (aD rfl (bj (y:=ae [.int .i8 0,.int .i64 0,.int .i64 ai,.int .i8 cc] [.int .i8 0,.int .i64 0,.int .i64 0,.int .i8 0]) (aL h0))))))]) (by kernel_rfl)).to (by (simp [wk,aB,h0];done))
theorem yQ (op w dst src base aa ai cc:Int):aZ Tryz.prog 100 ([xD op w dst src base aa ai cc,.int .i8 8]) (xD 0 0 dst 0 0 0 ai cc):=by
 let E1:EL:= [tF,tF,tF,tF,tF,tF,tF,tT,tT,tT,tF,tF,.flat _ _ dP]
 by_cases h0:dst=0
 ·subst h0
  by_cases h1:ai=0
  ·subst h1
   by_cases h2:cc=0
   ·subst h2
    exact (dv (d:=(xD 0 0 0 0 0 0 0 0)) (E1++ [tF]) (by kernel_rfl)).to (by (simp [wk,aB,];done))
   exact (dv (d:=(xD 0 0 0 0 0 0 0 cc)) (E1++ [tC (nt (aD rfl (aD rfl (aD rfl (aD rfl (aD rfl (aD rfl (aD rfl (bj (y:=true) (aL h2))))))))))]) (by kernel_rfl)).to (by (simp [wk,aB,h2];done))
  exact (dv (d:=(xD 0 0 0 0 0 0 ai cc)) (E1++ [tC (nt (aD rfl (aD rfl (aD rfl (aD rfl (aD rfl (aD rfl (bj (y:=ae [.int .i8 cc] [.int .i8 0]) (aL h1)))))))))]) (by kernel_rfl)).to (by (simp [wk,aB,h1];done))
 exact (dv (d:=(xD 0 0 dst 0 0 0 ai cc)) (E1++ [tC (nt (aD rfl (aD rfl (bj (y:=ae [.int .i8 0,.int .i8 0,.int .i64 0,.int .i64 ai,.int .i8 cc] [.int .i8 0,.int .i8 0,.int .i64 0,.int .i64 0,.int .i8 0]) (aL h0)))))]) (by kernel_rfl)).to (by (simp [wk,aB,h0];done))
theorem yP (op w dst src base aa ai cc:Int):aZ Tryz.prog 100 ([xD op w dst src base aa ai cc,.int .i8 9]) (xD 0 0 dst src base aa 0 cc):=by
 let E1:EL:=(Vc 8 tF++ [tT,tT,tT,tT,tF,tF,.flat _ _ dP])
 by_cases h0:dst=0
 ·subst h0
  by_cases h1:src=0
  ·subst h1
   by_cases h2:base=0
   ·subst h2
    by_cases h3:aa=0
    ·subst h3
     by_cases h4:cc=0
     ·subst h4
      exact (dv (d:=(xD 0 0 0 0 0 0 0 0)) (E1++ [tF]) (by kernel_rfl)).to (by (simp [wk,aB,];done))
     exact (dv (d:=(xD 0 0 0 0 0 0 0 cc)) (E1++ [tC (nt (aD rfl (aD rfl (aD rfl (aD rfl (aD rfl (aD rfl (aD rfl (bj (y:=true) (aL h4))))))))))]) (by kernel_rfl)).to (by (simp [wk,aB,h4];done))
    exact (dv (d:=(xD 0 0 0 0 0 aa 0 cc)) (E1++ [tC (nt (aD rfl (aD rfl (aD rfl (aD rfl (aD rfl (bj (y:=ae [.int .i64 0,.int .i8 cc] [.int .i64 0,.int .i8 0]) (aL h3))))))))]) (by kernel_rfl)).to (by (simp [wk,aB,h3];done))
   exact (dv (d:=(xD 0 0 0 0 base aa 0 cc)) (E1++ [tC (nt (aD rfl (aD rfl (aD rfl (aD rfl (bj (y:=ae [.int .i64 aa,.int .i64 0,.int .i8 cc] [.int .i64 0,.int .i64 0,.int .i8 0]) (aL h2)))))))]) (by kernel_rfl)).to (by (simp [wk,aB,h2];done))
  exact (dv (d:=(xD 0 0 0 src base aa 0 cc)) (E1++ [tC (nt (aD rfl (aD rfl (aD rfl (bj (y:=ae [.int .i8 base,.int .i64 aa,.int .i64 0,.int .i8 cc] [.int .i8 0,.int .i64 0,.int .i64 0,.int .i8 0]) (aL h1))))))]) (by kernel_rfl)).to (by (simp [wk,aB,h1];done))
 exact (dv (d:=(xD 0 0 dst src base aa 0 cc)) (E1++ [tC (nt (aD rfl (aD rfl (bj (y:=ae [.int .i8 src,.int .i8 base,.int .i64 aa,.int .i64 0,.int .i8 cc] [.int .i8 0,.int .i8 0,.int .i64 0,.int .i64 0,.int .i8 0]) (aL h0)))))]) (by kernel_rfl)).to (by (simp [wk,aB,h0];done))
theorem wI (op w dst src base aa ai cc:Int):aZ Tryz.prog 100 ([xD op w dst src base aa ai cc,.int .i8 10]) (xD 0 0 dst src base aa 0 0):=by
 let E1:EL:=(Vc 9 tF++ [tT,tT,tT,tF,tT,.flat _ _ dP])
 by_cases h0:dst=0
 ·subst h0
  by_cases h1:src=0
  ·subst h1
   by_cases h2:base=0
   ·subst h2
    by_cases h3:aa=0
    ·subst h3
     exact (dv (d:=(xD 0 0 0 0 0 0 0 0)) (E1++ [tF]) (by kernel_rfl)).to (by (simp [wk,aB,];done))
    exact (dv (d:=(xD 0 0 0 0 0 aa 0 0)) (E1++ [tC (nt (aD rfl (aD rfl (aD rfl (aD rfl (aD rfl (bj (y:=true) (aL h3))))))))]) (by kernel_rfl)).to (by (simp [wk,aB,h3];done))
   exact (dv (d:=(xD 0 0 0 0 base aa 0 0)) (E1++ [tC (nt (aD rfl (aD rfl (aD rfl (aD rfl (bj (y:=ae [.int .i64 aa,.int .i64 0,.int .i8 0] [.int .i64 0,.int .i64 0,.int .i8 0]) (aL h2)))))))]) (by kernel_rfl)).to (by (simp [wk,aB,h2];done))
  exact (dv (d:=(xD 0 0 0 src base aa 0 0)) (E1++ [tC (nt (aD rfl (aD rfl (aD rfl (bj (y:=ae [.int .i8 base,.int .i64 aa,.int .i64 0,.int .i8 0] [.int .i8 0,.int .i64 0,.int .i64 0,.int .i8 0]) (aL h1))))))]) (by kernel_rfl)).to (by (simp [wk,aB,h1];done))
 exact (dv (d:=(xD 0 0 dst src base aa 0 0)) (E1++ [tC (nt (aD rfl (aD rfl (bj (y:=ae [.int .i8 src,.int .i8 base,.int .i64 aa,.int .i64 0,.int .i8 0] [.int .i8 0,.int .i8 0,.int .i64 0,.int .i64 0,.int .i8 0]) (aL h0)))))]) (by kernel_rfl)).to (by (simp [wk,aB,h0];done))
theorem wH (op w dst src base aa ai cc:Int):aZ Tryz.prog 100 ([xD op w dst src base aa ai cc,.int .i8 11]) (xD 0 w dst src base aa ai cc):=by
 let E1:EL:=(Vc 10 tF++ [tT,tT,tF,tF,.flat _ _ dP])
 by_cases h0:w=0
 ·subst h0
  by_cases h1:dst=0
  ·subst h1
   by_cases h2:src=0
   ·subst h2
    by_cases h3:base=0
    ·subst h3
     by_cases h4:aa=0
     ·subst h4
      by_cases h5:ai=0
      ·subst h5
       by_cases h6:cc=0
       ·subst h6
        exact (dv (d:=(xD 0 0 0 0 0 0 0 0)) (E1++ [tF]) (by kernel_rfl)).to (by (simp [wk,aB,];done))
       exact (dv (d:=(xD 0 0 0 0 0 0 0 cc)) (E1++ [tC (nt (aD rfl (aD rfl (aD rfl (aD rfl (aD rfl (aD rfl (aD rfl (bj (y:=true) (aL h6))))))))))]) (by kernel_rfl)).to (by (simp [wk,aB,h6];done))
      exact (dv (d:=(xD 0 0 0 0 0 0 ai cc)) (E1++ [tC (nt (aD rfl (aD rfl (aD rfl (aD rfl (aD rfl (aD rfl (bj (y:=ae [.int .i8 cc] [.int .i8 0]) (aL h5)))))))))]) (by kernel_rfl)).to (by (simp [wk,aB,h5];done))
     exact (dv (d:=(xD 0 0 0 0 0 aa ai cc)) (E1++ [tC (nt (aD rfl (aD rfl (aD rfl (aD rfl (aD rfl (bj (y:=ae [.int .i64 ai,.int .i8 cc] [.int .i64 0,.int .i8 0]) (aL h4))))))))]) (by kernel_rfl)).to (by (simp [wk,aB,h4];done))
    exact (dv (d:=(xD 0 0 0 0 base aa ai cc)) (E1++ [tC (nt (aD rfl (aD rfl (aD rfl (aD rfl (bj (y:=ae [.int .i64 aa,.int .i64 ai,.int .i8 cc] [.int .i64 0,.int .i64 0,.int .i8 0]) (aL h3)))))))]) (by kernel_rfl)).to (by (simp [wk,aB,h3];done))
   exact (dv (d:=(xD 0 0 0 src base aa ai cc)) (E1++ [tC (nt (aD rfl (aD rfl (aD rfl (bj (y:=ae [.int .i8 base,.int .i64 aa,.int .i64 ai,.int .i8 cc] [.int .i8 0,.int .i64 0,.int .i64 0,.int .i8 0]) (aL h2))))))]) (by kernel_rfl)).to (by (simp [wk,aB,h2];done))
  exact (dv (d:=(xD 0 0 dst src base aa ai cc)) (E1++ [tC (nt (aD rfl (aD rfl (bj (y:=ae [.int .i8 src,.int .i8 base,.int .i64 aa,.int .i64 ai,.int .i8 cc] [.int .i8 0,.int .i8 0,.int .i64 0,.int .i64 0,.int .i8 0]) (aL h1)))))]) (by kernel_rfl)).to (by (simp [wk,aB,h1];done))
 exact (dv (d:=(xD 0 w dst src base aa ai cc)) (E1++ [tC (nt (aD rfl (bj (y:=ae [.int .i8 dst,.int .i8 src,.int .i8 base,.int .i64 aa,.int .i64 ai,.int .i8 cc] [.int .i8 0,.int .i8 0,.int .i8 0,.int .i64 0,.int .i64 0,.int .i8 0]) (aL h0))))]) (by kernel_rfl)).to (by (simp [wk,aB,h0];done))
theorem lG {op:Int} (h:op<0∨32≤op):aR op=0∧cr op=0∧dV op=0:=by
 refine ⟨?_,?_,?_⟩
 ·unfold aR;repeat (rw [if_neg (by omega)])
 ·unfold cr;repeat (rw [if_neg (by omega)])
 ·unfold dV;repeat (rw [if_neg (by omega)])
theorem aN (op:Int) (ho:op≤127):aZ Tryz.prog 99 [.int .i8 op] (.aM [.agg [.int .i8 (aR op),.int .u8 (cr op),.int .i8 (dV op)],.bool (decide (0≤op∧op≤31))]):=by
 by_cases h1:op<0
 ·obtain ⟨e1,e2,e3⟩:=lG (.inl h1)
  rw [e1,e2,e3,decide_eq_false (by omega)]
  exact AU op h1
 ·by_cases h2:32≤op
  ·obtain ⟨e1,e2,e3⟩:=lG (.inr h2)
   rw [e1,e2,e3,decide_eq_false (by omega)]
   exact xE op h2 ho
  ·rcases (by omega:op=0∨op=1∨op=2∨op=3∨op=4∨op=5∨op=6∨op=7∨op=8∨op=9∨op=10∨op=11∨op=12∨op=13∨op=14∨op=15∨op=16∨op=17∨op=18∨op=19∨op=20∨op=21∨op=22∨op=23∨op=24∨op=25∨op=26∨op=27∨op=28∨op=29∨op=30∨op=31) with rfl|rfl|rfl|rfl|rfl|rfl|rfl|rfl|rfl|rfl|rfl|rfl|rfl|rfl|rfl|rfl|rfl|rfl|rfl|rfl|rfl|rfl|rfl|rfl|rfl|rfl|rfl|rfl|rfl|rfl|rfl|rfl
   ·exact FN
   ·exact FM
   ·exact FL
   ·exact FK
   ·exact FJ
   ·exact FI
   ·exact FH
   ·exact FG
   ·exact FF
   ·exact FE
   ·exact Dp
   ·exact Dn
   ·exact Dm
   ·exact Dl
   ·exact Dk
   ·exact Dj
   ·exact Di
   ·exact Dh
   ·exact Dg
   ·exact Df
   ·exact De
   ·exact Dd
   ·exact Dc
   ·exact Db
   ·exact Da
   ·exact C9
   ·exact C8
   ·exact C7
   ·exact C6
   ·exact C5
   ·exact C4
   ·exact C3
theorem Cq (op w dst src base aa ai cc sh:Int) (h:(sh==1)=true):aZ Tryz.prog 100 [xD op w dst src base aa ai cc,.int .i8 sh] (xD 0 0 0 0 base aa ai cc):=by
 obtain rfl:=eq_of_beq h
 exact yY op w dst src base aa ai cc
theorem Cp (op w dst src base aa ai cc sh:Int) (h:(sh==2)=true):aZ Tryz.prog 100 [xD op w dst src base aa ai cc,.int .i8 sh] (xD 0 0 0 0 base aa ai cc):=by
 obtain rfl:=eq_of_beq h
 exact yX op w dst src base aa ai cc
theorem Co (op w dst src base aa ai cc sh:Int) (h:(sh==3)=true):aZ Tryz.prog 100 [xD op w dst src base aa ai cc,.int .i8 sh] (xD 0 0 0 src base aa 0 cc):=by
 obtain rfl:=eq_of_beq h
 exact yW op w dst src base aa ai cc
theorem Cn (op w dst src base aa ai cc sh:Int) (h:(sh==4)=true):aZ Tryz.prog 100 [xD op w dst src base aa ai cc,.int .i8 sh] (xD 0 0 0 src base aa 0 cc):=by
 obtain rfl:=eq_of_beq h
 exact yV op w dst src base aa ai cc
theorem Cm (op w dst src base aa ai cc sh:Int) (h:(sh==5)=true):aZ Tryz.prog 100 [xD op w dst src base aa ai cc,.int .i8 sh] (xD 0 0 0 src base aa ai cc):=by
 obtain rfl:=eq_of_beq h
 exact yU op w dst src base aa ai cc
theorem Cl (op w dst src base aa ai cc sh:Int) (h:(sh==6)=true):aZ Tryz.prog 100 [xD op w dst src base aa ai cc,.int .i8 sh] (xD 0 0 0 0 base aa ai 0):=by
 obtain rfl:=eq_of_beq h
 exact yT op w dst src base aa ai cc
theorem Ck (op w dst src base aa ai cc sh:Int) (h:(sh==7)=true):aZ Tryz.prog 100 [xD op w dst src base aa ai cc,.int .i8 sh] (xD 0 0 0 src 0 0 ai cc):=by
 obtain rfl:=eq_of_beq h
 exact yR op w dst src base aa ai cc
theorem Cj (op w dst src base aa ai cc sh:Int) (h:(sh==8)=true):aZ Tryz.prog 100 [xD op w dst src base aa ai cc,.int .i8 sh] (xD 0 0 dst 0 0 0 ai cc):=by
 obtain rfl:=eq_of_beq h
 exact yQ op w dst src base aa ai cc
theorem Ci (op w dst src base aa ai cc sh:Int) (h:(sh==9)=true):aZ Tryz.prog 100 [xD op w dst src base aa ai cc,.int .i8 sh] (xD 0 0 dst src base aa 0 cc):=by
 obtain rfl:=eq_of_beq h
 exact yP op w dst src base aa ai cc
theorem yO (op w dst src base aa ai cc sh:Int) (h:(sh==10)=true):aZ Tryz.prog 100 [xD op w dst src base aa ai cc,.int .i8 sh] (xD 0 0 dst src base aa 0 0):=by
 obtain rfl:=eq_of_beq h
 exact wI op w dst src base aa ai cc
theorem yN (op w dst src base aa ai cc sh:Int) (h:(sh==11)=true):aZ Tryz.prog 100 [xD op w dst src base aa ai cc,.int .i8 sh] (xD 0 w dst src base aa ai cc):=by
 obtain rfl:=eq_of_beq h
 exact wH op w dst src base aa ai cc
theorem Ba (op w dst src base aa ai cc:Int) (ho:op≤127) (h:(aR op==0)=true) (O3:decide (0≤op∧op≤31)=false):aZ Tryz.prog 71 ([xD op w dst src base aa ai cc]) (.bool (aA op w dst src base aa ai cc)):=by
 have c0:= @aN op ho
 rw [show (aR op)=0 from (eq_of_beq h)] at c0
 generalize g2:cr op=r1 at c0
 generalize g4:dV op=r3 at c0
 exact (dh (d:= .bool false) ([.ret _ _ _ c0]++Vc 6 (tC (eF (nt O3)))++ [tC (nt O3),tF,tF,tF,tF,tT,tF,tF,tF,tF,tT,tF,tF,tF,tF,tT,tF,tF,tF,tF,tT,tF,tF,tF,tF,tT,tT]) (by kernel_rfl)).to (by (try simp only [cJ,wk,aB,aK,ae,ak,aA,ay,aG,au,an,ax,bb] at*);(simp [wk,aB,aK,ae,ak,aA,ay,aG,au,an,ax,bb, *];done))
theorem A9 (op w dst src base aa ai cc:Int) (ho:op≤127) (h:(aR op==1)=true) (O3:decide (0≤op∧op≤31)=true):aZ Tryz.prog 71 ([xD op w dst src base aa ai cc]) (.bool (aA op w dst src base aa ai cc)):=by
 have c0:= @aN op ho
 rw [show (aR op)=1 from (eq_of_beq h)] at c0
 generalize g2:cr op=r1 at c0
 generalize g4:dV op=r3 at c0
 have c5:= @Cq op w dst src base aa ai cc 1 (rfl:true=true)
 let E1:EL:=([.ret _ _ _ c0]++Vc 4 (tC (eF (nt O3)))++ [.ret _ _ _ c5,tC (eF (nt O3)),tC (eF (nt O3)),.flat _ _ dP,tC (nt O3)])
 rcases de (ae [.int .i8 0,.int .i8 0,.int .i8 0,.int .i8 0,.int .i8 base,.int .i64 aa,.int .i64 ai,.int .i8 cc] [.int .i8 0,.int .i8 0,.int .i8 0,.int .i8 0,.int .i8 0,.int .i64 0,.int .i64 0,.int .i8 0]) with h6|h6
 ·have c7:= @cU dst
  generalize g9:ay dst=r8 at c7
  let E2:EL:=E1++Vc 3 (tC (eF (nt h6)))++ [.ret _ _ _ c7,tC (eF (nt h6)),tC (nt h6)]
  cases r8
  ·exact (dh (d:= .bool false) (E2++ [tF,tF,tF,tF,tT,tF,tF,tF,tF,tT,tF,tF,tF,tF,tT,tF,tF,tF,tF,tT,tT]) (by kernel_rfl)).to (by clear E1 E2;(try simp only [cJ,wk,aB,aK,ae,ak,aA,ay,aG,au,an,ax,bb] at*);(simp [wk,aB,aK,ae,ak,aA,ay,aG,au,an,ax,bb, *];done))
  have Pg:= @cU src
  generalize g12:ay src=O9 at Pg
  let E3:EL:=E2++ [tT,tT,tT,.ret _ _ _ Pg,tT,tF]
  cases O9
  ·exact (dh (d:= .bool false) (E3++ [tF,tF,tF,tF,tT,tF,tF,tF,tF,tT,tF,tF,tF,tF,tT,tT]) (by kernel_rfl)).to (by clear E1 E2 E3;(try simp only [cJ,wk,aB,aK,ae,ak,aA,ay,aG,au,an,ax,bb] at*);(simp [wk,aB,aK,ae,ak,aA,ay,aG,au,an,ax,bb, *];done))
  have Pr:= @cU base
  generalize g15:ay base=P4 at Pr
  let E4:EL:=E3++ [tT,tT,tT,.ret _ _ _ Pr,tT,tF]
  cases P4
  ·exact (dh (d:= .bool false) (E4++ [tF,tF,tF,tF,tT,tF,tF,tF,tF,tT,tT]) (by kernel_rfl)).to (by clear E1 E2 E3 E4;(try simp only [cJ,wk,aB,aK,ae,ak,aA,ay,aG,au,an,ax,bb] at*);(simp [wk,aB,aK,ae,ak,aA,ay,aG,au,an,ax,bb, *];done))
  have PQ:= @br aa (-2147483648) 2147483647
  let E5:EL:=E4++ [tT,tT,tT,.ret _ _ _ PQ,tT,tF]
  rcases de (decide (aa<(-2147483648))) with h17|h17
  ·exact (dh (d:= .bool false) (E5++Vc 4 (tC (eF (nt (bj (y:=decide (aa≤2147483647)) (bk (-2147483648) h17)))))++ [tC (nt (bj (y:=decide (aa≤2147483647)) (bk (-2147483648) h17))),tT]) (by kernel_rfl)).to (by clear E1 E2 E3 E4 E5;(try simp only [cJ,wk,aB,aK,ae,ak,aA,ay,aG,au,an,ax,bb] at*);(simp [wk,aB,aK,ae,ak,aA,ay,aG,au,an,ax,bb, *];omega))
  rcases de (decide (aa<2147483648)) with h18|h18
  ·have Qc:= @br ai (-2147483648) 2147483647
   let E6:EL:=E5++Vc 3 (tC (eF (nt (aD (bk (-2147483648) h17) (cY 2147483647 h18)))))++ [.ret _ _ _ Qc,tC (eF (nt (aD (bk (-2147483648) h17) (cY 2147483647 h18)))),tC (nt (aD (bk (-2147483648) h17) (cY 2147483647 h18)))]
   rcases de (decide (ai<(-2147483648))) with h20|h20
   ·exact (dh (d:= .bool false) (E6++ [tC (nt (bj (y:=decide (ai≤2147483647)) (bk (-2147483648) h20)))]) (by kernel_rfl)).to (by clear E1 E2 E3 E4 E5 E6;(try simp only [cJ,wk,aB,aK,ae,ak,aA,ay,aG,au,an,ax,bb] at*);(simp [wk,aB,aK,ae,ak,aA,ay,aG,au,an,ax,bb, *];omega))
   rcases de (decide (ai<2147483648)) with h21|h21
   ·let E7:EL:=E6++ [tC (nt (aD (bk (-2147483648) h20) (cY 2147483647 h21)))]
    by_cases h22:w=32
    ·subst h22
     exact (dh (d:= .bool true) (E7++ [tF,tF,tF,tT,tF,tF,tF,tF,tF,tT,tT,tT]) (by kernel_rfl)).to (by clear E1 E2 E3 E4 E5 E6 E7;(try simp only [cJ,wk,aB,aK,ae,ak,aA,ay,aG,au,an,ax,bb] at*);(rw [Vn];simp [wk,aB,aK,ae,ak,aA,ay,aG,au,an,ax,bb, *];grind))
    let E8:EL:=E7++Vc 3 (tC (eF (aL h22)))++ [tC (aL h22)]++Vc 4 (tC (eF (aL h22)))
    by_cases h23:w=8
    ·subst h23
     have QV:= @br ai (-128) 127
     exact (dh (d:= .bool false) (E8++ [tT,tT,tT,.ret _ _ _ QV,tT,tT,tF,tT,tT]) (by kernel_rfl)).to (by clear E1 E2 E3 E4 E5 E6 E7 E8;(try simp only [cJ,wk,aB,aK,ae,ak,aA,ay,aG,au,an,ax,bb] at*);(simp [wk,aB,aK,ae,ak,aA,ay,aG,au,an,ax,bb, *];done))
    exact (dh (d:= .bool (w==64)) (E8++Vc 3 (tC (eT (aL h23)))++ [tC (eF (aL h22)),tC (aL h23),tC (aL h22),tT,tT]) (by kernel_rfl)).to (by clear E1 E2 E3 E4 E5 E6 E7 E8;(try simp only [cJ,wk,aB,aK,ae,ak,aA,ay,aG,au,an,ax,bb] at*);(rw [Vn];simp [wk,aB,aK,ae,ak,aA,ay,aG,au,an,ax,bb, *];grind))
   exact (dh (d:= .bool false) (E6++ [tC (nt (aD (bk (-2147483648) h20) (cY 2147483647 h21)))]) (by kernel_rfl)).to (by clear E1 E2 E3 E4 E5 E6;(try simp only [cJ,wk,aB,aK,ae,ak,aA,ay,aG,au,an,ax,bb] at*);(simp [wk,aB,aK,ae,ak,aA,ay,aG,au,an,ax,bb, *];omega))
  exact (dh (d:= .bool false) (E5++Vc 4 (tC (eF (nt (aD (bk (-2147483648) h17) (cY 2147483647 h18)))))++ [tC (nt (aD (bk (-2147483648) h17) (cY 2147483647 h18))),tT]) (by kernel_rfl)).to (by clear E1 E2 E3 E4 E5;(try simp only [cJ,wk,aB,aK,ae,ak,aA,ay,aG,au,an,ax,bb] at*);(simp [wk,aB,aK,ae,ak,aA,ay,aG,au,an,ax,bb, *];omega))
 exact (dh (d:= .bool false) (E1++Vc 4 (tC (eF (nt h6)))++ [tC (nt h6),tF,tF,tF,tF,tT,tF,tF,tF,tF,tT,tF,tF,tF,tF,tT,tF,tF,tF,tF,tT,tT]) (by kernel_rfl)).to (by clear E1;(try simp only [cJ,wk,aB,aK,ae,ak,aA,ay,aG,au,an,ax,bb] at*);(rw [Vn];simp [wk,aB,aK,ae,ak,aA,ay,aG,au,an,ax,bb, *];grind))
theorem A8 (op w dst src base aa ai cc:Int) (ho:op≤127) (h:(aR op==2)=true) (O3:decide (0≤op∧op≤31)=true):aZ Tryz.prog 71 ([xD op w dst src base aa ai cc]) (.bool (aA op w dst src base aa ai cc)):=by
 have c0:= @aN op ho
 rw [show (aR op)=2 from (eq_of_beq h)] at c0
 generalize g2:cr op=r1 at c0
 generalize g4:dV op=r3 at c0
 have c5:= @Cp op w dst src base aa ai cc 2 (rfl:true=true)
 let E1:EL:=([.ret _ _ _ c0]++Vc 4 (tC (eF (nt O3)))++ [.ret _ _ _ c5,tC (eF (nt O3)),tC (eF (nt O3)),.flat _ _ dP,tC (nt O3)])
 rcases de (ae [.int .i8 0,.int .i8 0,.int .i8 0,.int .i8 0,.int .i8 base,.int .i64 aa,.int .i64 ai,.int .i8 cc] [.int .i8 0,.int .i8 0,.int .i8 0,.int .i8 0,.int .i8 0,.int .i64 0,.int .i64 0,.int .i8 0]) with h6|h6
 ·have c7:= @cU dst
  generalize g9:ay dst=r8 at c7
  let E2:EL:=E1++Vc 3 (tC (eF (nt h6)))++ [.ret _ _ _ c7,tC (eF (nt h6)),tC (nt h6)]
  cases r8
  ·exact (dh (d:= .bool false) (E2++ [tF,tF,tF,tF,tT,tF,tF,tF,tF,tT,tF,tF,tF,tF,tT,tF,tF,tF,tF,tT,tT]) (by kernel_rfl)).to (by clear E1 E2;(try simp only [cJ,wk,aB,aK,ae,ak,aA,ay,aG,au,an,ax,bb] at*);(simp [wk,aB,aK,ae,ak,aA,ay,aG,au,an,ax,bb, *];done))
  have Pg:= @cU src
  generalize g12:ay src=O9 at Pg
  let E3:EL:=E2++ [tT,tT,tT,.ret _ _ _ Pg,tT,tF]
  cases O9
  ·exact (dh (d:= .bool false) (E3++ [tF,tF,tF,tF,tT,tF,tF,tF,tF,tT,tF,tF,tF,tF,tT,tT]) (by kernel_rfl)).to (by clear E1 E2 E3;(try simp only [cJ,wk,aB,aK,ae,ak,aA,ay,aG,au,an,ax,bb] at*);(simp [wk,aB,aK,ae,ak,aA,ay,aG,au,an,ax,bb, *];done))
  have Pr:= @cU base
  generalize g15:ay base=P4 at Pr
  let E4:EL:=E3++ [tT,tT,tT,.ret _ _ _ Pr,tT,tF]
  cases P4
  ·exact (dh (d:= .bool false) (E4++ [tF,tF,tF,tF,tT,tF,tF,tF,tF,tT,tT]) (by kernel_rfl)).to (by clear E1 E2 E3 E4;(try simp only [cJ,wk,aB,aK,ae,ak,aA,ay,aG,au,an,ax,bb] at*);(simp [wk,aB,aK,ae,ak,aA,ay,aG,au,an,ax,bb, *];done))
  have PQ:= @br aa (-2147483648) 2147483647
  let E5:EL:=E4++ [tT,tT,tT,.ret _ _ _ PQ,tT,tF]
  rcases de (decide (aa<(-2147483648))) with h17|h17
  ·exact (dh (d:= .bool false) (E5++Vc 4 (tC (eF (nt (bj (y:=decide (aa≤2147483647)) (bk (-2147483648) h17)))))++ [tC (nt (bj (y:=decide (aa≤2147483647)) (bk (-2147483648) h17))),tT]) (by kernel_rfl)).to (by clear E1 E2 E3 E4 E5;(try simp only [cJ,wk,aB,aK,ae,ak,aA,ay,aG,au,an,ax,bb] at*);(simp [wk,aB,aK,ae,ak,aA,ay,aG,au,an,ax,bb, *];omega))
  rcases de (decide (aa<2147483648)) with h18|h18
  ·have Qc:= @br ai (-2147483648) 2147483647
   let E6:EL:=E5++Vc 3 (tC (eF (nt (aD (bk (-2147483648) h17) (cY 2147483647 h18)))))++ [.ret _ _ _ Qc,tC (eF (nt (aD (bk (-2147483648) h17) (cY 2147483647 h18)))),tC (nt (aD (bk (-2147483648) h17) (cY 2147483647 h18)))]
   rcases de (decide (ai<(-2147483648))) with h20|h20
   ·exact (dh (d:= .bool false) (E6++ [tC (nt (bj (y:=decide (ai≤2147483647)) (bk (-2147483648) h20)))]) (by kernel_rfl)).to (by clear E1 E2 E3 E4 E5 E6;(try simp only [cJ,wk,aB,aK,ae,ak,aA,ay,aG,au,an,ax,bb] at*);(simp [wk,aB,aK,ae,ak,aA,ay,aG,au,an,ax,bb, *];omega))
   rcases de (decide (ai<2147483648)) with h21|h21
   ·let E7:EL:=E6++ [tC (nt (aD (bk (-2147483648) h20) (cY 2147483647 h21)))]
    by_cases h22:w=32
    ·subst h22
     exact (dh (d:= .bool true) (E7++ [tF,tF,tF,tT,tF,tF,tF,tF,tF,tT,tF,tT,tT]) (by kernel_rfl)).to (by clear E1 E2 E3 E4 E5 E6 E7;(try simp only [cJ,wk,aB,aK,ae,ak,aA,ay,aG,au,an,ax,bb] at*);(rw [Vn];simp [wk,aB,aK,ae,ak,aA,ay,aG,au,an,ax,bb, *];grind))
    let E8:EL:=E7++Vc 3 (tC (eF (aL h22)))++ [tC (aL h22)]++Vc 4 (tC (eF (aL h22)))
    by_cases h23:w=8
    ·subst h23
     have QV:= @br ai (-128) 127
     exact (dh (d:= .bool false) (E8++ [tT,tT,tT,.ret _ _ _ QV,tT,tT,tF,tF,tT,tT]) (by kernel_rfl)).to (by clear E1 E2 E3 E4 E5 E6 E7 E8;(try simp only [cJ,wk,aB,aK,ae,ak,aA,ay,aG,au,an,ax,bb] at*);(simp [wk,aB,aK,ae,ak,aA,ay,aG,au,an,ax,bb, *];done))
    exact (dh (d:= .bool (w==64)) (E8++Vc 3 (tC (eT (aL h23)))++ [tC (eF (aL h22)),tC (aL h23),tC (aL h22),tF,tT,tT]) (by kernel_rfl)).to (by clear E1 E2 E3 E4 E5 E6 E7 E8;(try simp only [cJ,wk,aB,aK,ae,ak,aA,ay,aG,au,an,ax,bb] at*);(rw [Vn];simp [wk,aB,aK,ae,ak,aA,ay,aG,au,an,ax,bb, *];grind))
   exact (dh (d:= .bool false) (E6++ [tC (nt (aD (bk (-2147483648) h20) (cY 2147483647 h21)))]) (by kernel_rfl)).to (by clear E1 E2 E3 E4 E5 E6;(try simp only [cJ,wk,aB,aK,ae,ak,aA,ay,aG,au,an,ax,bb] at*);(simp [wk,aB,aK,ae,ak,aA,ay,aG,au,an,ax,bb, *];omega))
  exact (dh (d:= .bool false) (E5++Vc 4 (tC (eF (nt (aD (bk (-2147483648) h17) (cY 2147483647 h18)))))++ [tC (nt (aD (bk (-2147483648) h17) (cY 2147483647 h18))),tT]) (by kernel_rfl)).to (by clear E1 E2 E3 E4 E5;(try simp only [cJ,wk,aB,aK,ae,ak,aA,ay,aG,au,an,ax,bb] at*);(simp [wk,aB,aK,ae,ak,aA,ay,aG,au,an,ax,bb, *];omega))
 exact (dh (d:= .bool false) (E1++Vc 4 (tC (eF (nt h6)))++ [tC (nt h6),tF,tF,tF,tF,tT,tF,tF,tF,tF,tT,tF,tF,tF,tF,tT,tF,tF,tF,tF,tT,tT]) (by kernel_rfl)).to (by clear E1;(try simp only [cJ,wk,aB,aK,ae,ak,aA,ay,aG,au,an,ax,bb] at*);(rw [Vn];simp [wk,aB,aK,ae,ak,aA,ay,aG,au,an,ax,bb, *];grind))
end Go.Proofs.YtkpneibifdoecaaGreat
