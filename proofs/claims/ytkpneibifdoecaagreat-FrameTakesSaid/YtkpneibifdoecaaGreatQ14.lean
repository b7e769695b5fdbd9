/- Contracts and plain laws that a statement's proof leans on (texts merged: E0F0, E0F, E1e, Y1f, ESM, FT2S). -/
import Derived.Test.YtkpneibifdoecaaGreatQ05
import Derived.Test.YtkpneibifdoecaaGreatQ10
import Derived.Test.YtkpneibifdoecaaGreatQ13
set_option linter.unusedVariables false
set_option linter.unusedSimpArgs false
set_option maxRecDepth 100000
set_option maxHeartbeats 8000000
namespace Go.Proofs.YtkpneibifdoecaaGreat
open Go Go.Ev
theorem fmay_2_ok  : Ret Tryz.prog 125 ([.int .i8 2]) (.bool true) := by
 exact (o125 (d := .bool true) ([tT, tT, tT, tT] ++ List.replicate 10 .inl ++ [tT, tT, tT, .get ([D.nilf, D.nilf, D.fn (Fn.func 167) [] [], D.fn (Fn.func 173) [] [.ptr false 1 0], D.fn (Fn.func 168) [] [], D.fn (Fn.func 173) [] [.ptr false 2 0], D.fn (Fn.func 171) [] [.ptr false 3 0, .ptr false 4 0], D.fn (Fn.func 173) [] [.ptr false 7 0], D.nilf, D.nilf, D.nilf, D.nilf, D.fn (Fn.func 169) [] [], D.fn (Fn.func 173) [] [.ptr false 8 0], D.fn (Fn.func 171) [] [.ptr false 9 0, .ptr false 10 0], D.fn (Fn.func 173) [] [.ptr false 13 0]]) 2 (D.fn (Fn.func 167) [] []) rfl, tT, tT]) (by kernel_rfl)).to (by ((simp only [wk, wkL, and_true]; repeat' (first | rfl | exact True.intro | apply And.intro)); done))
theorem fmay_3_ok  : Ret Tryz.prog 125 ([.int .i8 3]) (.bool true) := by
 exact (o125 (d := .bool true) ([tT, tT, tT, tT] ++ List.replicate 10 .inl ++ [tT, tT, tT, .get ([D.nilf, D.nilf, D.fn (Fn.func 167) [] [], D.fn (Fn.func 173) [] [.ptr false 1 0], D.fn (Fn.func 168) [] [], D.fn (Fn.func 173) [] [.ptr false 2 0], D.fn (Fn.func 171) [] [.ptr false 3 0, .ptr false 4 0], D.fn (Fn.func 173) [] [.ptr false 7 0], D.nilf, D.nilf, D.nilf, D.nilf, D.fn (Fn.func 169) [] [], D.fn (Fn.func 173) [] [.ptr false 8 0], D.fn (Fn.func 171) [] [.ptr false 9 0, .ptr false 10 0], D.fn (Fn.func 173) [] [.ptr false 13 0]]) 3 (D.fn (Fn.func 173) [] [.ptr false 1 0]) rfl, tT, tT]) (by kernel_rfl)).to (by ((simp only [wk, wkL, and_true]; repeat' (first | rfl | exact True.intro | apply And.intro)); done))
theorem fmay_4_ok  : Ret Tryz.prog 125 ([.int .i8 4]) (.bool true) := by
 exact (o125 (d := .bool true) ([tT, tT, tT, tT] ++ List.replicate 10 .inl ++ [tT, tT, tT, .get ([D.nilf, D.nilf, D.fn (Fn.func 167) [] [], D.fn (Fn.func 173) [] [.ptr false 1 0], D.fn (Fn.func 168) [] [], D.fn (Fn.func 173) [] [.ptr false 2 0], D.fn (Fn.func 171) [] [.ptr false 3 0, .ptr false 4 0], D.fn (Fn.func 173) [] [.ptr false 7 0], D.nilf, D.nilf, D.nilf, D.nilf, D.fn (Fn.func 169) [] [], D.fn (Fn.func 173) [] [.ptr false 8 0], D.fn (Fn.func 171) [] [.ptr false 9 0, .ptr false 10 0], D.fn (Fn.func 173) [] [.ptr false 13 0]]) 4 (D.fn (Fn.func 168) [] []) rfl, tT, tT]) (by kernel_rfl)).to (by ((simp only [wk, wkL, and_true]; repeat' (first | rfl | exact True.intro | apply And.intro)); done))
theorem fmay_5_ok  : Ret Tryz.prog 125 ([.int .i8 5]) (.bool true) := by
 exact (o125 (d := .bool true) ([tT, tT, tT, tT] ++ List.replicate 10 .inl ++ [tT, tT, tT, .get ([D.nilf, D.nilf, D.fn (Fn.func 167) [] [], D.fn (Fn.func 173) [] [.ptr false 1 0], D.fn (Fn.func 168) [] [], D.fn (Fn.func 173) [] [.ptr false 2 0], D.fn (Fn.func 171) [] [.ptr false 3 0, .ptr false 4 0], D.fn (Fn.func 173) [] [.ptr false 7 0], D.nilf, D.nilf, D.nilf, D.nilf, D.fn (Fn.func 169) [] [], D.fn (Fn.func 173) [] [.ptr false 8 0], D.fn (Fn.func 171) [] [.ptr false 9 0, .ptr false 10 0], D.fn (Fn.func 173) [] [.ptr false 13 0]]) 5 (D.fn (Fn.func 173) [] [.ptr false 2 0]) rfl, tT, tT]) (by kernel_rfl)).to (by ((simp only [wk, wkL, and_true]; repeat' (first | rfl | exact True.intro | apply And.intro)); done))
theorem fmay_6_ok  : Ret Tryz.prog 125 ([.int .i8 6]) (.bool true) := by
 exact (o125 (d := .bool true) ([tT, tT, tT, tT] ++ List.replicate 10 .inl ++ [tT, tT, tT, .get ([D.nilf, D.nilf, D.fn (Fn.func 167) [] [], D.fn (Fn.func 173) [] [.ptr false 1 0], D.fn (Fn.func 168) [] [], D.fn (Fn.func 173) [] [.ptr false 2 0], D.fn (Fn.func 171) [] [.ptr false 3 0, .ptr false 4 0], D.fn (Fn.func 173) [] [.ptr false 7 0], D.nilf, D.nilf, D.nilf, D.nilf, D.fn (Fn.func 169) [] [], D.fn (Fn.func 173) [] [.ptr false 8 0], D.fn (Fn.func 171) [] [.ptr false 9 0, .ptr false 10 0], D.fn (Fn.func 173) [] [.ptr false 13 0]]) 6 (D.fn (Fn.func 171) [] [.ptr false 3 0, .ptr false 4 0]) rfl, tT, tT]) (by kernel_rfl)).to (by ((simp only [wk, wkL, and_true]; repeat' (first | rfl | exact True.intro | apply And.intro)); done))
theorem fmay_7_ok  : Ret Tryz.prog 125 ([.int .i8 7]) (.bool true) := by
 exact (o125 (d := .bool true) ([tT, tT, tT, tT] ++ List.replicate 10 .inl ++ [tT, tT, tT, .get ([D.nilf, D.nilf, D.fn (Fn.func 167) [] [], D.fn (Fn.func 173) [] [.ptr false 1 0], D.fn (Fn.func 168) [] [], D.fn (Fn.func 173) [] [.ptr false 2 0], D.fn (Fn.func 171) [] [.ptr false 3 0, .ptr false 4 0], D.fn (Fn.func 173) [] [.ptr false 7 0], D.nilf, D.nilf, D.nilf, D.nilf, D.fn (Fn.func 169) [] [], D.fn (Fn.func 173) [] [.ptr false 8 0], D.fn (Fn.func 171) [] [.ptr false 9 0, .ptr false 10 0], D.fn (Fn.func 173) [] [.ptr false 13 0]]) 7 (D.fn (Fn.func 173) [] [.ptr false 7 0]) rfl, tT, tT]) (by kernel_rfl)).to (by ((simp only [wk, wkL, and_true]; repeat' (first | rfl | exact True.intro | apply And.intro)); done))
theorem fmay_12_ok  : Ret Tryz.prog 125 ([.int .i8 12]) (.bool true) := by
 exact (o125 (d := .bool true) ([tT, tT, tT, tT] ++ List.replicate 10 .inl ++ [tT, tT, tT, .get ([D.nilf, D.nilf, D.fn (Fn.func 167) [] [], D.fn (Fn.func 173) [] [.ptr false 1 0], D.fn (Fn.func 168) [] [], D.fn (Fn.func 173) [] [.ptr false 2 0], D.fn (Fn.func 171) [] [.ptr false 3 0, .ptr false 4 0], D.fn (Fn.func 173) [] [.ptr false 7 0], D.nilf, D.nilf, D.nilf, D.nilf, D.fn (Fn.func 169) [] [], D.fn (Fn.func 173) [] [.ptr false 8 0], D.fn (Fn.func 171) [] [.ptr false 9 0, .ptr false 10 0], D.fn (Fn.func 173) [] [.ptr false 13 0]]) 12 (D.fn (Fn.func 169) [] []) rfl, tT, tT]) (by kernel_rfl)).to (by ((simp only [wk, wkL, and_true]; repeat' (first | rfl | exact True.intro | apply And.intro)); done))
theorem fmay_13_ok  : Ret Tryz.prog 125 ([.int .i8 13]) (.bool true) := by
 exact (o125 (d := .bool true) ([tT, tT, tT, tT] ++ List.replicate 10 .inl ++ [tT, tT, tT, .get ([D.nilf, D.nilf, D.fn (Fn.func 167) [] [], D.fn (Fn.func 173) [] [.ptr false 1 0], D.fn (Fn.func 168) [] [], D.fn (Fn.func 173) [] [.ptr false 2 0], D.fn (Fn.func 171) [] [.ptr false 3 0, .ptr false 4 0], D.fn (Fn.func 173) [] [.ptr false 7 0], D.nilf, D.nilf, D.nilf, D.nilf, D.fn (Fn.func 169) [] [], D.fn (Fn.func 173) [] [.ptr false 8 0], D.fn (Fn.func 171) [] [.ptr false 9 0, .ptr false 10 0], D.fn (Fn.func 173) [] [.ptr false 13 0]]) 13 (D.fn (Fn.func 173) [] [.ptr false 8 0]) rfl, tT, tT]) (by kernel_rfl)).to (by ((simp only [wk, wkL, and_true]; repeat' (first | rfl | exact True.intro | apply And.intro)); done))
theorem fmay_14_ok  : Ret Tryz.prog 125 ([.int .i8 14]) (.bool true) := by
 exact (o125 (d := .bool true) ([tT, tT, tT, tT] ++ List.replicate 10 .inl ++ [tT, tT, tT, .get ([D.nilf, D.nilf, D.fn (Fn.func 167) [] [], D.fn (Fn.func 173) [] [.ptr false 1 0], D.fn (Fn.func 168) [] [], D.fn (Fn.func 173) [] [.ptr false 2 0], D.fn (Fn.func 171) [] [.ptr false 3 0, .ptr false 4 0], D.fn (Fn.func 173) [] [.ptr false 7 0], D.nilf, D.nilf, D.nilf, D.nilf, D.fn (Fn.func 169) [] [], D.fn (Fn.func 173) [] [.ptr false 8 0], D.fn (Fn.func 171) [] [.ptr false 9 0, .ptr false 10 0], D.fn (Fn.func 173) [] [.ptr false 13 0]]) 14 (D.fn (Fn.func 171) [] [.ptr false 9 0, .ptr false 10 0]) rfl, tT, tT]) (by kernel_rfl)).to (by ((simp only [wk, wkL, and_true]; repeat' (first | rfl | exact True.intro | apply And.intro)); done))
theorem fmay_15_ok  : Ret Tryz.prog 125 ([.int .i8 15]) (.bool true) := by
 exact (o125 (d := .bool true) ([tT, tT, tT, tT] ++ List.replicate 10 .inl ++ [tT, tT, tT, .get ([D.nilf, D.nilf, D.fn (Fn.func 167) [] [], D.fn (Fn.func 173) [] [.ptr false 1 0], D.fn (Fn.func 168) [] [], D.fn (Fn.func 173) [] [.ptr false 2 0], D.fn (Fn.func 171) [] [.ptr false 3 0, .ptr false 4 0], D.fn (Fn.func 173) [] [.ptr false 7 0], D.nilf, D.nilf, D.nilf, D.nilf, D.fn (Fn.func 169) [] [], D.fn (Fn.func 173) [] [.ptr false 8 0], D.fn (Fn.func 171) [] [.ptr false 9 0, .ptr false 10 0], D.fn (Fn.func 173) [] [.ptr false 13 0]]) 15 (D.fn (Fn.func 173) [] [.ptr false 13 0]) rfl, tT, tT]) (by kernel_rfl)).to (by ((simp only [wk, wkL, and_true]; repeat' (first | rfl | exact True.intro | apply And.intro)); done))
def SpE0F00 (k0_ : Int) : Prop := ∀ (c z s o : Bool), Ret Tryz.prog 141 ([.int .i8 k0_, fD true c z s o]) (.tup [.bool (holdM k0_ c z s o), .int .i64 0])
theorem fholds_2_ok : SpE0F00 2 := by
 intro c z s o
 have c0 := @fmay_2_ok
 have c1 := @fnone_ok
 exact (o141 (d := .tup [.bool c, .int .i64 0]) ([.ret _ _ _ c0, tF, .ret _ _ _ c1, .flat _ _ flat_Flags, tT, tT, tT, tF, tF] ++ List.replicate 10 .inl ++ [.keep [], .keep [(0, .box [.bool true, .bool c, .bool z, .bool s, .bool o])], tT, .get ([D.nilf, D.nilf, D.fn (Fn.func 167) [] [], D.fn (Fn.func 173) [] [.ptr false 4 0], D.fn (Fn.func 168) [] [], D.fn (Fn.func 173) [] [.ptr false 5 0], D.fn (Fn.func 171) [] [.ptr false 6 0, .ptr false 7 0], D.fn (Fn.func 173) [] [.ptr false 10 0], D.nilf, D.nilf, D.nilf, D.nilf, D.fn (Fn.func 169) [] [], D.fn (Fn.func 173) [] [.ptr false 11 0], D.fn (Fn.func 171) [] [.ptr false 12 0, .ptr false 13 0], D.fn (Fn.func 173) [] [.ptr false 16 0]]) 2 (D.fn (Fn.func 167) [] []) rfl, .inl]) (by kernel_rfl)).to (by (try cases c) <;> (try cases z) <;> (try cases s) <;> (try cases o) <;> first | (simp [wk, wkL, holdM]; done) | rfl | exact ⟨rfl, rfl, trivial⟩)
def SpE0F01 (k0_ : Int) : Prop := ∀ (c z s o : Bool), Ret Tryz.prog 141 ([.int .i8 k0_, fD false c z s o]) (.tup [.bool false, .int .i64 20])
theorem fholds_n2_ok : SpE0F01 2 := by
 intro c z s o
 have c0 := @fmay_2_ok
 have c1 := @fnone_ok
 let E1 : EL := [.ret _ _ _ c0, tF, .ret _ _ _ c1, .flat _ _ flat_Flags]
 cases c
 ·cases z
  ·cases s
   ·cases o
    ·exact (o141 (d := .tup [.bool false, .int .i64 20]) (E1 ++ [tF, tF, tF, tT, tT]) (by kernel_rfl)).to (by clear E1; simp [wk, wkL])
    exact (o141 (d := .tup [.bool false, .int .i64 20]) (E1 ++ [tT, tT, tT, tF, tT]) (by kernel_rfl)).to (by clear E1; simp [wk, wkL])
   exact (o141 (d := .tup [.bool false, .int .i64 20]) (E1 ++ [tT, tT, tT, tF, tT]) (by kernel_rfl)).to (by clear E1; simp [wk, wkL])
  exact (o141 (d := .tup [.bool false, .int .i64 20]) (E1 ++ [tT, tT, tT, tF, tT]) (by kernel_rfl)).to (by clear E1; simp [wk, wkL])
 exact (o141 (d := .tup [.bool false, .int .i64 20]) (E1 ++ [tT, tT, tT, tF, tT]) (by kernel_rfl)).to (by clear E1; simp [wk, wkL])
theorem fholds_3_ok : SpE0F00 3 := by
 intro c z s o
 have c0 := @fmay_3_ok
 have c1 := @fnone_ok
 exact (o141 (d := .tup [.bool !c, .int .i64 0]) ([.ret _ _ _ c0, tF, .ret _ _ _ c1, .flat _ _ flat_Flags, tT, tT, tT, tF, tF] ++ List.replicate 10 .inl ++ [.keep [], .keep [(0, .box [.bool true, .bool c, .bool z, .bool s, .bool o])], tT, .get ([D.nilf, D.nilf, D.fn (Fn.func 167) [] [], D.fn (Fn.func 173) [] [.ptr false 4 0], D.fn (Fn.func 168) [] [], D.fn (Fn.func 173) [] [.ptr false 5 0], D.fn (Fn.func 171) [] [.ptr false 6 0, .ptr false 7 0], D.fn (Fn.func 173) [] [.ptr false 10 0], D.nilf, D.nilf, D.nilf, D.nilf, D.fn (Fn.func 169) [] [], D.fn (Fn.func 173) [] [.ptr false 11 0], D.fn (Fn.func 171) [] [.ptr false 12 0, .ptr false 13 0], D.fn (Fn.func 173) [] [.ptr false 16 0]]) 3 (D.fn (Fn.func 173) [] [.ptr false 4 0]) rfl, .inl, .inl]) (by kernel_rfl)).to (by (try cases c) <;> (try cases z) <;> (try cases s) <;> (try cases o) <;> first | (simp [wk, wkL, holdM]; done) | rfl | exact ⟨rfl, rfl, trivial⟩)
theorem fholds_n3_ok : SpE0F01 3 := by
 intro c z s o
 have c0 := @fmay_3_ok
 have c1 := @fnone_ok
 let E1 : EL := [.ret _ _ _ c0, tF, .ret _ _ _ c1, .flat _ _ flat_Flags]
 cases c
 ·cases z
  ·cases s
   ·cases o
    ·exact (o141 (d := .tup [.bool false, .int .i64 20]) (E1 ++ [tF, tF, tF, tT, tT]) (by kernel_rfl)).to (by clear E1; simp [wk, wkL])
    exact (o141 (d := .tup [.bool false, .int .i64 20]) (E1 ++ [tT, tT, tT, tF, tT]) (by kernel_rfl)).to (by clear E1; simp [wk, wkL])
   exact (o141 (d := .tup [.bool false, .int .i64 20]) (E1 ++ [tT, tT, tT, tF, tT]) (by kernel_rfl)).to (by clear E1; simp [wk, wkL])
  exact (o141 (d := .tup [.bool false, .int .i64 20]) (E1 ++ [tT, tT, tT, tF, tT]) (by kernel_rfl)).to (by clear E1; simp [wk, wkL])
 exact (o141 (d := .tup [.bool false, .int .i64 20]) (E1 ++ [tT, tT, tT, tF, tT]) (by kernel_rfl)).to (by clear E1; simp [wk, wkL])
theorem fholds_4_ok : SpE0F00 4 := by
 intro c z s o
 have c0 := @fmay_4_ok
 have c1 := @fnone_ok
 exact (o141 (d := .tup [.bool z, .int .i64 0]) ([.ret _ _ _ c0, tF, .ret _ _ _ c1, .flat _ _ flat_Flags, tT, tT, tT, tF, tF] ++ List.replicate 10 .inl ++ [.keep [], .keep [(0, .box [.bool true, .bool c, .bool z, .bool s, .bool o])], tT, .get ([D.nilf, D.nilf, D.fn (Fn.func 167) [] [], D.fn (Fn.func 173) [] [.ptr false 4 0], D.fn (Fn.func 168) [] [], D.fn (Fn.func 173) [] [.ptr false 5 0], D.fn (Fn.func 171) [] [.ptr false 6 0, .ptr false 7 0], D.fn (Fn.func 173) [] [.ptr false 10 0], D.nilf, D.nilf, D.nilf, D.nilf, D.fn (Fn.func 169) [] [], D.fn (Fn.func 173) [] [.ptr false 11 0], D.fn (Fn.func 171) [] [.ptr false 12 0, .ptr false 13 0], D.fn (Fn.func 173) [] [.ptr false 16 0]]) 4 (D.fn (Fn.func 168) [] []) rfl, .inl]) (by kernel_rfl)).to (by (try cases c) <;> (try cases z) <;> (try cases s) <;> (try cases o) <;> first | (simp [wk, wkL, holdM]; done) | rfl | exact ⟨rfl, rfl, trivial⟩)
theorem fholds_n4_ok : SpE0F01 4 := by
 intro c z s o
 have c0 := @fmay_4_ok
 have c1 := @fnone_ok
 let E1 : EL := [.ret _ _ _ c0, tF, .ret _ _ _ c1, .flat _ _ flat_Flags]
 cases c
 ·cases z
  ·cases s
   ·cases o
    ·exact (o141 (d := .tup [.bool false, .int .i64 20]) (E1 ++ [tF, tF, tF, tT, tT]) (by kernel_rfl)).to (by clear E1; simp [wk, wkL])
    exact (o141 (d := .tup [.bool false, .int .i64 20]) (E1 ++ [tT, tT, tT, tF, tT]) (by kernel_rfl)).to (by clear E1; simp [wk, wkL])
   exact (o141 (d := .tup [.bool false, .int .i64 20]) (E1 ++ [tT, tT, tT, tF, tT]) (by kernel_rfl)).to (by clear E1; simp [wk, wkL])
  exact (o141 (d := .tup [.bool false, .int .i64 20]) (E1 ++ [tT, tT, tT, tF, tT]) (by kernel_rfl)).to (by clear E1; simp [wk, wkL])
 exact (o141 (d := .tup [.bool false, .int .i64 20]) (E1 ++ [tT, tT, tT, tF, tT]) (by kernel_rfl)).to (by clear E1; simp [wk, wkL])
theorem fholds_5_ok : SpE0F00 5 := by
 intro c z s o
 have c0 := @fmay_5_ok
 have c1 := @fnone_ok
 exact (o141 (d := .tup [.bool !z, .int .i64 0]) ([.ret _ _ _ c0, tF, .ret _ _ _ c1, .flat _ _ flat_Flags, tT, tT, tT, tF, tF] ++ List.replicate 10 .inl ++ [.keep [], .keep [(0, .box [.bool true, .bool c, .bool z, .bool s, .bool o])], tT, .get ([D.nilf, D.nilf, D.fn (Fn.func 167) [] [], D.fn (Fn.func 173) [] [.ptr false 4 0], D.fn (Fn.func 168) [] [], D.fn (Fn.func 173) [] [.ptr false 5 0], D.fn (Fn.func 171) [] [.ptr false 6 0, .ptr false 7 0], D.fn (Fn.func 173) [] [.ptr false 10 0], D.nilf, D.nilf, D.nilf, D.nilf, D.fn (Fn.func 169) [] [], D.fn (Fn.func 173) [] [.ptr false 11 0], D.fn (Fn.func 171) [] [.ptr false 12 0, .ptr false 13 0], D.fn (Fn.func 173) [] [.ptr false 16 0]]) 5 (D.fn (Fn.func 173) [] [.ptr false 5 0]) rfl, .inl, .inl]) (by kernel_rfl)).to (by (try cases c) <;> (try cases z) <;> (try cases s) <;> (try cases o) <;> first | (simp [wk, wkL, holdM]; done) | rfl | exact ⟨rfl, rfl, trivial⟩)
theorem fholds_n5_ok : SpE0F01 5 := by
 intro c z s o
 have c0 := @fmay_5_ok
 have c1 := @fnone_ok
 let E1 : EL := [.ret _ _ _ c0, tF, .ret _ _ _ c1, .flat _ _ flat_Flags]
 cases c
 ·cases z
  ·cases s
   ·cases o
    ·exact (o141 (d := .tup [.bool false, .int .i64 20]) (E1 ++ [tF, tF, tF, tT, tT]) (by kernel_rfl)).to (by clear E1; simp [wk, wkL])
    exact (o141 (d := .tup [.bool false, .int .i64 20]) (E1 ++ [tT, tT, tT, tF, tT]) (by kernel_rfl)).to (by clear E1; simp [wk, wkL])
   exact (o141 (d := .tup [.bool false, .int .i64 20]) (E1 ++ [tT, tT, tT, tF, tT]) (by kernel_rfl)).to (by clear E1; simp [wk, wkL])
  exact (o141 (d := .tup [.bool false, .int .i64 20]) (E1 ++ [tT, tT, tT, tF, tT]) (by kernel_rfl)).to (by clear E1; simp [wk, wkL])
 exact (o141 (d := .tup [.bool false, .int .i64 20]) (E1 ++ [tT, tT, tT, tF, tT]) (by kernel_rfl)).to (by clear E1; simp [wk, wkL])
theorem fholds_6_ok : SpE0F00 6 := by
 intro c z s o
 have c0 := @fmay_6_ok
 have c1 := @fnone_ok
 let E1 : EL := ([.ret _ _ _ c0, tF, .ret _ _ _ c1, .flat _ _ flat_Flags, tT, tT, tT, tF, tF] ++ List.replicate 10 .inl ++ [.keep []])
 cases c
 ·exact (o141 (d := .tup [.bool z, .int .i64 0]) (E1 ++ [.keep [(0, .box [.bool true, .bool false, .bool z, .bool s, .bool o])], tT, .get ([D.nilf, D.nilf, D.fn (Fn.func 167) [] [], D.fn (Fn.func 173) [] [.ptr false 4 0], D.fn (Fn.func 168) [] [], D.fn (Fn.func 173) [] [.ptr false 5 0], D.fn (Fn.func 171) [] [.ptr false 6 0, .ptr false 7 0], D.fn (Fn.func 173) [] [.ptr false 10 0], D.nilf, D.nilf, D.nilf, D.nilf, D.fn (Fn.func 169) [] [], D.fn (Fn.func 173) [] [.ptr false 11 0], D.fn (Fn.func 171) [] [.ptr false 12 0, .ptr false 13 0], D.fn (Fn.func 173) [] [.ptr false 16 0]]) 6 (D.fn (Fn.func 171) [] [.ptr false 6 0, .ptr false 7 0]) rfl, .inl, .inl, tT, tT, tT, .inl, tF]) (by kernel_rfl)).to (by clear E1; (try cases c) <;> (try cases z) <;> (try cases s) <;> (try cases o) <;> first | (simp [wk, wkL, holdM]; done) | rfl | exact ⟨rfl, rfl, trivial⟩)
 exact (o141 (d := .tup [.bool true, .int .i64 0]) (E1 ++ [.keep [(0, .box [.bool true, .bool true, .bool z, .bool s, .bool o])], tT, .get ([D.nilf, D.nilf, D.fn (Fn.func 167) [] [], D.fn (Fn.func 173) [] [.ptr false 4 0], D.fn (Fn.func 168) [] [], D.fn (Fn.func 173) [] [.ptr false 5 0], D.fn (Fn.func 171) [] [.ptr false 6 0, .ptr false 7 0], D.fn (Fn.func 173) [] [.ptr false 10 0], D.nilf, D.nilf, D.nilf, D.nilf, D.fn (Fn.func 169) [] [], D.fn (Fn.func 173) [] [.ptr false 11 0], D.fn (Fn.func 171) [] [.ptr false 12 0, .ptr false 13 0], D.fn (Fn.func 173) [] [.ptr false 16 0]]) 6 (D.fn (Fn.func 171) [] [.ptr false 6 0, .ptr false 7 0]) rfl, .inl, .inl, tF, tF, tF, tT]) (by kernel_rfl)).to (by clear E1; (try cases c) <;> (try cases z) <;> (try cases s) <;> (try cases o) <;> first | (simp [wk, wkL, holdM]; done) | rfl | exact ⟨rfl, rfl, trivial⟩)
theorem fholds_n6_ok : SpE0F01 6 := by
 intro c z s o
 have c0 := @fmay_6_ok
 have c1 := @fnone_ok
 let E1 : EL := [.ret _ _ _ c0, tF, .ret _ _ _ c1, .flat _ _ flat_Flags]
 cases c
 ·cases z
  ·cases s
   ·cases o
    ·exact (o141 (d := .tup [.bool false, .int .i64 20]) (E1 ++ [tF, tF, tF, tT, tT]) (by kernel_rfl)).to (by clear E1; simp [wk, wkL])
    exact (o141 (d := .tup [.bool false, .int .i64 20]) (E1 ++ [tT, tT, tT, tF, tT]) (by kernel_rfl)).to (by clear E1; simp [wk, wkL])
   exact (o141 (d := .tup [.bool false, .int .i64 20]) (E1 ++ [tT, tT, tT, tF, tT]) (by kernel_rfl)).to (by clear E1; simp [wk, wkL])
  exact (o141 (d := .tup [.bool false, .int .i64 20]) (E1 ++ [tT, tT, tT, tF, tT]) (by kernel_rfl)).to (by clear E1; simp [wk, wkL])
 exact (o141 (d := .tup [.bool false, .int .i64 20]) (E1 ++ [tT, tT, tT, tF, tT]) (by kernel_rfl)).to (by clear E1; simp [wk, wkL])
theorem fholds_7_ok : SpE0F00 7 := by
 intro c z s o
 have c0 := @fmay_7_ok
 have c1 := @fnone_ok
 let E1 : EL := ([.ret _ _ _ c0, tF, .ret _ _ _ c1, .flat _ _ flat_Flags, tT, tT, tT, tF, tF] ++ List.replicate 10 .inl ++ [.keep []])
 cases c
 ·exact (o141 (d := .tup [.bool !z, .int .i64 0]) (E1 ++ [.keep [(0, .box [.bool true, .bool false, .bool z, .bool s, .bool o])], tT, .get ([D.nilf, D.nilf, D.fn (Fn.func 167) [] [], D.fn (Fn.func 173) [] [.ptr false 4 0], D.fn (Fn.func 168) [] [], D.fn (Fn.func 173) [] [.ptr false 5 0], D.fn (Fn.func 171) [] [.ptr false 6 0, .ptr false 7 0], D.fn (Fn.func 173) [] [.ptr false 10 0], D.nilf, D.nilf, D.nilf, D.nilf, D.fn (Fn.func 169) [] [], D.fn (Fn.func 173) [] [.ptr false 11 0], D.fn (Fn.func 171) [] [.ptr false 12 0, .ptr false 13 0], D.fn (Fn.func 173) [] [.ptr false 16 0]]) 7 (D.fn (Fn.func 173) [] [.ptr false 10 0]) rfl, .inl, .inl, .inl, tT, tT, tT, .inl, tF]) (by kernel_rfl)).to (by clear E1; (try cases c) <;> (try cases z) <;> (try cases s) <;> (try cases o) <;> first | (simp [wk, wkL, holdM]; done) | rfl | exact ⟨rfl, rfl, trivial⟩)
 exact (o141 (d := .tup [.bool false, .int .i64 0]) (E1 ++ [.keep [(0, .box [.bool true, .bool true, .bool z, .bool s, .bool o])], tT, .get ([D.nilf, D.nilf, D.fn (Fn.func 167) [] [], D.fn (Fn.func 173) [] [.ptr false 4 0], D.fn (Fn.func 168) [] [], D.fn (Fn.func 173) [] [.ptr false 5 0], D.fn (Fn.func 171) [] [.ptr false 6 0, .ptr false 7 0], D.fn (Fn.func 173) [] [.ptr false 10 0], D.nilf, D.nilf, D.nilf, D.nilf, D.fn (Fn.func 169) [] [], D.fn (Fn.func 173) [] [.ptr false 11 0], D.fn (Fn.func 171) [] [.ptr false 12 0, .ptr false 13 0], D.fn (Fn.func 173) [] [.ptr false 16 0]]) 7 (D.fn (Fn.func 173) [] [.ptr false 10 0]) rfl, .inl, .inl, .inl, tF, tF, tF, tT]) (by kernel_rfl)).to (by clear E1; (try cases c) <;> (try cases z) <;> (try cases s) <;> (try cases o) <;> first | (simp [wk, wkL, holdM]; done) | rfl | exact ⟨rfl, rfl, trivial⟩)
theorem fholds_n7_ok : SpE0F01 7 := by
 intro c z s o
 have c0 := @fmay_7_ok
 have c1 := @fnone_ok
 let E1 : EL := [.ret _ _ _ c0, tF, .ret _ _ _ c1, .flat _ _ flat_Flags]
 cases c
 ·cases z
  ·cases s
   ·cases o
    ·exact (o141 (d := .tup [.bool false, .int .i64 20]) (E1 ++ [tF, tF, tF, tT, tT]) (by kernel_rfl)).to (by clear E1; simp [wk, wkL])
    exact (o141 (d := .tup [.bool false, .int .i64 20]) (E1 ++ [tT, tT, tT, tF, tT]) (by kernel_rfl)).to (by clear E1; simp [wk, wkL])
   exact (o141 (d := .tup [.bool false, .int .i64 20]) (E1 ++ [tT, tT, tT, tF, tT]) (by kernel_rfl)).to (by clear E1; simp [wk, wkL])
  exact (o141 (d := .tup [.bool false, .int .i64 20]) (E1 ++ [tT, tT, tT, tF, tT]) (by kernel_rfl)).to (by clear E1; simp [wk, wkL])
 exact (o141 (d := .tup [.bool false, .int .i64 20]) (E1 ++ [tT, tT, tT, tF, tT]) (by kernel_rfl)).to (by clear E1; simp [wk, wkL])
theorem fholds_12_ok : SpE0F00 12 := by
 intro c z s o
 have c0 := @fmay_12_ok
 have c1 := @fnone_ok
 exact (o141 (d := .tup [.bool !s == o, .int .i64 0]) ([.ret _ _ _ c0, tF, .ret _ _ _ c1, .flat _ _ flat_Flags, tT, tT, tT, tF, tF] ++ List.replicate 10 .inl ++ [.keep [], .keep [(0, .box [.bool true, .bool c, .bool z, .bool s, .bool o])], tT, .get ([D.nilf, D.nilf, D.fn (Fn.func 167) [] [], D.fn (Fn.func 173) [] [.ptr false 4 0], D.fn (Fn.func 168) [] [], D.fn (Fn.func 173) [] [.ptr false 5 0], D.fn (Fn.func 171) [] [.ptr false 6 0, .ptr false 7 0], D.fn (Fn.func 173) [] [.ptr false 10 0], D.nilf, D.nilf, D.nilf, D.nilf, D.fn (Fn.func 169) [] [], D.fn (Fn.func 173) [] [.ptr false 11 0], D.fn (Fn.func 171) [] [.ptr false 12 0, .ptr false 13 0], D.fn (Fn.func 173) [] [.ptr false 16 0]]) 12 (D.fn (Fn.func 169) [] []) rfl, .inl]) (by kernel_rfl)).to (by (try cases c) <;> (try cases z) <;> (try cases s) <;> (try cases o) <;> first | (simp [wk, wkL, holdM]; done) | rfl | exact ⟨rfl, rfl, trivial⟩)
theorem fholds_n12_ok : SpE0F01 12 := by
 intro c z s o
 have c0 := @fmay_12_ok
 have c1 := @fnone_ok
 let E1 : EL := [.ret _ _ _ c0, tF, .ret _ _ _ c1, .flat _ _ flat_Flags]
 cases c
 ·cases z
  ·cases s
   ·cases o
    ·exact (o141 (d := .tup [.bool false, .int .i64 20]) (E1 ++ [tF, tF, tF, tT, tT]) (by kernel_rfl)).to (by clear E1; simp [wk, wkL])
    exact (o141 (d := .tup [.bool false, .int .i64 20]) (E1 ++ [tT, tT, tT, tF, tT]) (by kernel_rfl)).to (by clear E1; simp [wk, wkL])
   exact (o141 (d := .tup [.bool false, .int .i64 20]) (E1 ++ [tT, tT, tT, tF, tT]) (by kernel_rfl)).to (by clear E1; simp [wk, wkL])
  exact (o141 (d := .tup [.bool false, .int .i64 20]) (E1 ++ [tT, tT, tT, tF, tT]) (by kernel_rfl)).to (by clear E1; simp [wk, wkL])
 exact (o141 (d := .tup [.bool false, .int .i64 20]) (E1 ++ [tT, tT, tT, tF, tT]) (by kernel_rfl)).to (by clear E1; simp [wk, wkL])
theorem fholds_13_ok : SpE0F00 13 := by
 intro c z s o
 have c0 := @fmay_13_ok
 have c1 := @fnone_ok
 exact (o141 (d := .tup [.bool !!s == o, .int .i64 0]) ([.ret _ _ _ c0, tF, .ret _ _ _ c1, .flat _ _ flat_Flags, tT, tT, tT, tF, tF] ++ List.replicate 10 .inl ++ [.keep [], .keep [(0, .box [.bool true, .bool c, .bool z, .bool s, .bool o])], tT, .get ([D.nilf, D.nilf, D.fn (Fn.func 167) [] [], D.fn (Fn.func 173) [] [.ptr false 4 0], D.fn (Fn.func 168) [] [], D.fn (Fn.func 173) [] [.ptr false 5 0], D.fn (Fn.func 171) [] [.ptr false 6 0, .ptr false 7 0], D.fn (Fn.func 173) [] [.ptr false 10 0], D.nilf, D.nilf, D.nilf, D.nilf, D.fn (Fn.func 169) [] [], D.fn (Fn.func 173) [] [.ptr false 11 0], D.fn (Fn.func 171) [] [.ptr false 12 0, .ptr false 13 0], D.fn (Fn.func 173) [] [.ptr false 16 0]]) 13 (D.fn (Fn.func 173) [] [.ptr false 11 0]) rfl, .inl, .inl]) (by kernel_rfl)).to (by (try cases c) <;> (try cases z) <;> (try cases s) <;> (try cases o) <;> first | (simp [wk, wkL, holdM]; done) | rfl | exact ⟨rfl, rfl, trivial⟩)
theorem fholds_n13_ok : SpE0F01 13 := by
 intro c z s o
 have c0 := @fmay_13_ok
 have c1 := @fnone_ok
 let E1 : EL := [.ret _ _ _ c0, tF, .ret _ _ _ c1, .flat _ _ flat_Flags]
 cases c
 ·cases z
  ·cases s
   ·cases o
    ·exact (o141 (d := .tup [.bool false, .int .i64 20]) (E1 ++ [tF, tF, tF, tT, tT]) (by kernel_rfl)).to (by clear E1; simp [wk, wkL])
    exact (o141 (d := .tup [.bool false, .int .i64 20]) (E1 ++ [tT, tT, tT, tF, tT]) (by kernel_rfl)).to (by clear E1; simp [wk, wkL])
   exact (o141 (d := .tup [.bool false, .int .i64 20]) (E1 ++ [tT, tT, tT, tF, tT]) (by kernel_rfl)).to (by clear E1; simp [wk, wkL])
  exact (o141 (d := .tup [.bool false, .int .i64 20]) (E1 ++ [tT, tT, tT, tF, tT]) (by kernel_rfl)).to (by clear E1; simp [wk, wkL])
 exact (o141 (d := .tup [.bool false, .int .i64 20]) (E1 ++ [tT, tT, tT, tF, tT]) (by kernel_rfl)).to (by clear E1; simp [wk, wkL])
theorem fholds_14_ok : SpE0F00 14 := by
 intro c z s o
 have c0 := @fmay_14_ok
 have c1 := @fnone_ok
 let E1 : EL := ([.ret _ _ _ c0, tF, .ret _ _ _ c1, .flat _ _ flat_Flags, tT, tT, tT, tF, tF] ++ List.replicate 10 .inl ++ [.keep []])
 cases z
 ·exact (o141 (d := .tup [.bool !s == o, .int .i64 0]) (E1 ++ [.keep [(0, .box [.bool true, .bool c, .bool false, .bool s, .bool o])], tT, .get ([D.nilf, D.nilf, D.fn (Fn.func 167) [] [], D.fn (Fn.func 173) [] [.ptr false 4 0], D.fn (Fn.func 168) [] [], D.fn (Fn.func 173) [] [.ptr false 5 0], D.fn (Fn.func 171) [] [.ptr false 6 0, .ptr false 7 0], D.fn (Fn.func 173) [] [.ptr false 10 0], D.nilf, D.nilf, D.nilf, D.nilf, D.fn (Fn.func 169) [] [], D.fn (Fn.func 173) [] [.ptr false 11 0], D.fn (Fn.func 171) [] [.ptr false 12 0, .ptr false 13 0], D.fn (Fn.func 173) [] [.ptr false 16 0]]) 14 (D.fn (Fn.func 171) [] [.ptr false 12 0, .ptr false 13 0]) rfl, .inl, .inl, tT, tT, tT, .inl, tF]) (by kernel_rfl)).to (by clear E1; (try cases c) <;> (try cases z) <;> (try cases s) <;> (try cases o) <;> first | (simp [wk, wkL, holdM]; done) | rfl | exact ⟨rfl, rfl, trivial⟩)
 exact (o141 (d := .tup [.bool true, .int .i64 0]) (E1 ++ [.keep [(0, .box [.bool true, .bool c, .bool true, .bool s, .bool o])], tT, .get ([D.nilf, D.nilf, D.fn (Fn.func 167) [] [], D.fn (Fn.func 173) [] [.ptr false 4 0], D.fn (Fn.func 168) [] [], D.fn (Fn.func 173) [] [.ptr false 5 0], D.fn (Fn.func 171) [] [.ptr false 6 0, .ptr false 7 0], D.fn (Fn.func 173) [] [.ptr false 10 0], D.nilf, D.nilf, D.nilf, D.nilf, D.fn (Fn.func 169) [] [], D.fn (Fn.func 173) [] [.ptr false 11 0], D.fn (Fn.func 171) [] [.ptr false 12 0, .ptr false 13 0], D.fn (Fn.func 173) [] [.ptr false 16 0]]) 14 (D.fn (Fn.func 171) [] [.ptr false 12 0, .ptr false 13 0]) rfl, .inl, .inl, tF, tF, tF, tT]) (by kernel_rfl)).to (by clear E1; (try cases c) <;> (try cases z) <;> (try cases s) <;> (try cases o) <;> first | (simp [wk, wkL, holdM]; done) | rfl | exact ⟨rfl, rfl, trivial⟩)
theorem fholds_n14_ok : SpE0F01 14 := by
 intro c z s o
 have c0 := @fmay_14_ok
 have c1 := @fnone_ok
 let E1 : EL := [.ret _ _ _ c0, tF, .ret _ _ _ c1, .flat _ _ flat_Flags]
 cases c
 ·cases z
  ·cases s
   ·cases o
    ·exact (o141 (d := .tup [.bool false, .int .i64 20]) (E1 ++ [tF, tF, tF, tT, tT]) (by kernel_rfl)).to (by clear E1; simp [wk, wkL])
    exact (o141 (d := .tup [.bool false, .int .i64 20]) (E1 ++ [tT, tT, tT, tF, tT]) (by kernel_rfl)).to (by clear E1; simp [wk, wkL])
   exact (o141 (d := .tup [.bool false, .int .i64 20]) (E1 ++ [tT, tT, tT, tF, tT]) (by kernel_rfl)).to (by clear E1; simp [wk, wkL])
  exact (o141 (d := .tup [.bool false, .int .i64 20]) (E1 ++ [tT, tT, tT, tF, tT]) (by kernel_rfl)).to (by clear E1; simp [wk, wkL])
 exact (o141 (d := .tup [.bool false, .int .i64 20]) (E1 ++ [tT, tT, tT, tF, tT]) (by kernel_rfl)).to (by clear E1; simp [wk, wkL])
theorem fholds_15_ok : SpE0F00 15 := by
 intro c z s o
 have c0 := @fmay_15_ok
 have c1 := @fnone_ok
 let E1 : EL := ([.ret _ _ _ c0, tF, .ret _ _ _ c1, .flat _ _ flat_Flags, tT, tT, tT, tF, tF] ++ List.replicate 10 .inl ++ [.keep []])
 cases z
 ·exact (o141 (d := .tup [.bool !!s == o, .int .i64 0]) (E1 ++ [.keep [(0, .box [.bool true, .bool c, .bool false, .bool s, .bool o])], tT, .get ([D.nilf, D.nilf, D.fn (Fn.func 167) [] [], D.fn (Fn.func 173) [] [.ptr false 4 0], D.fn (Fn.func 168) [] [], D.fn (Fn.func 173) [] [.ptr false 5 0], D.fn (Fn.func 171) [] [.ptr false 6 0, .ptr false 7 0], D.fn (Fn.func 173) [] [.ptr false 10 0], D.nilf, D.nilf, D.nilf, D.nilf, D.fn (Fn.func 169) [] [], D.fn (Fn.func 173) [] [.ptr false 11 0], D.fn (Fn.func 171) [] [.ptr false 12 0, .ptr false 13 0], D.fn (Fn.func 173) [] [.ptr false 16 0]]) 15 (D.fn (Fn.func 173) [] [.ptr false 16 0]) rfl, .inl, .inl, .inl, tT, tT, tT, .inl, tF]) (by kernel_rfl)).to (by clear E1; (try cases c) <;> (try cases z) <;> (try cases s) <;> (try cases o) <;> first | (simp [wk, wkL, holdM]; done) | rfl | exact ⟨rfl, rfl, trivial⟩)
 exact (o141 (d := .tup [.bool false, .int .i64 0]) (E1 ++ [.keep [(0, .box [.bool true, .bool c, .bool true, .bool s, .bool o])], tT, .get ([D.nilf, D.nilf, D.fn (Fn.func 167) [] [], D.fn (Fn.func 173) [] [.ptr false 4 0], D.fn (Fn.func 168) [] [], D.fn (Fn.func 173) [] [.ptr false 5 0], D.fn (Fn.func 171) [] [.ptr false 6 0, .ptr false 7 0], D.fn (Fn.func 173) [] [.ptr false 10 0], D.nilf, D.nilf, D.nilf, D.nilf, D.fn (Fn.func 169) [] [], D.fn (Fn.func 173) [] [.ptr false 11 0], D.fn (Fn.func 171) [] [.ptr false 12 0, .ptr false 13 0], D.fn (Fn.func 173) [] [.ptr false 16 0]]) 15 (D.fn (Fn.func 173) [] [.ptr false 16 0]) rfl, .inl, .inl, .inl, tF, tF, tF, tT]) (by kernel_rfl)).to (by clear E1; (try cases c) <;> (try cases z) <;> (try cases s) <;> (try cases o) <;> first | (simp [wk, wkL, holdM]; done) | rfl | exact ⟨rfl, rfl, trivial⟩)
theorem fholds_n15_ok : SpE0F01 15 := by
 intro c z s o
 have c0 := @fmay_15_ok
 have c1 := @fnone_ok
 let E1 : EL := [.ret _ _ _ c0, tF, .ret _ _ _ c1, .flat _ _ flat_Flags]
 cases c
 ·cases z
  ·cases s
   ·cases o
    ·exact (o141 (d := .tup [.bool false, .int .i64 20]) (E1 ++ [tF, tF, tF, tT, tT]) (by kernel_rfl)).to (by clear E1; simp [wk, wkL])
    exact (o141 (d := .tup [.bool false, .int .i64 20]) (E1 ++ [tT, tT, tT, tF, tT]) (by kernel_rfl)).to (by clear E1; simp [wk, wkL])
   exact (o141 (d := .tup [.bool false, .int .i64 20]) (E1 ++ [tT, tT, tT, tF, tT]) (by kernel_rfl)).to (by clear E1; simp [wk, wkL])
  exact (o141 (d := .tup [.bool false, .int .i64 20]) (E1 ++ [tT, tT, tT, tF, tT]) (by kernel_rfl)).to (by clear E1; simp [wk, wkL])
 exact (o141 (d := .tup [.bool false, .int .i64 20]) (E1 ++ [tT, tT, tT, tF, tT]) (by kernel_rfl)).to (by clear E1; simp [wk, wkL])
theorem cc_cases {cc : Int} (h : ccM cc = true) : cc = 2 ∨ cc = 3 ∨ cc = 4 ∨ cc = 5 ∨ cc = 6 ∨ cc = 7 ∨ cc = 12 ∨ cc = 13 ∨ cc = 14 ∨ cc = 15 := by
 simp only [ccM, decide_eq_true_eq] at h; omega
theorem fholds_t_ok (cc : Int) (c z s o : Bool) (h : ccM cc = true) : Ret Tryz.prog 141 [.int .i8 cc, fD true c z s o] (.tup [.bool (holdM cc c z s o), .int .i64 0]) := by
 rcases cc_cases h with rfl | rfl | rfl | rfl | rfl | rfl | rfl | rfl | rfl | rfl
 ·exact fholds_2_ok c z s o
 ·exact fholds_3_ok c z s o
 ·exact fholds_4_ok c z s o
 ·exact fholds_5_ok c z s o
 ·exact fholds_6_ok c z s o
 ·exact fholds_7_ok c z s o
 ·exact fholds_12_ok c z s o
 ·exact fholds_13_ok c z s o
 ·exact fholds_14_ok c z s o
 ·exact fholds_15_ok c z s o
theorem fholds_f_ok (cc : Int) (c z s o : Bool) (h : ccM cc = true) : Ret Tryz.prog 141 [.int .i8 cc, fD false c z s o] (.tup [.bool false, .int .i64 20]) := by
 rcases cc_cases h with rfl | rfl | rfl | rfl | rfl | rfl | rfl | rfl | rfl | rfl
 ·exact fholds_n2_ok c z s o
 ·exact fholds_n3_ok c z s o
 ·exact fholds_n4_ok c z s o
 ·exact fholds_n5_ok c z s o
 ·exact fholds_n6_ok c z s o
 ·exact fholds_n7_ok c z s o
 ·exact fholds_n12_ok c z s o
 ·exact fholds_n13_ok c z s o
 ·exact fholds_n14_ok c z s o
 ·exact fholds_n15_ok c z s o
theorem exec_24_ok (q0 q1 q2 q3 q4 q5 q6 q7 q8 q9 q10 q11 q12 q13 q14 q15 at' : Int) (fk fc fz fs fo : Bool) (w dst src base disp imm cc ld : Int) (d0 : 0 ≤ dst) (d1 : dst ≤ 15) (s0 : 0 ≤ src) (s1 : src ≤ 15) (b0 : 0 ≤ base) (b1 : base ≤ 15) (hm : mayX 24 w dst src base disp imm cc = true) (hd : (cutM (rg [q0, q1, q2, q3, q4, q5, q6, q7, q8, q9, q10, q11, q12, q13, q14, q15] dst) w == 0) = false) (hz : (cutM q2 w == 0) = true) : Ret Tryz.prog 55 ([.agg [.int .u64 q0, .int .u64 q1, .int .u64 q2, .int .u64 q3, .int .u64 q4, .int .u64 q5, .int .u64 q6, .int .u64 q7, .int .u64 q8, .int .u64 q9, .int .u64 q10, .int .u64 q11, .int .u64 q12, .int .u64 q13, .int .u64 q14, .int .u64 q15, .bool fk, .bool fc, .bool fz, .bool fs, .bool fo, .int .u64 (at')], xD 24 w dst src base disp imm cc, .int .u64 ld]) (.tup [.agg [.int .u64 (u64 ((cutM q0 w).tdiv (cutM (rg [q0, q1, q2, q3, q4, q5, q6, q7, q8, q9, q10, q11, q12, q13, q14, q15] dst) w))), .int .u64 q1, .int .u64 ((cutM q0 w).tmod (cutM (rg [q0, q1, q2, q3, q4, q5, q6, q7, q8, q9, q10, q11, q12, q13, q14, q15] dst) w)), .int .u64 q3, .int .u64 q4, .int .u64 q5, .int .u64 q6, .int .u64 q7, .int .u64 q8, .int .u64 q9, .int .u64 q10, .int .u64 q11, .int .u64 q12, .int .u64 q13, .int .u64 q14, .int .u64 q15, .bool false, .bool false, .bool false, .bool false, .bool false, .int .u64 (u64 (at' + u64 (lenX 24 w dst src base disp imm cc)))], .int .i64 0]) := by
 have c0 := @mayX_ok 24 w dst src base disp imm cc (by decide)
 rw [show (mayX 24 w dst src base disp imm cc) = true from hm] at c0
 have c1 := @xlen_ok 24 w dst src base disp imm cc (by decide)
 have c2 := @cut_ok q0 w
 have c3 := @cut_ok (rg [q0, q1, q2, q3, q4, q5, q6, q7, q8, q9, q10, q11, q12, q13, q14, q15] dst) w
 have c4 := @cut_ok q2 w
 have c5 := @fnone_ok
 exact (o55 (d := .tup [.agg [.int .u64 (IntKind.wrap IntKind.u64 (Int.tdiv (cutM q0 w) (cutM (rg [q0, q1, q2, q3, q4, q5, q6, q7, q8, q9, q10, q11, q12, q13, q14, q15] dst) w))), .int .u64 q1, .int .u64 (Int.tmod (cutM q0 w) (cutM (rg [q0, q1, q2, q3, q4, q5, q6, q7, q8, q9, q10, q11, q12, q13, q14, q15] dst) w)), .int .u64 q3, .int .u64 q4, .int .u64 q5, .int .u64 q6, .int .u64 q7, .int .u64 q8, .int .u64 q9, .int .u64 q10, .int .u64 q11, .int .u64 q12, .int .u64 q13, .int .u64 q14, .int .u64 q15, .bool false, .bool false, .bool false, .bool false, .bool false, .int .u64 (IntKind.wrap IntKind.u64 (at' + IntKind.wrap IntKind.u64 (lenX 24 w dst src base disp imm cc)))], .int .i64 0]) ([.ret _ _ _ c0, tF, .ret _ _ _ c1, tT, .get ([D.fn (Fn.func 74) [.ptr false 4 0] [], D.fn (Fn.func 75) [.ptr false 4 0] [], D.nilf, D.nilf, D.nilf, D.nilf, D.nilf, D.nilf, D.nilf, D.nilf, D.nilf, D.nilf, D.nilf, D.nilf, D.nilf, D.nilf, D.nilf, D.nilf, D.nilf, D.nilf, D.nilf, D.nilf, D.nilf, D.nilf, D.fn (Fn.func 76) [.ptr false 4 0] [], D.fn (Fn.func 77) [.ptr false 4 0] [], D.fn (Fn.func 78) [.ptr false 4 0] [], D.fn (Fn.func 79) [.ptr false 4 0] [], D.fn (Fn.func 80) [.ptr false 4 0] [], D.fn (Fn.func 81) [.ptr false 4 0] [], D.fn (Fn.func 82) [.ptr false 4 0] [], D.fn (Fn.func 83) [.ptr false 4 0] []]) 24 (D.fn (Fn.func 76) [.ptr false 4 0] []) rfl, tF, .inl, .ret _ _ _ c2, .tst (decide (0 ≤ dst ∧ dst < (↑(16 : Nat) : Int))) true (by (simp only [sl2] at *; omega)), .get _ _ _ (@get_reg q0 q1 q2 q3 q4 q5 q6 q7 q8 q9 q10 q11 q12 q13 q14 q15 dst ([.bool fk, .bool fc, .bool fz, .bool fs, .bool fo, .int .u64 (IntKind.wrap IntKind.u64 (at' + IntKind.wrap IntKind.u64 (lenX 24 w dst src base disp imm cc))), .int .i8 24, .int .i8 w, .int .i8 dst, .int .i8 src, .int .i8 base, .int .i64 disp, .int .i64 imm, .int .i8 cc, .int .u64 ld]) d0 d1), .ret _ _ _ c3] ++ List.replicate 8 (tC (eF hd)) ++ [.ret _ _ _ c4, tC (eF hd), tC hd, tC (nt (eqI 0 true (eq_of_beq hz))), tC (v := true) (neD hd), tC (v := true) (neD hd), .ret _ _ _ c5, tF]) (by kernel_rfl)).to (by first | ((simp only [wk, wkL, and_true]; repeat' (first | rfl | exact True.intro | apply And.intro)); done) | (simp [wk, wkL, u64, ]; done))
theorem exec_24f_ok (q0 q1 q2 q3 q4 q5 q6 q7 q8 q9 q10 q11 q12 q13 q14 q15 at' : Int) (fk fc fz fs fo : Bool) (w dst src base disp imm cc ld : Int) (d0 : 0 ≤ dst) (d1 : dst ≤ 15) (s0 : 0 ≤ src) (s1 : src ≤ 15) (b0 : 0 ≤ base) (b1 : base ≤ 15) (hm : mayX 24 w dst src base disp imm cc = true) (hd : (cutM (rg [q0, q1, q2, q3, q4, q5, q6, q7, q8, q9, q10, q11, q12, q13, q14, q15] dst) w == 0) = true) : Ret Tryz.prog 55 ([.agg [.int .u64 q0, .int .u64 q1, .int .u64 q2, .int .u64 q3, .int .u64 q4, .int .u64 q5, .int .u64 q6, .int .u64 q7, .int .u64 q8, .int .u64 q9, .int .u64 q10, .int .u64 q11, .int .u64 q12, .int .u64 q13, .int .u64 q14, .int .u64 q15, .bool fk, .bool fc, .bool fz, .bool fs, .bool fo, .int .u64 (at')], xD 24 w dst src base disp imm cc, .int .u64 ld]) (.tup [.agg [.int .u64 (0), .int .u64 (0), .int .u64 (0), .int .u64 (0), .int .u64 (0), .int .u64 (0), .int .u64 (0), .int .u64 (0), .int .u64 (0), .int .u64 (0), .int .u64 (0), .int .u64 (0), .int .u64 (0), .int .u64 (0), .int .u64 (0), .int .u64 (0), .bool false, .bool false, .bool false, .bool false, .bool false, .int .u64 (0)], .int .i64 20]) := by
 have c0 := @mayX_ok 24 w dst src base disp imm cc (by decide)
 rw [show (mayX 24 w dst src base disp imm cc) = true from hm] at c0
 have c1 := @xlen_ok 24 w dst src base disp imm cc (by decide)
 have c2 := @cut_ok q0 w
 have c3 := @cut_ok (rg [q0, q1, q2, q3, q4, q5, q6, q7, q8, q9, q10, q11, q12, q13, q14, q15] dst) w
 exact (o55 (d := .tup [.agg [.int .u64 0, .int .u64 0, .int .u64 0, .int .u64 0, .int .u64 0, .int .u64 0, .int .u64 0, .int .u64 0, .int .u64 0, .int .u64 0, .int .u64 0, .int .u64 0, .int .u64 0, .int .u64 0, .int .u64 0, .int .u64 0, .bool false, .bool false, .bool false, .bool false, .bool false, .int .u64 0], .int .i64 20]) ([.ret _ _ _ c0, tF, .ret _ _ _ c1, tT, .get ([D.fn (Fn.func 74) [.ptr false 4 0] [], D.fn (Fn.func 75) [.ptr false 4 0] [], D.nilf, D.nilf, D.nilf, D.nilf, D.nilf, D.nilf, D.nilf, D.nilf, D.nilf, D.nilf, D.nilf, D.nilf, D.nilf, D.nilf, D.nilf, D.nilf, D.nilf, D.nilf, D.nilf, D.nilf, D.nilf, D.nilf, D.fn (Fn.func 76) [.ptr false 4 0] [], D.fn (Fn.func 77) [.ptr false 4 0] [], D.fn (Fn.func 78) [.ptr false 4 0] [], D.fn (Fn.func 79) [.ptr false 4 0] [], D.fn (Fn.func 80) [.ptr false 4 0] [], D.fn (Fn.func 81) [.ptr false 4 0] [], D.fn (Fn.func 82) [.ptr false 4 0] [], D.fn (Fn.func 83) [.ptr false 4 0] []]) 24 (D.fn (Fn.func 76) [.ptr false 4 0] []) rfl, tF, .inl, .ret _ _ _ c2, .tst (decide (0 ≤ dst ∧ dst < (↑(16 : Nat) : Int))) true (by (simp only [sl2] at *; omega)), .get _ _ _ (@get_reg q0 q1 q2 q3 q4 q5 q6 q7 q8 q9 q10 q11 q12 q13 q14 q15 dst ([.bool fk, .bool fc, .bool fz, .bool fs, .bool fo, .int .u64 (IntKind.wrap IntKind.u64 (at' + IntKind.wrap IntKind.u64 (lenX 24 w dst src base disp imm cc))), .int .i8 24, .int .i8 w, .int .i8 dst, .int .i8 src, .int .i8 base, .int .i64 disp, .int .i64 imm, .int .i8 cc, .int .u64 ld]) d0 d1), .ret _ _ _ c3] ++ List.replicate 9 (tC (eF (eqI 0 true (eq_of_beq hd)))) ++ [tC (eqI 0 true (eq_of_beq hd)), tT, tT]) (by kernel_rfl)).to (by first | ((simp only [wk, wkL, and_true]; repeat' (first | rfl | exact True.intro | apply And.intro)); done) | (simp [wk, wkL, u64, ]; done))
theorem exec_24g_ok (q0 q1 q2 q3 q4 q5 q6 q7 q8 q9 q10 q11 q12 q13 q14 q15 at' : Int) (fk fc fz fs fo : Bool) (w dst src base disp imm cc ld : Int) (d0 : 0 ≤ dst) (d1 : dst ≤ 15) (s0 : 0 ≤ src) (s1 : src ≤ 15) (b0 : 0 ≤ base) (b1 : base ≤ 15) (hm : mayX 24 w dst src base disp imm cc = true) (hd : (cutM (rg [q0, q1, q2, q3, q4, q5, q6, q7, q8, q9, q10, q11, q12, q13, q14, q15] dst) w == 0) = false) (hz : (cutM q2 w == 0) = false) : Ret Tryz.prog 55 ([.agg [.int .u64 q0, .int .u64 q1, .int .u64 q2, .int .u64 q3, .int .u64 q4, .int .u64 q5, .int .u64 q6, .int .u64 q7, .int .u64 q8, .int .u64 q9, .int .u64 q10, .int .u64 q11, .int .u64 q12, .int .u64 q13, .int .u64 q14, .int .u64 q15, .bool fk, .bool fc, .bool fz, .bool fs, .bool fo, .int .u64 (at')], xD 24 w dst src base disp imm cc, .int .u64 ld]) (.tup [.agg [.int .u64 (0), .int .u64 (0), .int .u64 (0), .int .u64 (0), .int .u64 (0), .int .u64 (0), .int .u64 (0), .int .u64 (0), .int .u64 (0), .int .u64 (0), .int .u64 (0), .int .u64 (0), .int .u64 (0), .int .u64 (0), .int .u64 (0), .int .u64 (0), .bool false, .bool false, .bool false, .bool false, .bool false, .int .u64 (0)], .int .i64 20]) := by
 have c0 := @mayX_ok 24 w dst src base disp imm cc (by decide)
 rw [show (mayX 24 w dst src base disp imm cc) = true from hm] at c0
 have c1 := @xlen_ok 24 w dst src base disp imm cc (by decide)
 have c2 := @cut_ok q0 w
 have c3 := @cut_ok (rg [q0, q1, q2, q3, q4, q5, q6, q7, q8, q9, q10, q11, q12, q13, q14, q15] dst) w
 have c4 := @cut_ok q2 w
 exact (o55 (d := .tup [.agg [.int .u64 0, .int .u64 0, .int .u64 0, .int .u64 0, .int .u64 0, .int .u64 0, .int .u64 0, .int .u64 0, .int .u64 0, .int .u64 0, .int .u64 0, .int .u64 0, .int .u64 0, .int .u64 0, .int .u64 0, .int .u64 0, .bool false, .bool false, .bool false, .bool false, .bool false, .int .u64 0], .int .i64 20]) ([.ret _ _ _ c0, tF, .ret _ _ _ c1, tT, .get ([D.fn (Fn.func 74) [.ptr false 4 0] [], D.fn (Fn.func 75) [.ptr false 4 0] [], D.nilf, D.nilf, D.nilf, D.nilf, D.nilf, D.nilf, D.nilf, D.nilf, D.nilf, D.nilf, D.nilf, D.nilf, D.nilf, D.nilf, D.nilf, D.nilf, D.nilf, D.nilf, D.nilf, D.nilf, D.nilf, D.nilf, D.fn (Fn.func 76) [.ptr false 4 0] [], D.fn (Fn.func 77) [.ptr false 4 0] [], D.fn (Fn.func 78) [.ptr false 4 0] [], D.fn (Fn.func 79) [.ptr false 4 0] [], D.fn (Fn.func 80) [.ptr false 4 0] [], D.fn (Fn.func 81) [.ptr false 4 0] [], D.fn (Fn.func 82) [.ptr false 4 0] [], D.fn (Fn.func 83) [.ptr false 4 0] []]) 24 (D.fn (Fn.func 76) [.ptr false 4 0] []) rfl, tF, .inl, .ret _ _ _ c2, .tst (decide (0 ≤ dst ∧ dst < (↑(16 : Nat) : Int))) true (by (simp only [sl2] at *; omega)), .get _ _ _ (@get_reg q0 q1 q2 q3 q4 q5 q6 q7 q8 q9 q10 q11 q12 q13 q14 q15 dst ([.bool fk, .bool fc, .bool fz, .bool fs, .bool fo, .int .u64 (IntKind.wrap IntKind.u64 (at' + IntKind.wrap IntKind.u64 (lenX 24 w dst src base disp imm cc))), .int .i8 24, .int .i8 w, .int .i8 dst, .int .i8 src, .int .i8 base, .int .i64 disp, .int .i64 imm, .int .i8 cc, .int .u64 ld]) d0 d1), .ret _ _ _ c3] ++ List.replicate 8 (tC (eF hd)) ++ [.ret _ _ _ c4, tC (eF hd), tC hd, tC (nt hz), tT]) (by kernel_rfl)).to (by first | ((simp only [wk, wkL, and_true]; repeat' (first | rfl | exact True.intro | apply And.intro)); done) | (simp [wk, wkL, u64, ]; done))
theorem exec_25_ok (q0 q1 q2 q3 q4 q5 q6 q7 q8 q9 q10 q11 q12 q13 q14 q15 at' : Int) (fc fz fs fo : Bool) (w dst src base disp imm cc ld : Int) (d0 : 0 ≤ dst) (d1 : dst ≤ 15) (s0 : 0 ≤ src) (s1 : src ≤ 15) (b0 : 0 ≤ base) (b1 : base ≤ 15) (hm : mayX 25 w dst src base disp imm cc = true) (hcc : ccM cc = true) : Ret Tryz.prog 55 ([.agg [.int .u64 q0, .int .u64 q1, .int .u64 q2, .int .u64 q3, .int .u64 q4, .int .u64 q5, .int .u64 q6, .int .u64 q7, .int .u64 q8, .int .u64 q9, .int .u64 q10, .int .u64 q11, .int .u64 q12, .int .u64 q13, .int .u64 q14, .int .u64 q15, .bool true, .bool fc, .bool fz, .bool fs, .bool fo, .int .u64 (at')], xD 25 w dst src base disp imm cc, .int .u64 ld]) (.tup [.agg [.int .u64 (st 0 dst (cutM (if holdM cc fc fz fs fo then rg [q0, q1, q2, q3, q4, q5, q6, q7, q8, q9, q10, q11, q12, q13, q14, q15] src else rg [q0, q1, q2, q3, q4, q5, q6, q7, q8, q9, q10, q11, q12, q13, q14, q15] dst) w) q0), .int .u64 (st 1 dst (cutM (if holdM cc fc fz fs fo then rg [q0, q1, q2, q3, q4, q5, q6, q7, q8, q9, q10, q11, q12, q13, q14, q15] src else rg [q0, q1, q2, q3, q4, q5, q6, q7, q8, q9, q10, q11, q12, q13, q14, q15] dst) w) q1), .int .u64 (st 2 dst (cutM (if holdM cc fc fz fs fo then rg [q0, q1, q2, q3, q4, q5, q6, q7, q8, q9, q10, q11, q12, q13, q14, q15] src else rg [q0, q1, q2, q3, q4, q5, q6, q7, q8, q9, q10, q11, q12, q13, q14, q15] dst) w) q2), .int .u64 (st 3 dst (cutM (if holdM cc fc fz fs fo then rg [q0, q1, q2, q3, q4, q5, q6, q7, q8, q9, q10, q11, q12, q13, q14, q15] src else rg [q0, q1, q2, q3, q4, q5, q6, q7, q8, q9, q10, q11, q12, q13, q14, q15] dst) w) q3), .int .u64 (st 4 dst (cutM (if holdM cc fc fz fs fo then rg [q0, q1, q2, q3, q4, q5, q6, q7, q8, q9, q10, q11, q12, q13, q14, q15] src else rg [q0, q1, q2, q3, q4, q5, q6, q7, q8, q9, q10, q11, q12, q13, q14, q15] dst) w) q4), .int .u64 (st 5 dst (cutM (if holdM cc fc fz fs fo then rg [q0, q1, q2, q3, q4, q5, q6, q7, q8, q9, q10, q11, q12, q13, q14, q15] src else rg [q0, q1, q2, q3, q4, q5, q6, q7, q8, q9, q10, q11, q12, q13, q14, q15] dst) w) q5), .int .u64 (st 6 dst (cutM (if holdM cc fc fz fs fo then rg [q0, q1, q2, q3, q4, q5, q6, q7, q8, q9, q10, q11, q12, q13, q14, q15] src else rg [q0, q1, q2, q3, q4, q5, q6, q7, q8, q9, q10, q11, q12, q13, q14, q15] dst) w) q6), .int .u64 (st 7 dst (cutM (if holdM cc fc fz fs fo then rg [q0, q1, q2, q3, q4, q5, q6, q7, q8, q9, q10, q11, q12, q13, q14, q15] src else rg [q0, q1, q2, q3, q4, q5, q6, q7, q8, q9, q10, q11, q12, q13, q14, q15] dst) w) q7), .int .u64 (st 8 dst (cutM (if holdM cc fc fz fs fo then rg [q0, q1, q2, q3, q4, q5, q6, q7, q8, q9, q10, q11, q12, q13, q14, q15] src else rg [q0, q1, q2, q3, q4, q5, q6, q7, q8, q9, q10, q11, q12, q13, q14, q15] dst) w) q8), .int .u64 (st 9 dst (cutM (if holdM cc fc fz fs fo then rg [q0, q1, q2, q3, q4, q5, q6, q7, q8, q9, q10, q11, q12, q13, q14, q15] src else rg [q0, q1, q2, q3, q4, q5, q6, q7, q8, q9, q10, q11, q12, q13, q14, q15] dst) w) q9), .int .u64 (st 10 dst (cutM (if holdM cc fc fz fs fo then rg [q0, q1, q2, q3, q4, q5, q6, q7, q8, q9, q10, q11, q12, q13, q14, q15] src else rg [q0, q1, q2, q3, q4, q5, q6, q7, q8, q9, q10, q11, q12, q13, q14, q15] dst) w) q10), .int .u64 (st 11 dst (cutM (if holdM cc fc fz fs fo then rg [q0, q1, q2, q3, q4, q5, q6, q7, q8, q9, q10, q11, q12, q13, q14, q15] src else rg [q0, q1, q2, q3, q4, q5, q6, q7, q8, q9, q10, q11, q12, q13, q14, q15] dst) w) q11), .int .u64 (st 12 dst (cutM (if holdM cc fc fz fs fo then rg [q0, q1, q2, q3, q4, q5, q6, q7, q8, q9, q10, q11, q12, q13, q14, q15] src else rg [q0, q1, q2, q3, q4, q5, q6, q7, q8, q9, q10, q11, q12, q13, q14, q15] dst) w) q12), .int .u64 (st 13 dst (cutM (if holdM cc fc fz fs fo then rg [q0, q1, q2, q3, q4, q5, q6, q7, q8, q9, q10, q11, q12, q13, q14, q15] src else rg [q0, q1, q2, q3, q4, q5, q6, q7, q8, q9, q10, q11, q12, q13, q14, q15] dst) w) q13), .int .u64 (st 14 dst (cutM (if holdM cc fc fz fs fo then rg [q0, q1, q2, q3, q4, q5, q6, q7, q8, q9, q10, q11, q12, q13, q14, q15] src else rg [q0, q1, q2, q3, q4, q5, q6, q7, q8, q9, q10, q11, q12, q13, q14, q15] dst) w) q14), .int .u64 (st 15 dst (cutM (if holdM cc fc fz fs fo then rg [q0, q1, q2, q3, q4, q5, q6, q7, q8, q9, q10, q11, q12, q13, q14, q15] src else rg [q0, q1, q2, q3, q4, q5, q6, q7, q8, q9, q10, q11, q12, q13, q14, q15] dst) w) q15), .bool true, .bool fc, .bool fz, .bool fs, .bool fo, .int .u64 (u64 (at' + u64 (lenX 25 w dst src base disp imm cc)))], .int .i64 0]) := by
 have c0 := @mayX_ok 25 w dst src base disp imm cc (by decide)
 rw [show (mayX 25 w dst src base disp imm cc) = true from hm] at c0
 have c1 := @xlen_ok 25 w dst src base disp imm cc (by decide)
 have c2 := @fholds_t_ok cc fc fz fs fo hcc
 let E1 : EL := [.ret _ _ _ c0, tF, .ret _ _ _ c1, tT, .get ([D.fn (Fn.func 74) [.ptr false 4 0] [], D.fn (Fn.func 75) [.ptr false 4 0] [], D.nilf, D.nilf, D.nilf, D.nilf, D.nilf, D.nilf, D.nilf, D.nilf, D.nilf, D.nilf, D.nilf, D.nilf, D.nilf, D.nilf, D.nilf, D.nilf, D.nilf, D.nilf, D.nilf, D.nilf, D.nilf, D.nilf, D.fn (Fn.func 76) [.ptr false 4 0] [], D.fn (Fn.func 77) [.ptr false 4 0] [], D.fn (Fn.func 78) [.ptr false 4 0] [], D.fn (Fn.func 79) [.ptr false 4 0] [], D.fn (Fn.func 80) [.ptr false 4 0] [], D.fn (Fn.func 81) [.ptr false 4 0] [], D.fn (Fn.func 82) [.ptr false 4 0] [], D.fn (Fn.func 83) [.ptr false 4 0] []]) 25 (D.fn (Fn.func 77) [.ptr false 4 0] []) rfl, tF, .inl, .inl, .ret _ _ _ c2, tF]
 rcases bft (holdM cc fc fz fs fo) with h3 | h3
 ·have c4 := @cut_ok (rg [q0, q1, q2, q3, q4, q5, q6, q7, q8, q9, q10, q11, q12, q13, q14, q15] src) w
  exact (o55 (d := .tup [.agg [.int .u64 (st 0 dst (cutM (rg [q0, q1, q2, q3, q4, q5, q6, q7, q8, q9, q10, q11, q12, q13, q14, q15] src) w) q0), .int .u64 (st 1 dst (cutM (rg [q0, q1, q2, q3, q4, q5, q6, q7, q8, q9, q10, q11, q12, q13, q14, q15] src) w) q1), .int .u64 (st 2 dst (cutM (rg [q0, q1, q2, q3, q4, q5, q6, q7, q8, q9, q10, q11, q12, q13, q14, q15] src) w) q2), .int .u64 (st 3 dst (cutM (rg [q0, q1, q2, q3, q4, q5, q6, q7, q8, q9, q10, q11, q12, q13, q14, q15] src) w) q3), .int .u64 (st 4 dst (cutM (rg [q0, q1, q2, q3, q4, q5, q6, q7, q8, q9, q10, q11, q12, q13, q14, q15] src) w) q4), .int .u64 (st 5 dst (cutM (rg [q0, q1, q2, q3, q4, q5, q6, q7, q8, q9, q10, q11, q12, q13, q14, q15] src) w) q5), .int .u64 (st 6 dst (cutM (rg [q0, q1, q2, q3, q4, q5, q6, q7, q8, q9, q10, q11, q12, q13, q14, q15] src) w) q6), .int .u64 (st 7 dst (cutM (rg [q0, q1, q2, q3, q4, q5, q6, q7, q8, q9, q10, q11, q12, q13, q14, q15] src) w) q7), .int .u64 (st 8 dst (cutM (rg [q0, q1, q2, q3, q4, q5, q6, q7, q8, q9, q10, q11, q12, q13, q14, q15] src) w) q8), .int .u64 (st 9 dst (cutM (rg [q0, q1, q2, q3, q4, q5, q6, q7, q8, q9, q10, q11, q12, q13, q14, q15] src) w) q9), .int .u64 (st 10 dst (cutM (rg [q0, q1, q2, q3, q4, q5, q6, q7, q8, q9, q10, q11, q12, q13, q14, q15] src) w) q10), .int .u64 (st 11 dst (cutM (rg [q0, q1, q2, q3, q4, q5, q6, q7, q8, q9, q10, q11, q12, q13, q14, q15] src) w) q11), .int .u64 (st 12 dst (cutM (rg [q0, q1, q2, q3, q4, q5, q6, q7, q8, q9, q10, q11, q12, q13, q14, q15] src) w) q12), .int .u64 (st 13 dst (cutM (rg [q0, q1, q2, q3, q4, q5, q6, q7, q8, q9, q10, q11, q12, q13, q14, q15] src) w) q13), .int .u64 (st 14 dst (cutM (rg [q0, q1, q2, q3, q4, q5, q6, q7, q8, q9, q10, q11, q12, q13, q14, q15] src) w) q14), .int .u64 (st 15 dst (cutM (rg [q0, q1, q2, q3, q4, q5, q6, q7, q8, q9, q10, q11, q12, q13, q14, q15] src) w) q15), .bool true, .bool fc, .bool fz, .bool fs, .bool fo, .int .u64 (IntKind.wrap IntKind.u64 (at' + IntKind.wrap IntKind.u64 (lenX 25 w dst src base disp imm cc)))], .int .i64 0]) (E1 ++ [tC h3, .inl, .tst (decide (0 ≤ src ∧ src < (↑(16 : Nat) : Int))) true (by (simp only [sl2] at *; omega)), .get _ _ _ (@get_reg q0 q1 q2 q3 q4 q5 q6 q7 q8 q9 q10 q11 q12 q13 q14 q15 src ([.bool true, .bool fc, .bool fz, .bool fs, .bool fo, .int .u64 (IntKind.wrap IntKind.u64 (at' + IntKind.wrap IntKind.u64 (lenX 25 w dst src base disp imm cc))), .int .i8 25, .int .i8 w, .int .i8 dst, .int .i8 src, .int .i8 base, .int .i64 disp, .int .i64 imm, .int .i8 cc, .int .u64 ld]) s0 s1), .inl, .ret _ _ _ c4, .tst (decide (0 ≤ dst ∧ dst < (↑(16 : Nat) : Int))) true (by (simp only [sl2] at *; omega)), .putA _ _ _ _ (@put_reg q0 q1 q2 q3 q4 q5 q6 q7 q8 q9 q10 q11 q12 q13 q14 q15 dst (cutM (rg [q0, q1, q2, q3, q4, q5, q6, q7, q8, q9, q10, q11, q12, q13, q14, q15] src) w) ([.bool true, .bool fc, .bool fz, .bool fs, .bool fo, .int .u64 (IntKind.wrap IntKind.u64 (at' + IntKind.wrap IntKind.u64 (lenX 25 w dst src base disp imm cc))), .int .i8 25, .int .i8 w, .int .i8 dst, .int .i8 src, .int .i8 base, .int .i64 disp, .int .i64 imm, .int .i8 cc, .int .u64 ld]) d0 d1), tF]) (by kernel_rfl)).to (by clear E1; first | ((simp only [wk, wkL, and_true]; repeat' (first | rfl | exact True.intro | apply And.intro)); done) | (simp [wk, wkL, u64, h3]; done))
 have c5 := @cut_ok (rg [q0, q1, q2, q3, q4, q5, q6, q7, q8, q9, q10, q11, q12, q13, q14, q15] dst) w
 exact (o55 (d := .tup [.agg [.int .u64 (st 0 dst (cutM (rg [q0, q1, q2, q3, q4, q5, q6, q7, q8, q9, q10, q11, q12, q13, q14, q15] dst) w) q0), .int .u64 (st 1 dst (cutM (rg [q0, q1, q2, q3, q4, q5, q6, q7, q8, q9, q10, q11, q12, q13, q14, q15] dst) w) q1), .int .u64 (st 2 dst (cutM (rg [q0, q1, q2, q3, q4, q5, q6, q7, q8, q9, q10, q11, q12, q13, q14, q15] dst) w) q2), .int .u64 (st 3 dst (cutM (rg [q0, q1, q2, q3, q4, q5, q6, q7, q8, q9, q10, q11, q12, q13, q14, q15] dst) w) q3), .int .u64 (st 4 dst (cutM (rg [q0, q1, q2, q3, q4, q5, q6, q7, q8, q9, q10, q11, q12, q13, q14, q15] dst) w) q4), .int .u64 (st 5 dst (cutM (rg [q0, q1, q2, q3, q4, q5, q6, q7, q8, q9, q10, q11, q12, q13, q14, q15] dst) w) q5), .int .u64 (st 6 dst (cutM (rg [q0, q1, q2, q3, q4, q5, q6, q7, q8, q9, q10, q11, q12, q13, q14, q15] dst) w) q6), .int .u64 (st 7 dst (cutM (rg [q0, q1, q2, q3, q4, q5, q6, q7, q8, q9, q10, q11, q12, q13, q14, q15] dst) w) q7), .int .u64 (st 8 dst (cutM (rg [q0, q1, q2, q3, q4, q5, q6, q7, q8, q9, q10, q11, q12, q13, q14, q15] dst) w) q8), .int .u64 (st 9 dst (cutM (rg [q0, q1, q2, q3, q4, q5, q6, q7, q8, q9, q10, q11, q12, q13, q14, q15] dst) w) q9), .int .u64 (st 10 dst (cutM (rg [q0, q1, q2, q3, q4, q5, q6, q7, q8, q9, q10, q11, q12, q13, q14, q15] dst) w) q10), .int .u64 (st 11 dst (cutM (rg [q0, q1, q2, q3, q4, q5, q6, q7, q8, q9, q10, q11, q12, q13, q14, q15] dst) w) q11), .int .u64 (st 12 dst (cutM (rg [q0, q1, q2, q3, q4, q5, q6, q7, q8, q9, q10, q11, q12, q13, q14, q15] dst) w) q12), .int .u64 (st 13 dst (cutM (rg [q0, q1, q2, q3, q4, q5, q6, q7, q8, q9, q10, q11, q12, q13, q14, q15] dst) w) q13), .int .u64 (st 14 dst (cutM (rg [q0, q1, q2, q3, q4, q5, q6, q7, q8, q9, q10, q11, q12, q13, q14, q15] dst) w) q14), .int .u64 (st 15 dst (cutM (rg [q0, q1, q2, q3, q4, q5, q6, q7, q8, q9, q10, q11, q12, q13, q14, q15] dst) w) q15), .bool true, .bool fc, .bool fz, .bool fs, .bool fo, .int .u64 (IntKind.wrap IntKind.u64 (at' + IntKind.wrap IntKind.u64 (lenX 25 w dst src base disp imm cc)))], .int .i64 0]) (E1 ++ [tC h3, .tst (decide (0 ≤ dst ∧ dst < (↑(16 : Nat) : Int))) true (by (simp only [sl2] at *; omega)), .get _ _ _ (@get_reg q0 q1 q2 q3 q4 q5 q6 q7 q8 q9 q10 q11 q12 q13 q14 q15 dst ([.bool true, .bool fc, .bool fz, .bool fs, .bool fo, .int .u64 (IntKind.wrap IntKind.u64 (at' + IntKind.wrap IntKind.u64 (lenX 25 w dst src base disp imm cc))), .int .i8 25, .int .i8 w, .int .i8 dst, .int .i8 src, .int .i8 base, .int .i64 disp, .int .i64 imm, .int .i8 cc, .int .u64 ld]) d0 d1), .inl, .ret _ _ _ c5, .tst (decide (0 ≤ dst ∧ dst < (↑(16 : Nat) : Int))) true (by (simp only [sl2] at *; omega)), .putA _ _ _ _ (@put_reg q0 q1 q2 q3 q4 q5 q6 q7 q8 q9 q10 q11 q12 q13 q14 q15 dst (cutM (rg [q0, q1, q2, q3, q4, q5, q6, q7, q8, q9, q10, q11, q12, q13, q14, q15] dst) w) ([.bool true, .bool fc, .bool fz, .bool fs, .bool fo, .int .u64 (IntKind.wrap IntKind.u64 (at' + IntKind.wrap IntKind.u64 (lenX 25 w dst src base disp imm cc))), .int .i8 25, .int .i8 w, .int .i8 dst, .int .i8 src, .int .i8 base, .int .i64 disp, .int .i64 imm, .int .i8 cc, .int .u64 ld]) d0 d1), tF]) (by kernel_rfl)).to (by clear E1; first | ((simp only [wk, wkL, and_true]; repeat' (first | rfl | exact True.intro | apply And.intro)); done) | (simp [wk, wkL, u64, h3]; done))
theorem exec_25f_ok (q0 q1 q2 q3 q4 q5 q6 q7 q8 q9 q10 q11 q12 q13 q14 q15 at' : Int) (fc fz fs fo : Bool) (w dst src base disp imm cc ld : Int) (d0 : 0 ≤ dst) (d1 : dst ≤ 15) (s0 : 0 ≤ src) (s1 : src ≤ 15) (b0 : 0 ≤ base) (b1 : base ≤ 15) (hm : mayX 25 w dst src base disp imm cc = true) (hcc : ccM cc = true) : Ret Tryz.prog 55 ([.agg [.int .u64 q0, .int .u64 q1, .int .u64 q2, .int .u64 q3, .int .u64 q4, .int .u64 q5, .int .u64 q6, .int .u64 q7, .int .u64 q8, .int .u64 q9, .int .u64 q10, .int .u64 q11, .int .u64 q12, .int .u64 q13, .int .u64 q14, .int .u64 q15, .bool false, .bool fc, .bool fz, .bool fs, .bool fo, .int .u64 (at')], xD 25 w dst src base disp imm cc, .int .u64 ld]) (.tup [.agg [.int .u64 (0), .int .u64 (0), .int .u64 (0), .int .u64 (0), .int .u64 (0), .int .u64 (0), .int .u64 (0), .int .u64 (0), .int .u64 (0), .int .u64 (0), .int .u64 (0), .int .u64 (0), .int .u64 (0), .int .u64 (0), .int .u64 (0), .int .u64 (0), .bool false, .bool false, .bool false, .bool false, .bool false, .int .u64 (0)], .int .i64 20]) := by
 have c0 := @mayX_ok 25 w dst src base disp imm cc (by decide)
 rw [show (mayX 25 w dst src base disp imm cc) = true from hm] at c0
 have c1 := @xlen_ok 25 w dst src base disp imm cc (by decide)
 have c2 := @fholds_f_ok cc fc fz fs fo hcc
 exact (o55 (d := .tup [.agg [.int .u64 0, .int .u64 0, .int .u64 0, .int .u64 0, .int .u64 0, .int .u64 0, .int .u64 0, .int .u64 0, .int .u64 0, .int .u64 0, .int .u64 0, .int .u64 0, .int .u64 0, .int .u64 0, .int .u64 0, .int .u64 0, .bool false, .bool false, .bool false, .bool false, .bool false, .int .u64 0], .int .i64 20]) [.ret _ _ _ c0, tF, .ret _ _ _ c1, tT, .get ([D.fn (Fn.func 74) [.ptr false 4 0] [], D.fn (Fn.func 75) [.ptr false 4 0] [], D.nilf, D.nilf, D.nilf, D.nilf, D.nilf, D.nilf, D.nilf, D.nilf, D.nilf, D.nilf, D.nilf, D.nilf, D.nilf, D.nilf, D.nilf, D.nilf, D.nilf, D.nilf, D.nilf, D.nilf, D.nilf, D.nilf, D.fn (Fn.func 76) [.ptr false 4 0] [], D.fn (Fn.func 77) [.ptr false 4 0] [], D.fn (Fn.func 78) [.ptr false 4 0] [], D.fn (Fn.func 79) [.ptr false 4 0] [], D.fn (Fn.func 80) [.ptr false 4 0] [], D.fn (Fn.func 81) [.ptr false 4 0] [], D.fn (Fn.func 82) [.ptr false 4 0] [], D.fn (Fn.func 83) [.ptr false 4 0] []]) 25 (D.fn (Fn.func 77) [.ptr false 4 0] []) rfl, tF, .inl, .inl, .ret _ _ _ c2, tT, tT] (by kernel_rfl)).to (by first | ((simp only [wk, wkL, and_true]; repeat' (first | rfl | exact True.intro | apply And.intro)); done) | (simp [wk, wkL, u64, ]; done))
theorem exec_29_ok (q0 q1 q2 q3 q4 q5 q6 q7 q8 q9 q10 q11 q12 q13 q14 q15 at' : Int) (fc fz fs fo : Bool) (w dst src base disp imm cc ld : Int) (d0 : 0 ≤ dst) (d1 : dst ≤ 15) (s0 : 0 ≤ src) (s1 : src ≤ 15) (b0 : 0 ≤ base) (b1 : base ≤ 15) (hm : mayX 29 w dst src base disp imm cc = true) (hcc : ccM cc = true) : Ret Tryz.prog 55 ([.agg [.int .u64 q0, .int .u64 q1, .int .u64 q2, .int .u64 q3, .int .u64 q4, .int .u64 q5, .int .u64 q6, .int .u64 q7, .int .u64 q8, .int .u64 q9, .int .u64 q10, .int .u64 q11, .int .u64 q12, .int .u64 q13, .int .u64 q14, .int .u64 q15, .bool true, .bool fc, .bool fz, .bool fs, .bool fo, .int .u64 (at')], xD 29 w dst src base disp imm cc, .int .u64 ld]) (.tup [.agg [.int .u64 q0, .int .u64 q1, .int .u64 q2, .int .u64 q3, .int .u64 q4, .int .u64 q5, .int .u64 q6, .int .u64 q7, .int .u64 q8, .int .u64 q9, .int .u64 q10, .int .u64 q11, .int .u64 q12, .int .u64 q13, .int .u64 q14, .int .u64 q15, .bool true, .bool fc, .bool fz, .bool fs, .bool fo, .int .u64 (if holdM cc fc fz fs fo then u64 (u64 (at' + u64 (lenX 29 w dst src base disp imm cc)) + u64 imm) else u64 (at' + u64 (lenX 29 w dst src base disp imm cc)))], .int .i64 0]) := by
 have c0 := @mayX_ok 29 w dst src base disp imm cc (by decide)
 rw [show (mayX 29 w dst src base disp imm cc) = true from hm] at c0
 have c1 := @xlen_ok 29 w dst src base disp imm cc (by decide)
 have c2 := @fholds_t_ok cc fc fz fs fo hcc
 let E1 : EL := [.ret _ _ _ c0, tF, .ret _ _ _ c1, tT, .get ([D.fn (Fn.func 74) [.ptr false 4 0] [], D.fn (Fn.func 75) [.ptr false 4 0] [], D.nilf, D.nilf, D.nilf, D.nilf, D.nilf, D.nilf, D.nilf, D.nilf, D.nilf, D.nilf, D.nilf, D.nilf, D.nilf, D.nilf, D.nilf, D.nilf, D.nilf, D.nilf, D.nilf, D.nilf, D.nilf, D.nilf, D.fn (Fn.func 76) [.ptr false 4 0] [], D.fn (Fn.func 77) [.ptr false 4 0] [], D.fn (Fn.func 78) [.ptr false 4 0] [], D.fn (Fn.func 79) [.ptr false 4 0] [], D.fn (Fn.func 80) [.ptr false 4 0] [], D.fn (Fn.func 81) [.ptr false 4 0] [], D.fn (Fn.func 82) [.ptr false 4 0] [], D.fn (Fn.func 83) [.ptr false 4 0] []]) 29 (D.fn (Fn.func 81) [.ptr false 4 0] []) rfl, tF, .inl, .inl, .ret _ _ _ c2, tF]
 rcases bft (holdM cc fc fz fs fo) with h3 | h3
 ·exact (o55 (d := .tup [.agg [.int .u64 q0, .int .u64 q1, .int .u64 q2, .int .u64 q3, .int .u64 q4, .int .u64 q5, .int .u64 q6, .int .u64 q7, .int .u64 q8, .int .u64 q9, .int .u64 q10, .int .u64 q11, .int .u64 q12, .int .u64 q13, .int .u64 q14, .int .u64 q15, .bool true, .bool fc, .bool fz, .bool fs, .bool fo, .int .u64 (IntKind.wrap IntKind.u64 (IntKind.wrap IntKind.u64 (at' + IntKind.wrap IntKind.u64 (lenX 29 w dst src base disp imm cc)) + IntKind.wrap IntKind.u64 imm))], .int .i64 0]) (E1 ++ [tC h3, .inl, tF]) (by kernel_rfl)).to (by clear E1; first | ((simp only [wk, wkL, and_true]; repeat' (first | rfl | exact True.intro | apply And.intro)); done) | (simp [wk, wkL, u64, h3]; done))
 exact (o55 (d := .tup [.agg [.int .u64 q0, .int .u64 q1, .int .u64 q2, .int .u64 q3, .int .u64 q4, .int .u64 q5, .int .u64 q6, .int .u64 q7, .int .u64 q8, .int .u64 q9, .int .u64 q10, .int .u64 q11, .int .u64 q12, .int .u64 q13, .int .u64 q14, .int .u64 q15, .bool true, .bool fc, .bool fz, .bool fs, .bool fo, .int .u64 (IntKind.wrap IntKind.u64 (at' + IntKind.wrap IntKind.u64 (lenX 29 w dst src base disp imm cc)))], .int .i64 0]) (E1 ++ [tC h3, tF]) (by kernel_rfl)).to (by clear E1; first | ((simp only [wk, wkL, and_true]; repeat' (first | rfl | exact True.intro | apply And.intro)); done) | (simp [wk, wkL, u64, h3]; done))
theorem exec_29f_ok (q0 q1 q2 q3 q4 q5 q6 q7 q8 q9 q10 q11 q12 q13 q14 q15 at' : Int) (fc fz fs fo : Bool) (w dst src base disp imm cc ld : Int) (d0 : 0 ≤ dst) (d1 : dst ≤ 15) (s0 : 0 ≤ src) (s1 : src ≤ 15) (b0 : 0 ≤ base) (b1 : base ≤ 15) (hm : mayX 29 w dst src base disp imm cc = true) (hcc : ccM cc = true) : Ret Tryz.prog 55 ([.agg [.int .u64 q0, .int .u64 q1, .int .u64 q2, .int .u64 q3, .int .u64 q4, .int .u64 q5, .int .u64 q6, .int .u64 q7, .int .u64 q8, .int .u64 q9, .int .u64 q10, .int .u64 q11, .int .u64 q12, .int .u64 q13, .int .u64 q14, .int .u64 q15, .bool false, .bool fc, .bool fz, .bool fs, .bool fo, .int .u64 (at')], xD 29 w dst src base disp imm cc, .int .u64 ld]) (.tup [.agg [.int .u64 (0), .int .u64 (0), .int .u64 (0), .int .u64 (0), .int .u64 (0), .int .u64 (0), .int .u64 (0), .int .u64 (0), .int .u64 (0), .int .u64 (0), .int .u64 (0), .int .u64 (0), .int .u64 (0), .int .u64 (0), .int .u64 (0), .int .u64 (0), .bool false, .bool false, .bool false, .bool false, .bool false, .int .u64 (0)], .int .i64 20]) := by
 have c0 := @mayX_ok 29 w dst src base disp imm cc (by decide)
 rw [show (mayX 29 w dst src base disp imm cc) = true from hm] at c0
 have c1 := @xlen_ok 29 w dst src base disp imm cc (by decide)
 have c2 := @fholds_f_ok cc fc fz fs fo hcc
 exact (o55 (d := .tup [.agg [.int .u64 0, .int .u64 0, .int .u64 0, .int .u64 0, .int .u64 0, .int .u64 0, .int .u64 0, .int .u64 0, .int .u64 0, .int .u64 0, .int .u64 0, .int .u64 0, .int .u64 0, .int .u64 0, .int .u64 0, .int .u64 0, .bool false, .bool false, .bool false, .bool false, .bool false, .int .u64 0], .int .i64 20]) [.ret _ _ _ c0, tF, .ret _ _ _ c1, tT, .get ([D.fn (Fn.func 74) [.ptr false 4 0] [], D.fn (Fn.func 75) [.ptr false 4 0] [], D.nilf, D.nilf, D.nilf, D.nilf, D.nilf, D.nilf, D.nilf, D.nilf, D.nilf, D.nilf, D.nilf, D.nilf, D.nilf, D.nilf, D.nilf, D.nilf, D.nilf, D.nilf, D.nilf, D.nilf, D.nilf, D.nilf, D.fn (Fn.func 76) [.ptr false 4 0] [], D.fn (Fn.func 77) [.ptr false 4 0] [], D.fn (Fn.func 78) [.ptr false 4 0] [], D.fn (Fn.func 79) [.ptr false 4 0] [], D.fn (Fn.func 80) [.ptr false 4 0] [], D.fn (Fn.func 81) [.ptr false 4 0] [], D.fn (Fn.func 82) [.ptr false 4 0] [], D.fn (Fn.func 83) [.ptr false 4 0] []]) 29 (D.fn (Fn.func 81) [.ptr false 4 0] []) rfl, tF, .inl, .inl, .ret _ _ _ c2, tT, tT] (by kernel_rfl)).to (by first | ((simp only [wk, wkL, and_true]; repeat' (first | rfl | exact True.intro | apply And.intro)); done) | (simp [wk, wkL, u64, ]; done))
theorem exec_no_ok (q0 q1 q2 q3 q4 q5 q6 q7 q8 q9 q10 q11 q12 q13 q14 q15 at' : Int) (fk fc fz fs fo : Bool) (op w dst src base disp imm cc ld : Int)(ho : op ≤ 127) (hm : mayX op w dst src base disp imm cc = false)  : Ret Tryz.prog 55 ([.agg [.int .u64 q0, .int .u64 q1, .int .u64 q2, .int .u64 q3, .int .u64 q4, .int .u64 q5, .int .u64 q6, .int .u64 q7, .int .u64 q8, .int .u64 q9, .int .u64 q10, .int .u64 q11, .int .u64 q12, .int .u64 q13, .int .u64 q14, .int .u64 q15, .bool fk, .bool fc, .bool fz, .bool fs, .bool fo, .int .u64 (at')], xD op w dst src base disp imm cc, .int .u64 ld]) (.tup [.agg [.int .u64 (0), .int .u64 (0), .int .u64 (0), .int .u64 (0), .int .u64 (0), .int .u64 (0), .int .u64 (0), .int .u64 (0), .int .u64 (0), .int .u64 (0), .int .u64 (0), .int .u64 (0), .int .u64 (0), .int .u64 (0), .int .u64 (0), .int .u64 (0), .bool false, .bool false, .bool false, .bool false, .bool false, .int .u64 (0)], .int .i64 2]) := by
 have c0 := @mayX_ok op w dst src base disp imm cc ho
 rw [show (mayX op w dst src base disp imm cc) = false from hm] at c0
 exact (o55 (d := .tup [.agg [.int .u64 0, .int .u64 0, .int .u64 0, .int .u64 0, .int .u64 0, .int .u64 0, .int .u64 0, .int .u64 0, .int .u64 0, .int .u64 0, .int .u64 0, .int .u64 0, .int .u64 0, .int .u64 0, .int .u64 0, .int .u64 0, .bool false, .bool false, .bool false, .bool false, .bool false, .int .u64 0], .int .i64 2]) [.ret _ _ _ c0, tT] (by kernel_rfl)).to (by first | ((simp only [wk, wkL, and_true]; repeat' (first | rfl | exact True.intro | apply And.intro)); done) | (simp [wk, wkL, u64, ]; done))
def tbYf0 : List D := [D.fn (Fn.func 74) [.ptr false 4 0] [], D.fn (Fn.func 75) [.ptr false 4 0] [], D.nilf, D.nilf, D.nilf, D.nilf, D.nilf, D.nilf, D.nilf, D.nilf, D.nilf, D.nilf, D.nilf, D.nilf, D.nilf, D.nilf, D.nilf, D.nilf, D.nilf, D.nilf, D.nilf, D.nilf, D.nilf, D.nilf, D.fn (Fn.func 76) [.ptr false 4 0] [], D.fn (Fn.func 77) [.ptr false 4 0] [], D.fn (Fn.func 78) [.ptr false 4 0] [], D.fn (Fn.func 79) [.ptr false 4 0] [], D.fn (Fn.func 80) [.ptr false 4 0] [], D.fn (Fn.func 81) [.ptr false 4 0] [], D.fn (Fn.func 82) [.ptr false 4 0] [], D.fn (Fn.func 83) [.ptr false 4 0] []]
def tbYf1 : List (Int × D) := [((2 : Int), .int .i8 0), ((9 : Int), .int .i8 0), ((3 : Int), .int .i8 4), ((10 : Int), .int .i8 4), ((4 : Int), .int .i8 5), ((11 : Int), .int .i8 5), ((8 : Int), .int .i8 5), ((15 : Int), .int .i8 5), ((5 : Int), .int .i8 1), ((12 : Int), .int .i8 1), ((7 : Int), .int .i8 1), ((14 : Int), .int .i8 1), ((6 : Int), .int .i8 10), ((13 : Int), .int .i8 10), ((16 : Int), .int .i8 2), ((17 : Int), .int .i8 6), ((20 : Int), .int .i8 6), ((18 : Int), .int .i8 7), ((21 : Int), .int .i8 7), ((19 : Int), .int .i8 12), ((22 : Int), .int .i8 12), ((23 : Int), .int .i8 8)]
def SpY1f0 (k0_ : Int) : Prop := ∀ (m : MachS) (w dst src base disp imm cc ld : Int) (d0 : 0 ≤ dst) (d1 : dst ≤ 15) (s0 : 0 ≤ src) (s1 : src ≤ 15) (b0 : 0 ≤ base) (b1 : base ≤ 15) (hm : mayX k0_ w dst src base disp imm cc = true) (hw : longM w = true), Ret Tryz.prog 55 ([m.d, xD k0_ w dst src base disp imm cc, .int .u64 ld]) (.tup [(doS (m.at (u64 (m.pc + u64 (lenX k0_ w dst src base disp imm cc)))) ⟨k0_, w, dst, src, base, disp, imm, cc⟩ ld).1.d, .int .i64 0])
theorem exec_9_ok : SpY1f0 9 := by
 intro m w dst src base disp imm cc ld d0 d1 s0 s1 b0 b1 hm hw
 have c0 := @mayX_ok 9 w dst src base disp imm cc (by decide)
 rw [hm] at c0
 have c1 := @xlen_ok 9 w dst src base disp imm cc (by decide)
 have c2 := @bdo_0_ok w (rg (MachS.rl m) dst) (IntKind.wrap IntKind.u64 imm) hw
 have c3 := @fadd_ok w (rg (MachS.rl m) dst) (IntKind.wrap IntKind.u64 imm) hw
 have c4 := @writes_any_ok 9 w dst src base disp imm cc (by decide)
 exact (o55 (d := .tup [(doS (m.at (u64 (m.pc + u64 (lenX 9 w dst src base disp imm cc)))) ⟨9, w, dst, src, base, disp, imm, cc⟩ ld).1.d, .int .i64 0]) ([.ret _ _ _ c0, tF, .ret _ _ _ c1, tT, .get tbYf0 9 (.nilf) rfl, tT, .inl, .inl, .keep [(4, .box (MachS.cw m (pcX m 9 w dst src base disp imm cc) (xT 9 w dst src base disp imm cc ld)))], .mget tbYf1 9 (some (.int .i8 0)) rfl, .tst _ true (in16 d0 d1), .get _ _ _ (@get_regm m dst ((fT m (pcX m 9 w dst src base disp imm cc) (xT 9 w dst src base disp imm cc ld))) d0 d1), .inl] ++ List.replicate 8 tF ++ List.replicate 9 tT ++ [.keep [(4, .box (MachS.cw m (pcX m 9 w dst src base disp imm cc) (xT 9 w dst src base disp imm cc ld)))], .ret _ _ _ c2, tF, tT, .ret _ _ _ c3, .ret _ _ _ c4, tC (nt (@wr_nz 9 w dst src base disp imm cc hm d0 d1 (rfl : true = true))), .tst _ true (in16 d0 d1), .putA _ _ _ _ (@put_regm m dst (doM 0 w (rg (MachS.rl m) dst) (IntKind.wrap IntKind.u64 imm)) ([.bool true, .bool (addC w (rg (MachS.rl m) dst) (IntKind.wrap IntKind.u64 imm)), .bool (cutM (u64 (rg (MachS.rl m) dst + IntKind.wrap IntKind.u64 imm)) w == 0), .bool (negM (u64 (rg (MachS.rl m) dst + IntKind.wrap IntKind.u64 imm)) w), .bool (addO w (rg (MachS.rl m) dst) (IntKind.wrap IntKind.u64 imm)), .int .u64 (pcX m 9 w dst src base disp imm cc), .int .i8 9, .int .i8 w, .int .i8 dst, .int .i8 src, .int .i8 base, .int .i64 disp, .int .i64 imm, .int .i8 cc, .int .u64 ld]) d0 d1), tF]) (by kernel_rfl))
theorem exec_10_ok : SpY1f0 10 := by
 intro m w dst src base disp imm cc ld d0 d1 s0 s1 b0 b1 hm hw
 have c0 := @mayX_ok 10 w dst src base disp imm cc (by decide)
 rw [hm] at c0
 have c1 := @xlen_ok 10 w dst src base disp imm cc (by decide)
 have c2 := @bdo_4_ok w (rg (MachS.rl m) dst) (IntKind.wrap IntKind.u64 imm) hw
 have c3 := @fof_ok w (doM 4 w (rg (MachS.rl m) dst) (IntKind.wrap IntKind.u64 imm)) hw
 have c4 := @writes_any_ok 10 w dst src base disp imm cc (by decide)
 exact (o55 (d := .tup [(doS (m.at (u64 (m.pc + u64 (lenX 10 w dst src base disp imm cc)))) ⟨10, w, dst, src, base, disp, imm, cc⟩ ld).1.d, .int .i64 0]) ([.ret _ _ _ c0, tF, .ret _ _ _ c1, tT, .get tbYf0 10 (.nilf) rfl, tT, .inl, .inl, .keep [(4, .box (MachS.cw m (pcX m 10 w dst src base disp imm cc) (xT 10 w dst src base disp imm cc ld)))], .mget tbYf1 10 (some (.int .i8 4)) rfl, .tst _ true (in16 d0 d1), .get _ _ _ (@get_regm m dst ((fT m (pcX m 10 w dst src base disp imm cc) (xT 10 w dst src base disp imm cc ld))) d0 d1), .inl] ++ List.replicate 8 tF ++ List.replicate 9 tT ++ [.keep [(4, .box (MachS.cw m (pcX m 10 w dst src base disp imm cc) (xT 10 w dst src base disp imm cc ld)))], .ret _ _ _ c2, tF, tF, tF, tF, tT, tT, .ret _ _ _ c3, .ret _ _ _ c4, tC (nt (@wr_nz 10 w dst src base disp imm cc hm d0 d1 (rfl : true = true))), .tst _ true (in16 d0 d1), .putA _ _ _ _ (@put_regm m dst (doM 4 w (rg (MachS.rl m) dst) (IntKind.wrap IntKind.u64 imm)) ([.bool true, .bool false, .bool (cutM (doM 4 w (rg (MachS.rl m) dst) (IntKind.wrap IntKind.u64 imm)) w == 0), .bool (negM (doM 4 w (rg (MachS.rl m) dst) (IntKind.wrap IntKind.u64 imm)) w), .bool false, .int .u64 (pcX m 10 w dst src base disp imm cc), .int .i8 10, .int .i8 w, .int .i8 dst, .int .i8 src, .int .i8 base, .int .i64 disp, .int .i64 imm, .int .i8 cc, .int .u64 ld]) d0 d1), tF]) (by kernel_rfl))
theorem exec_11_ok : SpY1f0 11 := by
 intro m w dst src base disp imm cc ld d0 d1 s0 s1 b0 b1 hm hw
 have c0 := @mayX_ok 11 w dst src base disp imm cc (by decide)
 rw [hm] at c0
 have c1 := @xlen_ok 11 w dst src base disp imm cc (by decide)
 have c2 := @bdo_5_ok w (rg (MachS.rl m) dst) (IntKind.wrap IntKind.u64 imm) hw
 have c3 := @fof_ok w (doM 5 w (rg (MachS.rl m) dst) (IntKind.wrap IntKind.u64 imm)) hw
 have c4 := @writes_any_ok 11 w dst src base disp imm cc (by decide)
 exact (o55 (d := .tup [(doS (m.at (u64 (m.pc + u64 (lenX 11 w dst src base disp imm cc)))) ⟨11, w, dst, src, base, disp, imm, cc⟩ ld).1.d, .int .i64 0]) ([.ret _ _ _ c0, tF, .ret _ _ _ c1, tT, .get tbYf0 11 (.nilf) rfl, tT, .inl, .inl, .keep [(4, .box (MachS.cw m (pcX m 11 w dst src base disp imm cc) (xT 11 w dst src base disp imm cc ld)))], .mget tbYf1 11 (some (.int .i8 5)) rfl, .tst _ true (in16 d0 d1), .get _ _ _ (@get_regm m dst ((fT m (pcX m 11 w dst src base disp imm cc) (xT 11 w dst src base disp imm cc ld))) d0 d1), .inl] ++ List.replicate 8 tF ++ List.replicate 9 tT ++ [.keep [(4, .box (MachS.cw m (pcX m 11 w dst src base disp imm cc) (xT 11 w dst src base disp imm cc ld)))], .ret _ _ _ c2, tF, tF, tF, tF, tF, tT, tT, .ret _ _ _ c3, .ret _ _ _ c4, tC (nt (@wr_nz 11 w dst src base disp imm cc hm d0 d1 (rfl : true = true))), .tst _ true (in16 d0 d1), .putA _ _ _ _ (@put_regm m dst (doM 5 w (rg (MachS.rl m) dst) (IntKind.wrap IntKind.u64 imm)) ([.bool true, .bool false, .bool (cutM (doM 5 w (rg (MachS.rl m) dst) (IntKind.wrap IntKind.u64 imm)) w == 0), .bool (negM (doM 5 w (rg (MachS.rl m) dst) (IntKind.wrap IntKind.u64 imm)) w), .bool false, .int .u64 (pcX m 11 w dst src base disp imm cc), .int .i8 11, .int .i8 w, .int .i8 dst, .int .i8 src, .int .i8 base, .int .i64 disp, .int .i64 imm, .int .i8 cc, .int .u64 ld]) d0 d1), tF]) (by kernel_rfl))
theorem exec_13_ok : SpY1f0 13 := by
 intro m w dst src base disp imm cc ld d0 d1 s0 s1 b0 b1 hm hw
 have c0 := @mayX_ok 13 w dst src base disp imm cc (by decide)
 rw [hm] at c0
 have c1 := @xlen_ok 13 w dst src base disp imm cc (by decide)
 have c2 := @bdo_10_ok w (rg (MachS.rl m) dst) (IntKind.wrap IntKind.u64 imm) hw
 have c3 := @fof_ok w (doM 10 w (rg (MachS.rl m) dst) (IntKind.wrap IntKind.u64 imm)) hw
 have c4 := @writes_any_ok 13 w dst src base disp imm cc (by decide)
 exact (o55 (d := .tup [(doS (m.at (u64 (m.pc + u64 (lenX 13 w dst src base disp imm cc)))) ⟨13, w, dst, src, base, disp, imm, cc⟩ ld).1.d, .int .i64 0]) ([.ret _ _ _ c0, tF, .ret _ _ _ c1, tT, .get tbYf0 13 (.nilf) rfl, tT, .inl, .inl, .keep [(4, .box (MachS.cw m (pcX m 13 w dst src base disp imm cc) (xT 13 w dst src base disp imm cc ld)))], .mget tbYf1 13 (some (.int .i8 10)) rfl, .tst _ true (in16 d0 d1), .get _ _ _ (@get_regm m dst ((fT m (pcX m 13 w dst src base disp imm cc) (xT 13 w dst src base disp imm cc ld))) d0 d1), .inl] ++ List.replicate 8 tF ++ List.replicate 9 tT ++ [.keep [(4, .box (MachS.cw m (pcX m 13 w dst src base disp imm cc) (xT 13 w dst src base disp imm cc ld)))], .ret _ _ _ c2, tF, tF, tF, tF, tF, tF, tT, .ret _ _ _ c3, .ret _ _ _ c4, tC (nt (@wr_nz 13 w dst src base disp imm cc hm d0 d1 (rfl : true = true))), .tst _ true (in16 d0 d1), .putA _ _ _ _ (@put_regm m dst (doM 10 w (rg (MachS.rl m) dst) (IntKind.wrap IntKind.u64 imm)) ([.bool true, .bool false, .bool (cutM (doM 10 w (rg (MachS.rl m) dst) (IntKind.wrap IntKind.u64 imm)) w == 0), .bool (negM (doM 10 w (rg (MachS.rl m) dst) (IntKind.wrap IntKind.u64 imm)) w), .bool false, .int .u64 (pcX m 13 w dst src base disp imm cc), .int .i8 13, .int .i8 w, .int .i8 dst, .int .i8 src, .int .i8 base, .int .i64 disp, .int .i64 imm, .int .i8 cc, .int .u64 ld]) d0 d1), tF]) (by kernel_rfl))
theorem exec_14_ok : SpY1f0 14 := by
 intro m w dst src base disp imm cc ld d0 d1 s0 s1 b0 b1 hm hw
 have c0 := @mayX_ok 14 w dst src base disp imm cc (by decide)
 rw [hm] at c0
 have c1 := @xlen_ok 14 w dst src base disp imm cc (by decide)
 have c2 := @bdo_1_ok w (rg (MachS.rl m) dst) (IntKind.wrap IntKind.u64 imm) hw
 have c3 := @fsub_ok w (rg (MachS.rl m) dst) (IntKind.wrap IntKind.u64 imm) hw
 have c4 := @writes_any_ok 14 w dst src base disp imm cc (by decide)
 exact (o55 (d := .tup [(doS (m.at (u64 (m.pc + u64 (lenX 14 w dst src base disp imm cc)))) ⟨14, w, dst, src, base, disp, imm, cc⟩ ld).1.d, .int .i64 0]) ([.ret _ _ _ c0, tF, .ret _ _ _ c1, tT, .get tbYf0 14 (.nilf) rfl, tT, .inl, .inl, .keep [(4, .box (MachS.cw m (pcX m 14 w dst src base disp imm cc) (xT 14 w dst src base disp imm cc ld)))], .mget tbYf1 14 (some (.int .i8 1)) rfl, .tst _ true (in16 d0 d1), .get _ _ _ (@get_regm m dst ((fT m (pcX m 14 w dst src base disp imm cc) (xT 14 w dst src base disp imm cc ld))) d0 d1), .inl] ++ List.replicate 8 tF ++ List.replicate 9 tT ++ [.keep [(4, .box (MachS.cw m (pcX m 14 w dst src base disp imm cc) (xT 14 w dst src base disp imm cc ld)))], .ret _ _ _ c2, tF, tF, tT, .ret _ _ _ c3, .ret _ _ _ c4, tC (nt (eqI 0 true (eq_of_beq (@wr_z 14 w dst src base disp imm cc (rfl : false = false))))), tF]) (by kernel_rfl))
theorem exec_15_ok : SpY1f0 15 := by
 intro m w dst src base disp imm cc ld d0 d1 s0 s1 b0 b1 hm hw
 have c0 := @mayX_ok 15 w dst src base disp imm cc (by decide)
 rw [hm] at c0
 have c1 := @xlen_ok 15 w dst src base disp imm cc (by decide)
 have c2 := @bdo_5_ok w (rg (MachS.rl m) dst) (IntKind.wrap IntKind.u64 imm) hw
 have c3 := @fof_ok w (doM 5 w (rg (MachS.rl m) dst) (IntKind.wrap IntKind.u64 imm)) hw
 have c4 := @writes_any_ok 15 w dst src base disp imm cc (by decide)
 exact (o55 (d := .tup [(doS (m.at (u64 (m.pc + u64 (lenX 15 w dst src base disp imm cc)))) ⟨15, w, dst, src, base, disp, imm, cc⟩ ld).1.d, .int .i64 0]) ([.ret _ _ _ c0, tF, .ret _ _ _ c1, tT, .get tbYf0 15 (.nilf) rfl, tT, .inl, .inl, .keep [(4, .box (MachS.cw m (pcX m 15 w dst src base disp imm cc) (xT 15 w dst src base disp imm cc ld)))], .mget tbYf1 15 (some (.int .i8 5)) rfl, .tst _ true (in16 d0 d1), .get _ _ _ (@get_regm m dst ((fT m (pcX m 15 w dst src base disp imm cc) (xT 15 w dst src base disp imm cc ld))) d0 d1), .inl] ++ List.replicate 8 tF ++ List.replicate 9 tT ++ [.keep [(4, .box (MachS.cw m (pcX m 15 w dst src base disp imm cc) (xT 15 w dst src base disp imm cc ld)))], .ret _ _ _ c2, tF, tF, tF, tF, tF, tT, tT, .ret _ _ _ c3, .ret _ _ _ c4, tC (nt (eqI 0 true (eq_of_beq (@wr_z 15 w dst src base disp imm cc (rfl : false = false))))), tF]) (by kernel_rfl))
theorem exec_16_ok : SpY1f0 16 := by
 intro m w dst src base disp imm cc ld d0 d1 s0 s1 b0 b1 hm hw
 have c0 := @mayX_ok 16 w dst src base disp imm cc (by decide)
 rw [hm] at c0
 have c1 := @xlen_ok 16 w dst src base disp imm cc (by decide)
 have c2 := @bdo_2_ok w (rg (MachS.rl m) dst) (rg (MachS.rl m) src) hw
 have c3 := @fnone_ok
 have c4 := @writes_any_ok 16 w dst src base disp imm cc (by decide)
 exact (o55 (d := .tup [(doS (m.at (u64 (m.pc + u64 (lenX 16 w dst src base disp imm cc)))) ⟨16, w, dst, src, base, disp, imm, cc⟩ ld).1.d, .int .i64 0]) ([.ret _ _ _ c0, tF, .ret _ _ _ c1, tT, .get tbYf0 16 (.nilf) rfl, tT, .inl, .inl, .keep [(4, .box (MachS.cw m (pcX m 16 w dst src base disp imm cc) (xT 16 w dst src base disp imm cc ld)))], .mget tbYf1 16 (some (.int .i8 2)) rfl, .tst _ true (in16 d0 d1), .get _ _ _ (@get_regm m dst ((fT m (pcX m 16 w dst src base disp imm cc) (xT 16 w dst src base disp imm cc ld))) d0 d1), .inl] ++ List.replicate 8 tF ++ [tT, tT, tT, tT, tT, tT, tT] ++ List.replicate 9 tF ++ [.tst _ true (in16 s0 s1), .get _ _ _ (@get_regm m src ((fT m (pcX m 16 w dst src base disp imm cc) (xT 16 w dst src base disp imm cc ld))) s0 s1), .keep [(4, .box (MachS.cw m (pcX m 16 w dst src base disp imm cc) (xT 16 w dst src base disp imm cc ld)))], .ret _ _ _ c2, tF, tF, tF, tF, tF, tF, tF, .ret _ _ _ c3, .ret _ _ _ c4, tC (nt (@wr_nz 16 w dst src base disp imm cc hm d0 d1 (rfl : true = true))), .tst _ true (in16 d0 d1), .putA _ _ _ _ (@put_regm m dst (doM 2 w (rg (MachS.rl m) dst) (rg (MachS.rl m) src)) ([.bool false, .bool false, .bool false, .bool false, .bool false, .int .u64 (pcX m 16 w dst src base disp imm cc), .int .i8 16, .int .i8 w, .int .i8 dst, .int .i8 src, .int .i8 base, .int .i64 disp, .int .i64 imm, .int .i8 cc, .int .u64 ld]) d0 d1), tF]) (by kernel_rfl))
theorem exec_s_ok (m : MachS) (x : XS) (ld : Int) (ho : x.op ≤ 127) : Ret Tryz.prog 55 [m.d, x.d, .int .u64 ld] (.tup [(execS m x ld).1.d, .int .i64 (execS m x ld).2]) := by
 cases hm : x.may
 ·rw [execS_no hm]
  obtain ⟨q0, q1, q2, q3, q4, q5, q6, q7, q8, q9, q10, q11, q12, q13, q14, q15, fk, fc, fz, fs, fo, pc⟩ := m
  obtain ⟨op, w, dst, src, base, disp, imm, cc⟩ := x
  exact exec_no_ok q0 q1 q2 q3 q4 q5 q6 q7 q8 q9 q10 q11 q12 q13 q14 q15 pc fk fc fz fs fo op w dst src base disp imm cc ld ho hm
 ·rw [execS_may hm]
  obtain ⟨q0, q1, q2, q3, q4, q5, q6, q7, q8, q9, q10, q11, q12, q13, q14, q15, fk, fc, fz, fs, fo, pc⟩ := m
  obtain ⟨op, w, dst, src, base, disp, imm, cc⟩ := x
  replace hm : mayX op w dst src base disp imm cc = true := hm
  have hsh : shapeM op ≠ 0 := by
   intro e
   have hs := (mayX_parts hm).2
   rw [e] at hs
   simp [mayS] at hs
  obtain ⟨⟨d0, d1, s0, s1, b0, b1, _⟩, hs⟩ := mayX_parts hm
  rcases shape_ops hsh with rfl | rfl | rfl | rfl | rfl | rfl | rfl | rfl | rfl | rfl | rfl | rfl | rfl | rfl | rfl | rfl | rfl | rfl | rfl | rfl | rfl | rfl | rfl | rfl | rfl | rfl | rfl | rfl | rfl | rfl | rfl | rfl
  ·exact exec_0_ok ⟨q0, q1, q2, q3, q4, q5, q6, q7, q8, q9, q10, q11, q12, q13, q14, q15, fk, fc, fz, fs, fo, pc⟩ w dst src base disp imm cc ld d0 d1 s0 s1 b0 b1 hm
  ·exact exec_1_ok ⟨q0, q1, q2, q3, q4, q5, q6, q7, q8, q9, q10, q11, q12, q13, q14, q15, fk, fc, fz, fs, fo, pc⟩ w dst src base disp imm cc ld d0 d1 s0 s1 b0 b1 hm
  ·exact exec_2_ok ⟨q0, q1, q2, q3, q4, q5, q6, q7, q8, q9, q10, q11, q12, q13, q14, q15, fk, fc, fz, fs, fo, pc⟩ w dst src base disp imm cc ld d0 d1 s0 s1 b0 b1 hm (may_long hs (by decide))
  ·exact exec_3_ok ⟨q0, q1, q2, q3, q4, q5, q6, q7, q8, q9, q10, q11, q12, q13, q14, q15, fk, fc, fz, fs, fo, pc⟩ w dst src base disp imm cc ld d0 d1 s0 s1 b0 b1 hm (may_long hs (by decide))
  ·exact exec_4_ok ⟨q0, q1, q2, q3, q4, q5, q6, q7, q8, q9, q10, q11, q12, q13, q14, q15, fk, fc, fz, fs, fo, pc⟩ w dst src base disp imm cc ld d0 d1 s0 s1 b0 b1 hm (may_long hs (by decide))
  ·exact exec_5_ok ⟨q0, q1, q2, q3, q4, q5, q6, q7, q8, q9, q10, q11, q12, q13, q14, q15, fk, fc, fz, fs, fo, pc⟩ w dst src base disp imm cc ld d0 d1 s0 s1 b0 b1 hm (may_long hs (by decide))
  ·exact exec_6_ok ⟨q0, q1, q2, q3, q4, q5, q6, q7, q8, q9, q10, q11, q12, q13, q14, q15, fk, fc, fz, fs, fo, pc⟩ w dst src base disp imm cc ld d0 d1 s0 s1 b0 b1 hm (may_long hs (by decide))
  ·exact exec_7_ok ⟨q0, q1, q2, q3, q4, q5, q6, q7, q8, q9, q10, q11, q12, q13, q14, q15, fk, fc, fz, fs, fo, pc⟩ w dst src base disp imm cc ld d0 d1 s0 s1 b0 b1 hm (may_long hs (by decide))
  ·exact exec_8_ok ⟨q0, q1, q2, q3, q4, q5, q6, q7, q8, q9, q10, q11, q12, q13, q14, q15, fk, fc, fz, fs, fo, pc⟩ w dst src base disp imm cc ld d0 d1 s0 s1 b0 b1 hm (may_long hs (by decide))
  ·exact exec_9_ok ⟨q0, q1, q2, q3, q4, q5, q6, q7, q8, q9, q10, q11, q12, q13, q14, q15, fk, fc, fz, fs, fo, pc⟩ w dst src base disp imm cc ld d0 d1 s0 s1 b0 b1 hm (may_long hs (by decide))
  ·exact exec_10_ok ⟨q0, q1, q2, q3, q4, q5, q6, q7, q8, q9, q10, q11, q12, q13, q14, q15, fk, fc, fz, fs, fo, pc⟩ w dst src base disp imm cc ld d0 d1 s0 s1 b0 b1 hm (may_long hs (by decide))
  ·exact exec_11_ok ⟨q0, q1, q2, q3, q4, q5, q6, q7, q8, q9, q10, q11, q12, q13, q14, q15, fk, fc, fz, fs, fo, pc⟩ w dst src base disp imm cc ld d0 d1 s0 s1 b0 b1 hm (may_long hs (by decide))
  ·exact exec_12_ok ⟨q0, q1, q2, q3, q4, q5, q6, q7, q8, q9, q10, q11, q12, q13, q14, q15, fk, fc, fz, fs, fo, pc⟩ w dst src base disp imm cc ld d0 d1 s0 s1 b0 b1 hm (may_long hs (by decide))
  ·exact exec_13_ok ⟨q0, q1, q2, q3, q4, q5, q6, q7, q8, q9, q10, q11, q12, q13, q14, q15, fk, fc, fz, fs, fo, pc⟩ w dst src base disp imm cc ld d0 d1 s0 s1 b0 b1 hm (may_long hs (by decide))
  ·exact exec_14_ok ⟨q0, q1, q2, q3, q4, q5, q6, q7, q8, q9, q10, q11, q12, q13, q14, q15, fk, fc, fz, fs, fo, pc⟩ w dst src base disp imm cc ld d0 d1 s0 s1 b0 b1 hm (may_long hs (by decide))
  ·exact exec_15_ok ⟨q0, q1, q2, q3, q4, q5, q6, q7, q8, q9, q10, q11, q12, q13, q14, q15, fk, fc, fz, fs, fo, pc⟩ w dst src base disp imm cc ld d0 d1 s0 s1 b0 b1 hm (may_long hs (by decide))
  ·exact exec_16_ok ⟨q0, q1, q2, q3, q4, q5, q6, q7, q8, q9, q10, q11, q12, q13, q14, q15, fk, fc, fz, fs, fo, pc⟩ w dst src base disp imm cc ld d0 d1 s0 s1 b0 b1 hm (may_long hs (by decide))
  ·exact exec_17_ok ⟨q0, q1, q2, q3, q4, q5, q6, q7, q8, q9, q10, q11, q12, q13, q14, q15, fk, fc, fz, fs, fo, pc⟩ w dst src base disp imm cc ld d0 d1 s0 s1 b0 b1 hm (may_long hs (by decide))
  ·exact exec_18_ok ⟨q0, q1, q2, q3, q4, q5, q6, q7, q8, q9, q10, q11, q12, q13, q14, q15, fk, fc, fz, fs, fo, pc⟩ w dst src base disp imm cc ld d0 d1 s0 s1 b0 b1 hm (may_long hs (by decide))
  ·exact exec_19_ok ⟨q0, q1, q2, q3, q4, q5, q6, q7, q8, q9, q10, q11, q12, q13, q14, q15, fk, fc, fz, fs, fo, pc⟩ w dst src base disp imm cc ld d0 d1 s0 s1 b0 b1 hm (may_long hs (by decide))
  ·exact exec_20_ok ⟨q0, q1, q2, q3, q4, q5, q6, q7, q8, q9, q10, q11, q12, q13, q14, q15, fk, fc, fz, fs, fo, pc⟩ w dst src base disp imm cc ld d0 d1 s0 s1 b0 b1 hm (may_long hs (by decide))
  ·exact exec_21_ok ⟨q0, q1, q2, q3, q4, q5, q6, q7, q8, q9, q10, q11, q12, q13, q14, q15, fk, fc, fz, fs, fo, pc⟩ w dst src base disp imm cc ld d0 d1 s0 s1 b0 b1 hm (may_long hs (by decide))
  ·exact exec_22_ok ⟨q0, q1, q2, q3, q4, q5, q6, q7, q8, q9, q10, q11, q12, q13, q14, q15, fk, fc, fz, fs, fo, pc⟩ w dst src base disp imm cc ld d0 d1 s0 s1 b0 b1 hm (may_long hs (by decide))
  ·exact exec_23_ok ⟨q0, q1, q2, q3, q4, q5, q6, q7, q8, q9, q10, q11, q12, q13, q14, q15, fk, fc, fz, fs, fo, pc⟩ w dst src base disp imm cc ld d0 d1 s0 s1 b0 b1 hm (may_long hs (by decide))
  ·cases hd : (cutM (rg [q0, q1, q2, q3, q4, q5, q6, q7, q8, q9, q10, q11, q12, q13, q14, q15] dst) w == 0)
   ·cases hz : (cutM q2 w == 0)
    ·have e : doS ((⟨q0, q1, q2, q3, q4, q5, q6, q7, q8, q9, q10, q11, q12, q13, q14, q15, fk, fc, fz, fs, fo, pc⟩ : MachS).at (u64 (pc + u64 (XS.len ⟨24, w, dst, src, base, disp, imm, cc⟩)))) ⟨24, w, dst, src, base, disp, imm, cc⟩ ld = (.zero, 20) := by
      show (match (cutM (rg [q0, q1, q2, q3, q4, q5, q6, q7, q8, q9, q10, q11, q12, q13, q14, q15] dst) w == 0 : Bool) with | true => ((MachS.zero, 20) : MachS × Int) | false => match (cutM q2 w == 0 : Bool) with | false => (.zero, 20) | true => _) = _
      rw [hd, hz]
     rw [e]
     exact exec_24g_ok q0 q1 q2 q3 q4 q5 q6 q7 q8 q9 q10 q11 q12 q13 q14 q15 pc fk fc fz fs fo w dst src base disp imm cc ld d0 d1 s0 s1 b0 b1 hm hd hz
    ·have e : doS ((⟨q0, q1, q2, q3, q4, q5, q6, q7, q8, q9, q10, q11, q12, q13, q14, q15, fk, fc, fz, fs, fo, pc⟩ : MachS).at (u64 (pc + u64 (XS.len ⟨24, w, dst, src, base, disp, imm, cc⟩)))) ⟨24, w, dst, src, base, disp, imm, cc⟩ ld = (⟨u64 ((cutM q0 w).tdiv (cutM (rg [q0, q1, q2, q3, q4, q5, q6, q7, q8, q9, q10, q11, q12, q13, q14, q15] dst) w)), q1, (cutM q0 w).tmod (cutM (rg [q0, q1, q2, q3, q4, q5, q6, q7, q8, q9, q10, q11, q12, q13, q14, q15] dst) w), q3, q4, q5, q6, q7, q8, q9, q10, q11, q12, q13, q14, q15, false, false, false, false, false, u64 (pc + u64 (XS.len ⟨24, w, dst, src, base, disp, imm, cc⟩))⟩, 0) := by
      show (match (cutM (rg [q0, q1, q2, q3, q4, q5, q6, q7, q8, q9, q10, q11, q12, q13, q14, q15] dst) w == 0 : Bool) with | true => ((MachS.zero, 20) : MachS × Int) | false => match (cutM q2 w == 0 : Bool) with | false => (.zero, 20) | true => _) = _
      rw [hd, hz]
      rfl
     rw [e]
     exact exec_24_ok q0 q1 q2 q3 q4 q5 q6 q7 q8 q9 q10 q11 q12 q13 q14 q15 pc fk fc fz fs fo w dst src base disp imm cc ld d0 d1 s0 s1 b0 b1 hm hd hz
   ·have e : doS ((⟨q0, q1, q2, q3, q4, q5, q6, q7, q8, q9, q10, q11, q12, q13, q14, q15, fk, fc, fz, fs, fo, pc⟩ : MachS).at (u64 (pc + u64 (XS.len ⟨24, w, dst, src, base, disp, imm, cc⟩)))) ⟨24, w, dst, src, base, disp, imm, cc⟩ ld = (.zero, 20) := by
     show (match (cutM (rg [q0, q1, q2, q3, q4, q5, q6, q7, q8, q9, q10, q11, q12, q13, q14, q15] dst) w == 0 : Bool) with | true => ((MachS.zero, 20) : MachS × Int) | false => match (cutM q2 w == 0 : Bool) with | false => (.zero, 20) | true => _) = _
     rw [hd]
    rw [e]
    exact exec_24f_ok q0 q1 q2 q3 q4 q5 q6 q7 q8 q9 q10 q11 q12 q13 q14 q15 pc fk fc fz fs fo w dst src base disp imm cc ld d0 d1 s0 s1 b0 b1 hm hd
  ·cases fk
   ·exact exec_25f_ok q0 q1 q2 q3 q4 q5 q6 q7 q8 q9 q10 q11 q12 q13 q14 q15 pc fc fz fs fo w dst src base disp imm cc ld d0 d1 s0 s1 b0 b1 hm (may_cc hs)
   ·exact exec_25_ok q0 q1 q2 q3 q4 q5 q6 q7 q8 q9 q10 q11 q12 q13 q14 q15 pc fc fz fs fo w dst src base disp imm cc ld d0 d1 s0 s1 b0 b1 hm (may_cc hs)
  ·exact exec_26_ok ⟨q0, q1, q2, q3, q4, q5, q6, q7, q8, q9, q10, q11, q12, q13, q14, q15, fk, fc, fz, fs, fo, pc⟩ w dst src base disp imm cc ld d0 d1 s0 s1 b0 b1 hm
  ·exact exec_27_ok ⟨q0, q1, q2, q3, q4, q5, q6, q7, q8, q9, q10, q11, q12, q13, q14, q15, fk, fc, fz, fs, fo, pc⟩ w dst src base disp imm cc ld d0 d1 s0 s1 b0 b1 hm
  ·exact exec_28_ok ⟨q0, q1, q2, q3, q4, q5, q6, q7, q8, q9, q10, q11, q12, q13, q14, q15, fk, fc, fz, fs, fo, pc⟩ w dst src base disp imm cc ld d0 d1 s0 s1 b0 b1 hm
  ·cases fk
   ·exact exec_29f_ok q0 q1 q2 q3 q4 q5 q6 q7 q8 q9 q10 q11 q12 q13 q14 q15 pc fc fz fs fo w dst src base disp imm cc ld d0 d1 s0 s1 b0 b1 hm (may_cc' hs)
   ·exact exec_29_ok q0 q1 q2 q3 q4 q5 q6 q7 q8 q9 q10 q11 q12 q13 q14 q15 pc fc fz fs fo w dst src base disp imm cc ld d0 d1 s0 s1 b0 b1 hm (may_cc' hs)
  ·exact exec_30_ok ⟨q0, q1, q2, q3, q4, q5, q6, q7, q8, q9, q10, q11, q12, q13, q14, q15, fk, fc, fz, fs, fo, pc⟩ w dst src base disp imm cc ld d0 d1 s0 s1 b0 b1 hm
  ·exact exec_31_ok ⟨q0, q1, q2, q3, q4, q5, q6, q7, q8, q9, q10, q11, q12, q13, q14, q15, fk, fc, fz, fs, fo, pc⟩ w dst src base disp imm cc ld d0 d1 s0 s1 b0 b1 hm
theorem stored_ok (m : MachS) (src disp : Int) (s0 : 0 ≤ src) (s1 : src ≤ 15) (hm : mayX 27 64 0 src 4 disp 0 0 = true)  : Ret Tryz.prog 54 ([.agg [.int .u64 m.q0, .int .u64 m.q1, .int .u64 m.q2, .int .u64 m.q3, .int .u64 m.q4, .int .u64 m.q5, .int .u64 m.q6, .int .u64 m.q7, .int .u64 m.q8, .int .u64 m.q9, .int .u64 m.q10, .int .u64 m.q11, .int .u64 m.q12, .int .u64 m.q13, .int .u64 m.q14, .int .u64 m.q15, .bool m.fk, .bool m.fc, .bool m.fz, .bool m.fs, .bool m.fo, .int .u64 m.pc], xD 27 64 0 src 4 disp 0 0]) (.int .u64 (rg m.rl src)) := by
 have c0 := @mayX_ok ((27 : Int)) ((64 : Int)) ((0 : Int)) (src) ((4 : Int)) (disp) ((0 : Int)) ((0 : Int)) (by first | rfl | decide)
 rw [show (mayX (27 : Int) (64 : Int) (0 : Int) src (4 : Int) disp (0 : Int) (0 : Int)) = true from hm] at c0
 have c1 := @cut_ok (rg (MachS.rl m) src) ((64 : Int))
 exact (Ret.of_eval (d := .int .u64 (cutM (rg (MachS.rl m) src) (64 : Int))) mixed Tryz.func54 (by kernel_rfl) [tT, tT, .ret _ _ _ c0, tT, tF, tF, .tst (decide ((0 : Int) ≤ src ∧ src < (↑(16 : Nat) : Int))) true (by ((try simp only [List.length_set, List.length_map, w_i8, w_u8, w_i64, w_u64, decide_eq_true_eq, decide_eq_false_iff_not, beq_iff_eq, bne_iff_ne, beq_eq_false_iff_ne, bne_eq_false_iff_eq, Bool.not_eq_true', Bool.not_eq_false', Bool.and_eq_true, Bool.or_eq_true] at *); (try unfold big at *); omega)), .get _ _ _ (@get_regm (m) (src) ([.bool (MachS.fk m), .bool (MachS.fc m), .bool (MachS.fz m), .bool (MachS.fs m), .bool (MachS.fo m), .int .u64 (MachS.pc m)]) s0 s1), .ret _ _ _ c1] (by kernel_rfl)).to (by simp [wk, cutM])
end Go.Proofs.YtkpneibifdoecaaGreat
