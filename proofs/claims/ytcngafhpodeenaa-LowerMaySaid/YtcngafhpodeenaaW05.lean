/- Contracts and plain laws that a statement's proof leans on (texts merged: May, MayR, EvR). -/
import Derived.ProofKit
import Derived.Carry
import Derived.SizedLaws
import Derived.Test.YtcngafhpodeenaaW04
set_option linter.unusedVariables false
set_option linter.unusedSimpArgs false
namespace Go.Proofs.Ytcngafhpodeenaa
open Go Go.Ev
set_option maxRecDepth 100000
set_option maxHeartbeats 8000000
theorem within64_ok (n a b : Int) : Ret Try.prog 93 ([.int .i64 n, .int .i64 a, .int .i64 b]) (.bool (decide (a ≤ n) && decide (n ≤ b))) := by
 rcases bft (decide (n ≥ a)) with h0 | h0
 ·exact (o93 (d := .bool (decide (n ≤ b))) [tC (eT h0), tC (eT h0), tC (eT h0), tC h0] (by kernel_rfl)).to (by (try simp only [sl0, wk, wkL, wkO, eqCells, eqCell] at *); simp [wk, wkL, wkO, eqCells, eqCell, *]; done)
 exact (o93 (d := .bool false) [tC (eT h0), tC (eT h0), tC (eT h0), tC h0] (by kernel_rfl)).to (by (try simp only [sl0, wk, wkL, wkO, eqCells, eqCell] at *); simp [wk, wkL, wkO, eqCells, eqCell, *]; done)
theorem instrMay_ok (kind op width size : Int) (byReg : Bool) (dst src off imm : Int) : Ret Try.prog 75 ([instD kind op width size byReg dst src off imm]) (.bool (mayM kind op width size byReg dst src off imm)) := by
 let E1 : EL := [.inl]
 rcases bft (decide (dst < 0)) with h0 | h0
 ·exact (o75 (d := .bool false) (E1 ++ List.replicate 3 (tC (eT (leL 0 h0))) ++ [tC (leL 0 h0), tF, tF, tF, tF, tT, tF, tF, tF, tF, tT, tF, tF, tF, tF, tT, tT]) (by kernel_rfl)).to (by clear E1; (try simp only [sl0, wk, wkL, wkO, eqCells, eqCell, mayM, mayRange, mayKind, sizedM] at *); simp [wk, wkL, wkO, eqCells, eqCell, mayM, mayRange, mayKind, sizedM, *]; omega)
 let E2 : EL := E1 ++ List.replicate 3 (tC (eT (leL 0 h0))) ++ [tC (leL 0 h0)]
 rcases bft (decide (dst < 11)) with h1 | h1
 ·let E3 : EL := E2 ++ List.replicate 3 (tC (eF (nt (leC 10 h1)))) ++ [.inl]
  rcases bft (decide (src < 0)) with h2 | h2
  ·exact (o75 (d := .bool false) (E3 ++ List.replicate 3 (tC (eT (leL 0 h2))) ++ [tC (leL 0 h2), tC (eF (nt (leC 10 h1))), tC (nt (leC 10 h1)), tF, tF, tF, tF, tT, tF, tF, tF, tF, tT, tT]) (by kernel_rfl)).to (by clear E1 E2 E3; (try simp only [sl0, wk, wkL, wkO, eqCells, eqCell, mayM, mayRange, mayKind, sizedM] at *); simp [wk, wkL, wkO, eqCells, eqCell, mayM, mayRange, mayKind, sizedM, *]; omega)
  let E4 : EL := E3 ++ List.replicate 3 (tC (eT (leL 0 h2))) ++ [tC (leL 0 h2), tC (eF (nt (leC 10 h1))), tC (nt (leC 10 h1))]
  rcases bft (decide (src < 11)) with h3 | h3
  ·let E5 : EL := E4 ++ List.replicate 3 (tC (eF (nt (leC 10 h3)))) ++ [.inl]
   rcases bft (decide (off < (-32768))) with h4 | h4
   ·exact (o75 (d := .bool false) (E5 ++ List.replicate 3 (tC (eT (leL (-32768) h4))) ++ [tC (leL (-32768) h4), tC (eF (nt (leC 10 h3))), tC (nt (leC 10 h3)), tF, tF, tF, tF, tT, tT]) (by kernel_rfl)).to (by clear E1 E2 E3 E4 E5; (try simp only [sl0, wk, wkL, wkO, eqCells, eqCell, mayM, mayRange, mayKind, sizedM] at *); simp [wk, wkL, wkO, eqCells, eqCell, mayM, mayRange, mayKind, sizedM, *]; omega)
   let E6 : EL := E5 ++ List.replicate 3 (tC (eT (leL (-32768) h4))) ++ [tC (leL (-32768) h4), tC (eF (nt (leC 10 h3))), tC (nt (leC 10 h3))]
   rcases bft (decide (off < 32768)) with h5 | h5
   ·let E7 : EL := E6 ++ List.replicate 3 (tC (eF (nt (leC 32767 h5)))) ++ [.inl]
    rcases bft (decide (imm < (-2147483648))) with h6 | h6
    ·exact (o75 (d := .bool false) (E7 ++ List.replicate 3 (tC (eT (leL (-2147483648) h6))) ++ [tC (leL (-2147483648) h6), tC (eF (nt (leC 32767 h5))), tC (nt (leC 32767 h5)), tT]) (by kernel_rfl)).to (by clear E1 E2 E3 E4 E5 E6 E7; (try simp only [sl0, wk, wkL, wkO, eqCells, eqCell, mayM, mayRange, mayKind, sizedM] at *); simp [wk, wkL, wkO, eqCells, eqCell, mayM, mayRange, mayKind, sizedM, *]; omega)
    let E8 : EL := E7 ++ List.replicate 3 (tC (eT (leL (-2147483648) h6))) ++ [tC (leL (-2147483648) h6), tC (eF (nt (leC 32767 h5))), tC (nt (leC 32767 h5))]
    rcases bft (decide (imm < 2147483648)) with h7 | h7
    ·let E9 : EL := E8 ++ [tC (nt (leC 2147483647 h7)), .inl]
     by_cases h8 : kind = 0
     ·subst h8
      let E10 : EL := E9 ++ [tT, .inl]
      rcases bft (decide (op < 0)) with h9 | h9
      ·let E11 : EL := E10 ++ List.replicate 3 (tC (eT (leL 0 h9))) ++ [tC (leL 0 h9)] ++ List.replicate 16 tF ++ [.inl]
       cases byReg
       ·exact (o75 (d := .bool false) (E11 ++ [tF, tF, tF, tF, tF, tF, tF]) (by kernel_rfl)).to (by clear E1 E2 E3 E4 E5 E6 E7 E8 E9 E10 E11; (try simp only [sl0, wk, wkL, wkO, eqCells, eqCell, mayM, mayRange, mayKind, sizedM] at *); simp [wk, wkL, wkO, eqCells, eqCell, mayM, mayRange, mayKind, sizedM, *]; omega)
       exact (o75 (d := .bool false) (E11 ++ [tT, tF, tF, tF, tF, tF, tF]) (by kernel_rfl)).to (by clear E1 E2 E3 E4 E5 E6 E7 E8 E9 E10 E11; (try simp only [sl0, wk, wkL, wkO, eqCells, eqCell, mayM, mayRange, mayKind, sizedM] at *); simp [wk, wkL, wkO, eqCells, eqCell, mayM, mayRange, mayKind, sizedM, *]; omega)
      let E12 : EL := E10 ++ List.replicate 3 (tC (eT (leL 0 h9))) ++ [tC (leL 0 h9)]
      rcases bft (decide (op < 13)) with h10 | h10
      ·let E13 : EL := E12 ++ List.replicate 4 (tC (eT (leC 12 h10)))
       by_cases h11 : width = 32
       ·subst h11
        let E14 : EL := E13 ++ [tF, tF, tF, tC (eT (leC 12 h10)), tT, tC (leC 12 h10), tT, tT, tT, tT]
        rcases bft (decide (dst < 10)) with h12 | h12
        ·let E15 : EL := E14 ++ List.replicate 4 (tC (eT h12))
         by_cases h13 : op = 8
         ·subst h13
          cases byReg
          ·by_cases h14 : imm = 0
           ·subst h14
            exact (o75 (d := .bool (eqCells [.int .i8 0, .int .i8 0, .int .i8 0, .int .i8 size, .bool false, .int .i8 0, .int .i8 src, .int .i64 off, .int .i64 0] [.int .i8 0, .int .i8 0, .int .i8 0, .int .i8 0, .bool false, .int .i8 0, .int .i8 0, .int .i64 0, .int .i64 0])) (E15 ++ List.replicate 9 tT ++ [tC (eT h12), tF, tC h12, .inl, tF, tT, tT, tT, tT, tT, .flat _ _ flat_Instr, tT]) (by kernel_rfl)).to (by clear E1 E2 E3 E4 E5 E6 E7 E8 E9 E10 E12 E13 E14 E15; (try simp only [sl0, wk, wkL, wkO, eqCells, eqCell, mayM, mayRange, mayKind, sizedM] at *); rw [Bool.eq_iff_iff]; simp [wk, wkL, wkO, eqCells, eqCell, mayM, mayRange, mayKind, sizedM, *]; omega)
           exact (o75 (d := .bool false) (E15 ++ List.replicate 9 tT ++ [tC (eT h12), tF, tC h12, .inl, tF] ++ List.replicate 5 (tC (eT (neOf h14))) ++ [tC (neOf h14)]) (by kernel_rfl)).to (by clear E1 E2 E3 E4 E5 E6 E7 E8 E9 E10 E12 E13 E14 E15; (try simp only [sl0, wk, wkL, wkO, eqCells, eqCell, mayM, mayRange, mayKind, sizedM] at *); simp [wk, wkL, wkO, eqCells, eqCell, mayM, mayRange, mayKind, sizedM, *]; done)
          exact (o75 (d := .bool false) (E15 ++ [tT, tT, tT, tT, tF, tF, tF, tT, tF, tC (eT h12), tF, tC h12, .inl, tT, tF, tF, tF, tF, tF, tF]) (by kernel_rfl)).to (by clear E1 E2 E3 E4 E5 E6 E7 E8 E9 E10 E12 E13 E14 E15; (try simp only [sl0, wk, wkL, wkO, eqCells, eqCell, mayM, mayRange, mayKind, sizedM] at *); simp [wk, wkL, wkO, eqCells, eqCell, mayM, mayRange, mayKind, sizedM, *]; done)
         let E16 : EL := E15 ++ List.replicate 5 (tC (eF (nt (neOf h13)))) ++ [tC (eT h12), tC (nt (neOf h13)), tC h12, .inl]
         cases byReg
         ·exact (o75 (d := .bool (eqCells [.int .i8 0, .int .i8 0, .int .i8 0, .int .i8 size, .bool false, .int .i8 0, .int .i8 src, .int .i64 off, .int .i64 0] [.int .i8 0, .int .i8 0, .int .i8 0, .int .i8 0, .bool false, .int .i8 0, .int .i8 0, .int .i64 0, .int .i64 0])) (E16 ++ [tF, tT, tT, tT, tT, tT, .flat _ _ flat_Instr, tT]) (by kernel_rfl)).to (by clear E1 E2 E3 E4 E5 E6 E7 E8 E9 E10 E12 E13 E14 E15 E16; (try simp only [sl0, wk, wkL, wkO, eqCells, eqCell, mayM, mayRange, mayKind, sizedM] at *); rw [Bool.eq_iff_iff]; simp [wk, wkL, wkO, eqCells, eqCell, mayM, mayRange, mayKind, sizedM, *]; omega)
         exact (o75 (d := .bool (eqCells [.int .i8 0, .int .i8 0, .int .i8 0, .int .i8 size, .bool false, .int .i8 0, .int .i8 0, .int .i64 off, .int .i64 imm] [.int .i8 0, .int .i8 0, .int .i8 0, .int .i8 0, .bool false, .int .i8 0, .int .i8 0, .int .i64 0, .int .i64 0])) (E16 ++ [tT, tT, tT, tT, tT, tT, .flat _ _ flat_Instr, tT]) (by kernel_rfl)).to (by clear E1 E2 E3 E4 E5 E6 E7 E8 E9 E10 E12 E13 E14 E15 E16; (try simp only [sl0, wk, wkL, wkO, eqCells, eqCell, mayM, mayRange, mayKind, sizedM] at *); rw [Bool.eq_iff_iff]; simp [wk, wkL, wkO, eqCells, eqCell, mayM, mayRange, mayKind, sizedM, *]; omega)
        cases byReg
        ·exact (o75 (d := .bool false) (E14 ++ List.replicate 5 (tC (eT h12)) ++ [tC h12, .inl, tF, tF, tF, tF, tF, tF, tF]) (by kernel_rfl)).to (by clear E1 E2 E3 E4 E5 E6 E7 E8 E9 E10 E12 E13 E14; (try simp only [sl0, wk, wkL, wkO, eqCells, eqCell, mayM, mayRange, mayKind, sizedM] at *); simp [wk, wkL, wkO, eqCells, eqCell, mayM, mayRange, mayKind, sizedM, *]; done)
        exact (o75 (d := .bool false) (E14 ++ List.replicate 5 (tC (eT h12)) ++ [tC h12, .inl, tT, tF, tF, tF, tF, tF, tF]) (by kernel_rfl)).to (by clear E1 E2 E3 E4 E5 E6 E7 E8 E9 E10 E12 E13 E14; (try simp only [sl0, wk, wkL, wkO, eqCells, eqCell, mayM, mayRange, mayKind, sizedM] at *); simp [wk, wkL, wkO, eqCells, eqCell, mayM, mayRange, mayKind, sizedM, *]; done)
       let E17 : EL := E13 ++ List.replicate 3 (tC (eF (neOf h11))) ++ [tC (eT (leC 12 h10)), tC (neOf h11), tC (leC 12 h10)]
       by_cases h15 : width = 64
       ·subst h15
        let E18 : EL := E17 ++ [tT, tT, tT, tT]
        rcases bft (decide (dst < 10)) with h16 | h16
        ·let E19 : EL := E18 ++ List.replicate 4 (tC (eT h16))
         by_cases h17 : op = 8
         ·subst h17
          cases byReg
          ·by_cases h18 : imm = 0
           ·subst h18
            exact (o75 (d := .bool (eqCells [.int .i8 0, .int .i8 0, .int .i8 0, .int .i8 size, .bool false, .int .i8 0, .int .i8 src, .int .i64 off, .int .i64 0] [.int .i8 0, .int .i8 0, .int .i8 0, .int .i8 0, .bool false, .int .i8 0, .int .i8 0, .int .i64 0, .int .i64 0])) (E19 ++ List.replicate 9 tT ++ [tC (eT h16), tF, tC h16, .inl, tF, tT, tT, tT, tT, tT, .flat _ _ flat_Instr, tT]) (by kernel_rfl)).to (by clear E1 E2 E3 E4 E5 E6 E7 E8 E9 E10 E12 E13 E17 E18 E19; (try simp only [sl0, wk, wkL, wkO, eqCells, eqCell, mayM, mayRange, mayKind, sizedM] at *); rw [Bool.eq_iff_iff]; simp [wk, wkL, wkO, eqCells, eqCell, mayM, mayRange, mayKind, sizedM, *]; omega)
           exact (o75 (d := .bool false) (E19 ++ List.replicate 9 tT ++ [tC (eT h16), tF, tC h16, .inl, tF] ++ List.replicate 5 (tC (eT (neOf h18))) ++ [tC (neOf h18)]) (by kernel_rfl)).to (by clear E1 E2 E3 E4 E5 E6 E7 E8 E9 E10 E12 E13 E17 E18 E19; (try simp only [sl0, wk, wkL, wkO, eqCells, eqCell, mayM, mayRange, mayKind, sizedM] at *); simp [wk, wkL, wkO, eqCells, eqCell, mayM, mayRange, mayKind, sizedM, *]; done)
          exact (o75 (d := .bool false) (E19 ++ [tT, tT, tT, tT, tF, tF, tF, tT, tF, tC (eT h16), tF, tC h16, .inl, tT, tF, tF, tF, tF, tF, tF]) (by kernel_rfl)).to (by clear E1 E2 E3 E4 E5 E6 E7 E8 E9 E10 E12 E13 E17 E18 E19; (try simp only [sl0, wk, wkL, wkO, eqCells, eqCell, mayM, mayRange, mayKind, sizedM] at *); simp [wk, wkL, wkO, eqCells, eqCell, mayM, mayRange, mayKind, sizedM, *]; done)
         let E20 : EL := E19 ++ List.replicate 5 (tC (eF (nt (neOf h17)))) ++ [tC (eT h16), tC (nt (neOf h17)), tC h16, .inl]
         cases byReg
         ·exact (o75 (d := .bool (eqCells [.int .i8 0, .int .i8 0, .int .i8 0, .int .i8 size, .bool false, .int .i8 0, .int .i8 src, .int .i64 off, .int .i64 0] [.int .i8 0, .int .i8 0, .int .i8 0, .int .i8 0, .bool false, .int .i8 0, .int .i8 0, .int .i64 0, .int .i64 0])) (E20 ++ [tF, tT, tT, tT, tT, tT, .flat _ _ flat_Instr, tT]) (by kernel_rfl)).to (by clear E1 E2 E3 E4 E5 E6 E7 E8 E9 E10 E12 E13 E17 E18 E19 E20; (try simp only [sl0, wk, wkL, wkO, eqCells, eqCell, mayM, mayRange, mayKind, sizedM] at *); rw [Bool.eq_iff_iff]; simp [wk, wkL, wkO, eqCells, eqCell, mayM, mayRange, mayKind, sizedM, *]; omega)
         exact (o75 (d := .bool (eqCells [.int .i8 0, .int .i8 0, .int .i8 0, .int .i8 size, .bool false, .int .i8 0, .int .i8 0, .int .i64 off, .int .i64 imm] [.int .i8 0, .int .i8 0, .int .i8 0, .int .i8 0, .bool false, .int .i8 0, .int .i8 0, .int .i64 0, .int .i64 0])) (E20 ++ [tT, tT, tT, tT, tT, tT, .flat _ _ flat_Instr, tT]) (by kernel_rfl)).to (by clear E1 E2 E3 E4 E5 E6 E7 E8 E9 E10 E12 E13 E17 E18 E19 E20; (try simp only [sl0, wk, wkL, wkO, eqCells, eqCell, mayM, mayRange, mayKind, sizedM] at *); rw [Bool.eq_iff_iff]; simp [wk, wkL, wkO, eqCells, eqCell, mayM, mayRange, mayKind, sizedM, *]; omega)
        cases byReg
        ·exact (o75 (d := .bool false) (E18 ++ List.replicate 5 (tC (eT h16)) ++ [tC h16, .inl, tF, tF, tF, tF, tF, tF, tF]) (by kernel_rfl)).to (by clear E1 E2 E3 E4 E5 E6 E7 E8 E9 E10 E12 E13 E17 E18; (try simp only [sl0, wk, wkL, wkO, eqCells, eqCell, mayM, mayRange, mayKind, sizedM] at *); simp [wk, wkL, wkO, eqCells, eqCell, mayM, mayRange, mayKind, sizedM, *]; done)
        exact (o75 (d := .bool false) (E18 ++ List.replicate 5 (tC (eT h16)) ++ [tC h16, .inl, tT, tF, tF, tF, tF, tF, tF]) (by kernel_rfl)).to (by clear E1 E2 E3 E4 E5 E6 E7 E8 E9 E10 E12 E13 E17 E18; (try simp only [sl0, wk, wkL, wkO, eqCells, eqCell, mayM, mayRange, mayKind, sizedM] at *); simp [wk, wkL, wkO, eqCells, eqCell, mayM, mayRange, mayKind, sizedM, *]; done)
       let E21 : EL := E17 ++ List.replicate 3 (tC (eT (neOf h15))) ++ [tC (neOf h15), tF, tF, tF, tF, tF, tF, .inl]
       cases byReg
       ·exact (o75 (d := .bool false) (E21 ++ [tF, tF, tF, tF, tF, tF, tF]) (by kernel_rfl)).to (by clear E1 E2 E3 E4 E5 E6 E7 E8 E9 E10 E12 E13 E17 E21; (try simp only [sl0, wk, wkL, wkO, eqCells, eqCell, mayM, mayRange, mayKind, sizedM] at *); simp [wk, wkL, wkO, eqCells, eqCell, mayM, mayRange, mayKind, sizedM, *]; done)
       exact (o75 (d := .bool false) (E21 ++ [tT, tF, tF, tF, tF, tF, tF]) (by kernel_rfl)).to (by clear E1 E2 E3 E4 E5 E6 E7 E8 E9 E10 E12 E13 E17 E21; (try simp only [sl0, wk, wkL, wkO, eqCells, eqCell, mayM, mayRange, mayKind, sizedM] at *); simp [wk, wkL, wkO, eqCells, eqCell, mayM, mayRange, mayKind, sizedM, *]; done)
      let E22 : EL := E12 ++ List.replicate 5 (tC (eT (leC 12 h10))) ++ [tC (leC 12 h10)] ++ List.replicate 10 tF ++ [.inl]
      cases byReg
      ·exact (o75 (d := .bool false) (E22 ++ [tF, tF, tF, tF, tF, tF, tF]) (by kernel_rfl)).to (by clear E1 E2 E3 E4 E5 E6 E7 E8 E9 E10 E12 E22; (try simp only [sl0, wk, wkL, wkO, eqCells, eqCell, mayM, mayRange, mayKind, sizedM] at *); simp [wk, wkL, wkO, eqCells, eqCell, mayM, mayRange, mayKind, sizedM, *]; omega)
      exact (o75 (d := .bool false) (E22 ++ [tT, tF, tF, tF, tF, tF, tF]) (by kernel_rfl)).to (by clear E1 E2 E3 E4 E5 E6 E7 E8 E9 E10 E12 E22; (try simp only [sl0, wk, wkL, wkO, eqCells, eqCell, mayM, mayRange, mayKind, sizedM] at *); simp [wk, wkL, wkO, eqCells, eqCell, mayM, mayRange, mayKind, sizedM, *]; omega)
     let E23 : EL := E9 ++ [tC (neOf h8)]
     by_cases h19 : kind = 1
     ·subst h19
      let E24 : EL := E23 ++ [tT, .inl]
      by_cases h20 : size = 1
      ·subst h20
       rcases bft (decide (dst < 10)) with h21 | h21
       ·exact (o75 (d := .bool (eqCells [.int .i8 1, .int .i8 op, .int .i8 width, .int .i8 0, .bool byReg, .int .i8 0, .int .i8 0, .int .i64 0, .int .i64 imm] [.int .i8 1, .int .i8 0, .int .i8 0, .int .i8 0, .bool false, .int .i8 0, .int .i8 0, .int .i64 0, .int .i64 0])) (E24 ++ [tF, tF, tT, tF, tF, tT, tF, tF, tT, tT, tT, tT, tT] ++ List.replicate 5 (tC (eT h21)) ++ [.flat _ _ flat_Instr, tC h21]) (by kernel_rfl)).to (by clear E1 E2 E3 E4 E5 E6 E7 E8 E9 E23 E24; (try simp only [sl0, wk, wkL, wkO, eqCells, eqCell, mayM, mayRange, mayKind, sizedM] at *); rw [Bool.eq_iff_iff]; simp [wk, wkL, wkO, eqCells, eqCell, mayM, mayRange, mayKind, sizedM, *]; grind)
       exact (o75 (d := .bool false) (E24 ++ [tF, tF, tT, tF, tF, tT, tF, tF, tT, tT, tT, tT, tT] ++ List.replicate 5 (tC (eT h21)) ++ [tC h21]) (by kernel_rfl)).to (by clear E1 E2 E3 E4 E5 E6 E7 E8 E9 E23 E24; (try simp only [sl0, wk, wkL, wkO, eqCells, eqCell, mayM, mayRange, mayKind, sizedM] at *); simp [wk, wkL, wkO, eqCells, eqCell, mayM, mayRange, mayKind, sizedM, *]; done)
      let E25 : EL := E24 ++ [tC (eF (neOf h20)), tC (eF (neOf h20)), tC (neOf h20)]
      by_cases h22 : size = 2
      ·subst h22
       rcases bft (decide (dst < 10)) with h23 | h23
       ·exact (o75 (d := .bool (eqCells [.int .i8 1, .int .i8 op, .int .i8 width, .int .i8 0, .bool byReg, .int .i8 0, .int .i8 0, .int .i64 0, .int .i64 imm] [.int .i8 1, .int .i8 0, .int .i8 0, .int .i8 0, .bool false, .int .i8 0, .int .i8 0, .int .i64 0, .int .i64 0])) (E25 ++ [tF, tF, tT, tF, tF, tT, tT, tT, tT, tT] ++ List.replicate 5 (tC (eT h23)) ++ [.flat _ _ flat_Instr, tC h23]) (by kernel_rfl)).to (by clear E1 E2 E3 E4 E5 E6 E7 E8 E9 E23 E24 E25; (try simp only [sl0, wk, wkL, wkO, eqCells, eqCell, mayM, mayRange, mayKind, sizedM] at *); rw [Bool.eq_iff_iff]; simp [wk, wkL, wkO, eqCells, eqCell, mayM, mayRange, mayKind, sizedM, *]; grind)
       exact (o75 (d := .bool false) (E25 ++ [tF, tF, tT, tF, tF, tT, tT, tT, tT, tT] ++ List.replicate 5 (tC (eT h23)) ++ [tC h23]) (by kernel_rfl)).to (by clear E1 E2 E3 E4 E5 E6 E7 E8 E9 E23 E24 E25; (try simp only [sl0, wk, wkL, wkO, eqCells, eqCell, mayM, mayRange, mayKind, sizedM] at *); simp [wk, wkL, wkO, eqCells, eqCell, mayM, mayRange, mayKind, sizedM, *]; done)
      let E26 : EL := E25 ++ [tC (eF (neOf h22)), tC (eF (neOf h22)), tC (neOf h22)]
      by_cases h24 : size = 4
      ·subst h24
       rcases bft (decide (dst < 10)) with h25 | h25
       ·exact (o75 (d := .bool (eqCells [.int .i8 1, .int .i8 op, .int .i8 width, .int .i8 0, .bool byReg, .int .i8 0, .int .i8 0, .int .i64 0, .int .i64 imm] [.int .i8 1, .int .i8 0, .int .i8 0, .int .i8 0, .bool false, .int .i8 0, .int .i8 0, .int .i64 0, .int .i64 0])) (E26 ++ [tF, tF, tT, tT, tT, tT, tT] ++ List.replicate 5 (tC (eT h25)) ++ [.flat _ _ flat_Instr, tC h25]) (by kernel_rfl)).to (by clear E1 E2 E3 E4 E5 E6 E7 E8 E9 E23 E24 E25 E26; (try simp only [sl0, wk, wkL, wkO, eqCells, eqCell, mayM, mayRange, mayKind, sizedM] at *); rw [Bool.eq_iff_iff]; simp [wk, wkL, wkO, eqCells, eqCell, mayM, mayRange, mayKind, sizedM, *]; grind)
       exact (o75 (d := .bool false) (E26 ++ [tF, tF, tT, tT, tT, tT, tT] ++ List.replicate 5 (tC (eT h25)) ++ [tC h25]) (by kernel_rfl)).to (by clear E1 E2 E3 E4 E5 E6 E7 E8 E9 E23 E24 E25 E26; (try simp only [sl0, wk, wkL, wkO, eqCells, eqCell, mayM, mayRange, mayKind, sizedM] at *); simp [wk, wkL, wkO, eqCells, eqCell, mayM, mayRange, mayKind, sizedM, *]; done)
      let E27 : EL := E26 ++ [tC (eF (neOf h24)), tC (eF (neOf h24)), tC (neOf h24)]
      by_cases h26 : size = 8
      ·subst h26
       rcases bft (decide (dst < 10)) with h27 | h27
       ·exact (o75 (d := .bool (eqCells [.int .i8 1, .int .i8 op, .int .i8 width, .int .i8 0, .bool byReg, .int .i8 0, .int .i8 0, .int .i64 0, .int .i64 imm] [.int .i8 1, .int .i8 0, .int .i8 0, .int .i8 0, .bool false, .int .i8 0, .int .i8 0, .int .i64 0, .int .i64 0])) (E27 ++ [tT, tT, tT, tT] ++ List.replicate 5 (tC (eT h27)) ++ [.flat _ _ flat_Instr, tC h27]) (by kernel_rfl)).to (by clear E1 E2 E3 E4 E5 E6 E7 E8 E9 E23 E24 E25 E26 E27; (try simp only [sl0, wk, wkL, wkO, eqCells, eqCell, mayM, mayRange, mayKind, sizedM] at *); rw [Bool.eq_iff_iff]; simp [wk, wkL, wkO, eqCells, eqCell, mayM, mayRange, mayKind, sizedM, *]; grind)
       exact (o75 (d := .bool false) (E27 ++ [tT, tT, tT, tT] ++ List.replicate 5 (tC (eT h27)) ++ [tC h27]) (by kernel_rfl)).to (by clear E1 E2 E3 E4 E5 E6 E7 E8 E9 E23 E24 E25 E26 E27; (try simp only [sl0, wk, wkL, wkO, eqCells, eqCell, mayM, mayRange, mayKind, sizedM] at *); simp [wk, wkL, wkO, eqCells, eqCell, mayM, mayRange, mayKind, sizedM, *]; done)
      exact (o75 (d := .bool false) (E27 ++ List.replicate 3 (tC (eT (neOf h26))) ++ [tC (neOf h26), tF, tF, tF, tF, tF, tF]) (by kernel_rfl)).to (by clear E1 E2 E3 E4 E5 E6 E7 E8 E9 E23 E24 E25 E26 E27; (try simp only [sl0, wk, wkL, wkO, eqCells, eqCell, mayM, mayRange, mayKind, sizedM] at *); simp [wk, wkL, wkO, eqCells, eqCell, mayM, mayRange, mayKind, sizedM, *]; done)
     let E28 : EL := E23 ++ [tC (neOf h19)]
     by_cases h28 : kind = 2
     ·subst h28
      by_cases h29 : size = 1
      ·subst h29
       exact (o75 (d := .bool (eqCells [.int .i8 2, .int .i8 op, .int .i8 width, .int .i8 0, .bool byReg, .int .i8 0, .int .i8 0, .int .i64 0, .int .i64 imm] [.int .i8 2, .int .i8 0, .int .i8 0, .int .i8 0, .bool false, .int .i8 0, .int .i8 0, .int .i64 0, .int .i64 0])) (E28 ++ [tT, .inl, tF, tF, tT, tF, tF, tT, tF, tF, tT, tT, tT, tT, tT, tT, .flat _ _ flat_Instr, tT]) (by kernel_rfl)).to (by clear E1 E2 E3 E4 E5 E6 E7 E8 E9 E23 E28; (try simp only [sl0, wk, wkL, wkO, eqCells, eqCell, mayM, mayRange, mayKind, sizedM] at *); rw [Bool.eq_iff_iff]; simp [wk, wkL, wkO, eqCells, eqCell, mayM, mayRange, mayKind, sizedM, *]; grind)
      let E29 : EL := E28 ++ [tT, .inl, tC (eF (neOf h29)), tC (eF (neOf h29)), tC (neOf h29)]
      by_cases h30 : size = 2
      ·subst h30
       exact (o75 (d := .bool (eqCells [.int .i8 2, .int .i8 op, .int .i8 width, .int .i8 0, .bool byReg, .int .i8 0, .int .i8 0, .int .i64 0, .int .i64 imm] [.int .i8 2, .int .i8 0, .int .i8 0, .int .i8 0, .bool false, .int .i8 0, .int .i8 0, .int .i64 0, .int .i64 0])) (E29 ++ [tF, tF, tT, tF, tF, tT, tT, tT, tT, tT, tT, .flat _ _ flat_Instr, tT]) (by kernel_rfl)).to (by clear E1 E2 E3 E4 E5 E6 E7 E8 E9 E23 E28 E29; (try simp only [sl0, wk, wkL, wkO, eqCells, eqCell, mayM, mayRange, mayKind, sizedM] at *); rw [Bool.eq_iff_iff]; simp [wk, wkL, wkO, eqCells, eqCell, mayM, mayRange, mayKind, sizedM, *]; grind)
      let E30 : EL := E29 ++ [tC (eF (neOf h30)), tC (eF (neOf h30)), tC (neOf h30)]
      by_cases h31 : size = 4
      ·subst h31
       exact (o75 (d := .bool (eqCells [.int .i8 2, .int .i8 op, .int .i8 width, .int .i8 0, .bool byReg, .int .i8 0, .int .i8 0, .int .i64 0, .int .i64 imm] [.int .i8 2, .int .i8 0, .int .i8 0, .int .i8 0, .bool false, .int .i8 0, .int .i8 0, .int .i64 0, .int .i64 0])) (E30 ++ [tF, tF, tT, tT, tT, tT, tT, tT, .flat _ _ flat_Instr, tT]) (by kernel_rfl)).to (by clear E1 E2 E3 E4 E5 E6 E7 E8 E9 E23 E28 E29 E30; (try simp only [sl0, wk, wkL, wkO, eqCells, eqCell, mayM, mayRange, mayKind, sizedM] at *); rw [Bool.eq_iff_iff]; simp [wk, wkL, wkO, eqCells, eqCell, mayM, mayRange, mayKind, sizedM, *]; grind)
      by_cases h32 : size = 8
      ·subst h32
       exact (o75 (d := .bool (eqCells [.int .i8 2, .int .i8 op, .int .i8 width, .int .i8 0, .bool byReg, .int .i8 0, .int .i8 0, .int .i64 0, .int .i64 imm] [.int .i8 2, .int .i8 0, .int .i8 0, .int .i8 0, .bool false, .int .i8 0, .int .i8 0, .int .i64 0, .int .i64 0])) (E30 ++ [tC (eF (neOf h31)), tC (eF (neOf h31)), tC (neOf h31), tT, tT, tT, tT, tT, .flat _ _ flat_Instr, tT]) (by kernel_rfl)).to (by clear E1 E2 E3 E4 E5 E6 E7 E8 E9 E23 E28 E29 E30; (try simp only [sl0, wk, wkL, wkO, eqCells, eqCell, mayM, mayRange, mayKind, sizedM] at *); rw [Bool.eq_iff_iff]; simp [wk, wkL, wkO, eqCells, eqCell, mayM, mayRange, mayKind, sizedM, *]; grind)
      exact (o75 (d := .bool false) (E30 ++ [tC (eF (neOf h31)), tC (eF (neOf h31)), tC (neOf h31)] ++ List.replicate 5 (tC (eT (neOf h32))) ++ [tC (neOf h32)]) (by kernel_rfl)).to (by clear E1 E2 E3 E4 E5 E6 E7 E8 E9 E23 E28 E29 E30; (try simp only [sl0, wk, wkL, wkO, eqCells, eqCell, mayM, mayRange, mayKind, sizedM] at *); simp [wk, wkL, wkO, eqCells, eqCell, mayM, mayRange, mayKind, sizedM, *]; done)
     let E31 : EL := E28 ++ [tC (neOf h28)]
     by_cases h33 : kind = 3
     ·subst h33
      rcases bft (decide (op < 0)) with h34 | h34
      ·let E32 : EL := E31 ++ [tT, .inl] ++ List.replicate 3 (tC (eT (leL 0 h34))) ++ [tC (leL 0 h34), .inl]
       cases byReg
       ·exact (o75 (d := .bool false) (E32 ++ [tF, tF, tF, tF, tF, tF, tF]) (by kernel_rfl)).to (by clear E1 E2 E3 E4 E5 E6 E7 E8 E9 E23 E28 E31 E32; (try simp only [sl0, wk, wkL, wkO, eqCells, eqCell, mayM, mayRange, mayKind, sizedM] at *); simp [wk, wkL, wkO, eqCells, eqCell, mayM, mayRange, mayKind, sizedM, *]; omega)
       exact (o75 (d := .bool false) (E32 ++ [tT, tF, tF, tF, tF, tF, tF]) (by kernel_rfl)).to (by clear E1 E2 E3 E4 E5 E6 E7 E8 E9 E23 E28 E31 E32; (try simp only [sl0, wk, wkL, wkO, eqCells, eqCell, mayM, mayRange, mayKind, sizedM] at *); simp [wk, wkL, wkO, eqCells, eqCell, mayM, mayRange, mayKind, sizedM, *]; omega)
      let E33 : EL := E31 ++ [tT, .inl] ++ List.replicate 3 (tC (eT (leL 0 h34))) ++ [tC (leL 0 h34), .inl]
      cases byReg
      ·rcases bft (decide (op < 11)) with h35 | h35
       ·exact (o75 (d := .bool (eqCells [.int .i8 3, .int .i8 0, .int .i8 width, .int .i8 size, .bool false, .int .i8 0, .int .i8 src, .int .i64 0, .int .i64 0] [.int .i8 3, .int .i8 0, .int .i8 0, .int .i8 0, .bool false, .int .i8 0, .int .i8 0, .int .i64 0, .int .i64 0])) (E33 ++ [tF] ++ List.replicate 5 (tC (eT (leC 10 h35))) ++ [.flat _ _ flat_Instr, tC (leC 10 h35)]) (by kernel_rfl)).to (by clear E1 E2 E3 E4 E5 E6 E7 E8 E9 E23 E28 E31 E33; (try simp only [sl0, wk, wkL, wkO, eqCells, eqCell, mayM, mayRange, mayKind, sizedM] at *); rw [Bool.eq_iff_iff]; simp [wk, wkL, wkO, eqCells, eqCell, mayM, mayRange, mayKind, sizedM, *]; omega)
       exact (o75 (d := .bool false) (E33 ++ [tF] ++ List.replicate 5 (tC (eT (leC 10 h35))) ++ [tC (leC 10 h35)]) (by kernel_rfl)).to (by clear E1 E2 E3 E4 E5 E6 E7 E8 E9 E23 E28 E31 E33; (try simp only [sl0, wk, wkL, wkO, eqCells, eqCell, mayM, mayRange, mayKind, sizedM] at *); simp [wk, wkL, wkO, eqCells, eqCell, mayM, mayRange, mayKind, sizedM, *]; omega)
      rcases bft (decide (op < 11)) with h36 | h36
      ·exact (o75 (d := .bool (eqCells [.int .i8 3, .int .i8 0, .int .i8 width, .int .i8 size, .bool false, .int .i8 0, .int .i8 0, .int .i64 0, .int .i64 imm] [.int .i8 3, .int .i8 0, .int .i8 0, .int .i8 0, .bool false, .int .i8 0, .int .i8 0, .int .i64 0, .int .i64 0])) (E33 ++ [tT] ++ List.replicate 5 (tC (eT (leC 10 h36))) ++ [.flat _ _ flat_Instr, tC (leC 10 h36)]) (by kernel_rfl)).to (by clear E1 E2 E3 E4 E5 E6 E7 E8 E9 E23 E28 E31 E33; (try simp only [sl0, wk, wkL, wkO, eqCells, eqCell, mayM, mayRange, mayKind, sizedM] at *); rw [Bool.eq_iff_iff]; simp [wk, wkL, wkO, eqCells, eqCell, mayM, mayRange, mayKind, sizedM, *]; omega)
      exact (o75 (d := .bool false) (E33 ++ [tT] ++ List.replicate 5 (tC (eT (leC 10 h36))) ++ [tC (leC 10 h36)]) (by kernel_rfl)).to (by clear E1 E2 E3 E4 E5 E6 E7 E8 E9 E23 E28 E31 E33; (try simp only [sl0, wk, wkL, wkO, eqCells, eqCell, mayM, mayRange, mayKind, sizedM] at *); simp [wk, wkL, wkO, eqCells, eqCell, mayM, mayRange, mayKind, sizedM, *]; omega)
     by_cases h37 : kind = 4
     ·subst h37
      exact (o75 (d := .bool (eqCells [.int .i8 4, .int .i8 op, .int .i8 width, .int .i8 size, .bool byReg, .int .i8 dst, .int .i8 src, .int .i64 0, .int .i64 imm] [.int .i8 4, .int .i8 0, .int .i8 0, .int .i8 0, .bool false, .int .i8 0, .int .i8 0, .int .i64 0, .int .i64 0])) (E31 ++ [tC (neOf h33), tT, tT, tT, tT, tT, tT, .flat _ _ flat_Instr, tT]) (by kernel_rfl)).to (by clear E1 E2 E3 E4 E5 E6 E7 E8 E9 E23 E28 E31; (try simp only [sl0, wk, wkL, wkO, eqCells, eqCell, mayM, mayRange, mayKind, sizedM] at *); rw [Bool.eq_iff_iff]; simp [wk, wkL, wkO, eqCells, eqCell, mayM, mayRange, mayKind, sizedM, *]; grind)
     let E34 : EL := E31 ++ [tC (neOf h33), tC (neOf h37)]
     by_cases h38 : kind = 5
     ·subst h38
      rcases bft (decide (imm < 0)) with h39 | h39
      ·exact (o75 (d := .bool false) (E34 ++ [tT, .inl] ++ List.replicate 3 (tC (eT (leL 0 h39))) ++ [tC (leL 0 h39), tF, tF, tF, tF, tF, tF]) (by kernel_rfl)).to (by clear E1 E2 E3 E4 E5 E6 E7 E8 E9 E23 E28 E31 E34; (try simp only [sl0, wk, wkL, wkO, eqCells, eqCell, mayM, mayRange, mayKind, sizedM] at *); simp [wk, wkL, wkO, eqCells, eqCell, mayM, mayRange, mayKind, sizedM, *]; omega)
      rcases bft (decide (imm < 16)) with h40 | h40
      ·exact (o75 (d := .bool (eqCells [.int .i8 5, .int .i8 op, .int .i8 width, .int .i8 size, .bool byReg, .int .i8 dst, .int .i8 src, .int .i64 off, .int .i64 0] [.int .i8 5, .int .i8 0, .int .i8 0, .int .i8 0, .bool false, .int .i8 0, .int .i8 0, .int .i64 0, .int .i64 0])) (E34 ++ [tT, .inl] ++ List.replicate 3 (tC (eT (leL 0 h39))) ++ [tC (leL 0 h39)] ++ List.replicate 5 (tC (eT (leC 15 h40))) ++ [.flat _ _ flat_Instr, tC (leC 15 h40)]) (by kernel_rfl)).to (by clear E1 E2 E3 E4 E5 E6 E7 E8 E9 E23 E28 E31 E34; (try simp only [sl0, wk, wkL, wkO, eqCells, eqCell, mayM, mayRange, mayKind, sizedM] at *); rw [Bool.eq_iff_iff]; simp [wk, wkL, wkO, eqCells, eqCell, mayM, mayRange, mayKind, sizedM, *]; grind)
      exact (o75 (d := .bool false) (E34 ++ [tT, .inl] ++ List.replicate 3 (tC (eT (leL 0 h39))) ++ [tC (leL 0 h39)] ++ List.replicate 5 (tC (eT (leC 15 h40))) ++ [tC (leC 15 h40)]) (by kernel_rfl)).to (by clear E1 E2 E3 E4 E5 E6 E7 E8 E9 E23 E28 E31 E34; (try simp only [sl0, wk, wkL, wkO, eqCells, eqCell, mayM, mayRange, mayKind, sizedM] at *); simp [wk, wkL, wkO, eqCells, eqCell, mayM, mayRange, mayKind, sizedM, *]; omega)
     by_cases h41 : kind = 6
     ·subst h41
      exact (o75 (d := .bool (eqCells [.int .i8 6, .int .i8 op, .int .i8 width, .int .i8 size, .bool byReg, .int .i8 dst, .int .i8 src, .int .i64 off, .int .i64 imm] [.int .i8 6, .int .i8 0, .int .i8 0, .int .i8 0, .bool false, .int .i8 0, .int .i8 0, .int .i64 0, .int .i64 0])) (E34 ++ [tC (neOf h38), tT, tT, tT, tT, tT, tT, .flat _ _ flat_Instr, tT]) (by kernel_rfl)).to (by clear E1 E2 E3 E4 E5 E6 E7 E8 E9 E23 E28 E31 E34; (try simp only [sl0, wk, wkL, wkO, eqCells, eqCell, mayM, mayRange, mayKind, sizedM] at *); rw [Bool.eq_iff_iff]; simp [wk, wkL, wkO, eqCells, eqCell, mayM, mayRange, mayKind, sizedM, *]; grind)
     exact (o75 (d := .bool false) (E34 ++ [tC (neOf h38), tC (neOf h41), tF, tF, tF, tF, tF, tF]) (by kernel_rfl)).to (by clear E1 E2 E3 E4 E5 E6 E7 E8 E9 E23 E28 E31 E34; (try simp only [sl0, wk, wkL, wkO, eqCells, eqCell, mayM, mayRange, mayKind, sizedM] at *); simp [wk, wkL, wkO, eqCells, eqCell, mayM, mayRange, mayKind, sizedM, *]; done)
    exact (o75 (d := .bool false) (E8 ++ [tC (nt (leC 2147483647 h7))]) (by kernel_rfl)).to (by clear E1 E2 E3 E4 E5 E6 E7 E8; (try simp only [sl0, wk, wkL, wkO, eqCells, eqCell, mayM, mayRange, mayKind, sizedM] at *); simp [wk, wkL, wkO, eqCells, eqCell, mayM, mayRange, mayKind, sizedM, *]; omega)
   exact (o75 (d := .bool false) (E6 ++ List.replicate 4 (tC (eF (nt (leC 32767 h5)))) ++ [tC (nt (leC 32767 h5)), tT]) (by kernel_rfl)).to (by clear E1 E2 E3 E4 E5 E6; (try simp only [sl0, wk, wkL, wkO, eqCells, eqCell, mayM, mayRange, mayKind, sizedM] at *); simp [wk, wkL, wkO, eqCells, eqCell, mayM, mayRange, mayKind, sizedM, *]; omega)
  exact (o75 (d := .bool false) (E4 ++ List.replicate 4 (tC (eF (nt (leC 10 h3)))) ++ [tC (nt (leC 10 h3)), tF, tF, tF, tF, tT, tT]) (by kernel_rfl)).to (by clear E1 E2 E3 E4; (try simp only [sl0, wk, wkL, wkO, eqCells, eqCell, mayM, mayRange, mayKind, sizedM] at *); simp [wk, wkL, wkO, eqCells, eqCell, mayM, mayRange, mayKind, sizedM, *]; omega)
 exact (o75 (d := .bool false) (E2 ++ List.replicate 4 (tC (eF (nt (leC 10 h1)))) ++ [tC (nt (leC 10 h1)), tF, tF, tF, tF, tT, tF, tF, tF, tF, tT, tT]) (by kernel_rfl)).to (by clear E1 E2; (try simp only [sl0, wk, wkL, wkO, eqCells, eqCell, mayM, mayRange, mayKind, sizedM] at *); simp [wk, wkL, wkO, eqCells, eqCell, mayM, mayRange, mayKind, sizedM, *]; omega)
end Go.Proofs.Ytcngafhpodeenaa

namespace Go.Proofs.Ytcngafhpodeenaa
open Go Go.Ev
set_option maxRecDepth 100000
set_option maxHeartbeats 8000000
theorem fields3_ok (kind op width size : Int) (byReg : Bool) (dst src off imm : Int) : Ret Try.prog 147 ([instD kind op width size byReg dst src off imm]) (instD kind (fOp kind op) (fWidth kind width) (fSize kind size) (fByReg kind op byReg) (fDst kind dst) (fSrc kind op byReg src) (fOff kind off) (fImm kind op byReg imm)) := by
 by_cases h0 : kind = 0
 ·subst h0
  cases byReg
  ·by_cases h1 : op = 8
   ·subst h1
    exact (o147 (d := (instD 0 8 width 0 false dst 0 0 0)) [tT, tF, tF, tF, tF, tF, tF] (by kernel_rfl)).to (by simp [wk, wkL, fOp, fWidth, fSize, fByReg, fDst, fSrc, fOff, fImm, *])
   exact (o147 (d := (instD 0 op width 0 false dst 0 0 imm)) [tT, tF, tF, tF, tF, tF, tC (nt (neOf h1))] (by kernel_rfl)).to (by simp [wk, wkL, fOp, fWidth, fSize, fByReg, fDst, fSrc, fOff, fImm, *])
  by_cases h2 : op = 8
  ·subst h2
   exact (o147 (d := (instD 0 8 width 0 false dst 0 0 0)) [tT, tT, tT, tT, tT, tF, tF] (by kernel_rfl)).to (by simp [wk, wkL, fOp, fWidth, fSize, fByReg, fDst, fSrc, fOff, fImm, *])
  exact (o147 (d := (instD 0 op width 0 (op != 8) dst src 0 0)) [tT, tT, tT, tT, tT, tC (nt (neOf h2))] (by kernel_rfl)).to (by simp [wk, wkL, fOp, fWidth, fSize, fByReg, fDst, fSrc, fOff, fImm, *])
 let E1 : EL := [tC (neOf h0)]
 by_cases h3 : kind = 1
 ·subst h3
  exact (o147 (d := (instD 1 0 0 size false dst src off 0)) (E1 ++ [tT]) (by kernel_rfl)).to (by clear E1; simp [wk, wkL, fOp, fWidth, fSize, fByReg, fDst, fSrc, fOff, fImm, *])
 by_cases h4 : kind = 2
 ·subst h4
  exact (o147 (d := (instD 2 0 0 size false dst src off 0)) (E1 ++ [tC (neOf h3), tT]) (by kernel_rfl)).to (by clear E1; simp [wk, wkL, fOp, fWidth, fSize, fByReg, fDst, fSrc, fOff, fImm, *])
 let E2 : EL := E1 ++ [tC (neOf h3), tC (neOf h4)]
 by_cases h5 : kind = 3
 ·subst h5
  cases byReg
  ·exact (o147 (d := (instD 3 op 0 0 false dst 0 off imm)) (E2 ++ [tT, tF]) (by kernel_rfl)).to (by clear E1 E2; simp [wk, wkL, fOp, fWidth, fSize, fByReg, fDst, fSrc, fOff, fImm, *])
  exact (o147 (d := (instD 3 op 0 0 true dst src off 0)) (E2 ++ [tT, tT]) (by kernel_rfl)).to (by clear E1 E2; simp [wk, wkL, fOp, fWidth, fSize, fByReg, fDst, fSrc, fOff, fImm, *])
 by_cases h6 : kind = 4
 ·subst h6
  exact (o147 (d := (instD 4 0 0 0 false 0 0 off 0)) (E2 ++ [tC (neOf h5), tT]) (by kernel_rfl)).to (by clear E1 E2; simp [wk, wkL, fOp, fWidth, fSize, fByReg, fDst, fSrc, fOff, fImm, *])
 by_cases h7 : kind = 5
 ·subst h7
  exact (o147 (d := (instD 5 0 0 0 false 0 0 0 imm)) (E2 ++ [tC (neOf h5), tC (neOf h6), tT]) (by kernel_rfl)).to (by clear E1 E2; simp [wk, wkL, fOp, fWidth, fSize, fByReg, fDst, fSrc, fOff, fImm, *])
 exact (o147 (d := (instD kind 0 0 0 false 0 0 0 0)) (E2 ++ [tC (neOf h5), tC (neOf h6), tC (neOf h7)]) (by kernel_rfl)).to (by clear E1 E2; simp [wk, wkL, fOp, fWidth, fSize, fByReg, fDst, fSrc, fOff, fImm, *])
theorem sized3_ok (n : Int) : Ret Try.prog 148 ([.int .i8 n]) (.bool (sizedM n)) := by
 by_cases h0 : n = 1
 ·subst h0
  exact (o148 (d := .bool true) [tF, tF, tT, tF, tF, tT, tF, tF, tT] (by kernel_rfl)).to (by (try simp only [sl0, wk, wkL, wkO, eqCells, eqCell, sizedM] at *); simp [wk, wkL, wkO, eqCells, eqCell, sizedM, *]; done)
 let E1 : EL := [tC (eF (neOf h0)), tC (eF (neOf h0)), tC (neOf h0)]
 by_cases h1 : n = 2
 ·subst h1
  exact (o148 (d := .bool true) (E1 ++ [tF, tF, tT, tF, tF, tT]) (by kernel_rfl)).to (by clear E1; (try simp only [sl0, wk, wkL, wkO, eqCells, eqCell, sizedM] at *); simp [wk, wkL, wkO, eqCells, eqCell, sizedM, *]; done)
 by_cases h2 : n = 4
 ·subst h2
  exact (o148 (d := .bool true) (E1 ++ [tC (eF (neOf h1)), tC (eF (neOf h1)), tC (neOf h1), tF, tF, tT]) (by kernel_rfl)).to (by clear E1; (try simp only [sl0, wk, wkL, wkO, eqCells, eqCell, sizedM] at *); simp [wk, wkL, wkO, eqCells, eqCell, sizedM, *]; done)
 exact (o148 (d := .bool (n == 8)) (E1 ++ [tC (eF (neOf h1)), tC (eF (neOf h1)), tC (neOf h1), tC (eF (neOf h2)), tC (eF (neOf h2)), tC (neOf h2)]) (by kernel_rfl)).to (by clear E1; (try simp only [sl0, wk, wkL, wkO, eqCells, eqCell, sizedM] at *); rw [Bool.eq_iff_iff]; simp [wk, wkL, wkO, eqCells, eqCell, sizedM, *]; done)
theorem refMay_ok (kind op width size : Int) (byReg : Bool) (dst src off imm : Int) : Ret Try.prog 94 ([instD kind op width size byReg dst src off imm]) (.bool (mayM kind op width size byReg dst src off imm)) := by
 rcases bft (decide (kind < 0)) with h0 | h0
 ·exact (o94 (d := .bool false) [tC (eF h0), tC (eF h0), tC (eF h0), tC h0, tF, tF, tF, tF, tT, tF, tF, tF, tT, tF, tF, tF, tT, tF, tF, tF, tT, tF, tF, tF, tT, tF, tF, tF, tT, tF, tF, tF, tT, tF, tF, tF, tT, tF, tF, tF, tT, tT] (by kernel_rfl)).to (by (try simp only [sl0, wk, wkL, wkO, eqCells, eqCell, mayM, mayRange, mayKind, sizedM, fOp, fWidth, fSize, fByReg, fDst, fSrc, fOff, fImm] at *); rw [Bool.eq_iff_iff]; simp [wk, wkL, wkO, eqCells, eqCell, mayM, mayRange, mayKind, sizedM, fOp, fWidth, fSize, fByReg, fDst, fSrc, fOff, fImm, *]; grind)
 let E1 : EL := [tC (eF h0), tC (eF h0), tC (eF h0), tC h0]
 rcases bft (decide (kind < 7)) with h1 | h1
 ·have c2 := @fields3_ok kind op width size byReg dst src off imm
  generalize g4 : fOp kind op = r3 at c2
  generalize g6 : fWidth kind width = r5 at c2
  generalize g8 : fSize kind size = r7 at c2
  generalize g10 : fByReg kind op byReg = r9 at c2
  generalize g12 : fDst kind dst = r11 at c2
  generalize g14 : fSrc kind op byReg src = r13 at c2
  generalize g16 : fOff kind off = r15 at c2
  generalize g18 : fImm kind op byReg imm = r17 at c2
  let E2 : EL := E1 ++ List.replicate 3 (tC (eF (ltL 6 h1))) ++ [.ret _ _ _ c2, tC (eF (ltL 6 h1)), .flat _ _ flat_Instr, tC (ltL 6 h1)]
  rcases bft (op == r3) with h19 | h19
  ·rcases bft (width == r5) with h20 | h20
   ·rcases bft (size == r7) with h21 | h21
    ·rcases bft (byReg == r9) with h22 | h22
     ·rcases bft (dst == r11) with h23 | h23
      ·rcases bft (src == r13) with h24 | h24
       ·rcases bft (off == r15) with h25 | h25
        ·rcases bft (imm == r17) with h26 | h26
         ·rcases bft (decide (dst < 0)) with h27 | h27
          ·exact (o94 (d := .bool false) (E2 ++ List.replicate 3 (tC (eF (nt (andT (beq_self_eq_true kind) (andT h19 (andT h20 (andT h21 (andT h22 (andT h23 (andT h24 (andT h25 (andT h26 (rfl : true = true))))))))))))) ++ [tC (nt (andT (beq_self_eq_true kind) (andT h19 (andT h20 (andT h21 (andT h22 (andT h23 (andT h24 (andT h25 (andT h26 (rfl : true = true))))))))))), tC (eF h27), tC (eF h27), tC (eF h27), tC h27, tF, tF, tF, tT, tF, tF, tF, tT, tF, tF, tF, tT, tF, tF, tF, tT, tF, tF, tF, tT, tF, tF, tF, tT, tT]) (by kernel_rfl)).to (by clear E1 E2; (try simp only [sl0, wk, wkL, wkO, eqCells, eqCell, mayM, mayRange, mayKind, sizedM, fOp, fWidth, fSize, fByReg, fDst, fSrc, fOff, fImm] at *); simp [wk, wkL, wkO, eqCells, eqCell, mayM, mayRange, mayKind, sizedM, fOp, fWidth, fSize, fByReg, fDst, fSrc, fOff, fImm, *]; omega)
          rcases bft (decide (dst < 11)) with h28 | h28
          ·rcases bft (decide (src < 0)) with h29 | h29
           ·exact (o94 (d := .bool false) (E2 ++ List.replicate 3 (tC (eF (nt (andT (beq_self_eq_true kind) (andT h19 (andT h20 (andT h21 (andT h22 (andT h23 (andT h24 (andT h25 (andT h26 (rfl : true = true))))))))))))) ++ [tC (nt (andT (beq_self_eq_true kind) (andT h19 (andT h20 (andT h21 (andT h22 (andT h23 (andT h24 (andT h25 (andT h26 (rfl : true = true))))))))))), tC (eF h27), tC (eF h27), tC (eF h27), tC h27] ++ List.replicate 3 (tC (eF (ltL 10 h28))) ++ [tC (ltL 10 h28), tC (eF h29), tC (eF h29), tC (eF h29), tC h29, tF, tF, tF, tT, tF, tF, tF, tT, tF, tF, tF, tT, tF, tF, tF, tT, tT]) (by kernel_rfl)).to (by clear E1 E2; (try simp only [sl0, wk, wkL, wkO, eqCells, eqCell, mayM, mayRange, mayKind, sizedM, fOp, fWidth, fSize, fByReg, fDst, fSrc, fOff, fImm] at *); simp [wk, wkL, wkO, eqCells, eqCell, mayM, mayRange, mayKind, sizedM, fOp, fWidth, fSize, fByReg, fDst, fSrc, fOff, fImm, *]; omega)
           rcases bft (decide (src < 11)) with h30 | h30
           ·rcases bft (decide (off < (-32768))) with h31 | h31
            ·exact (o94 (d := .bool false) (E2 ++ List.replicate 3 (tC (eF (nt (andT (beq_self_eq_true kind) (andT h19 (andT h20 (andT h21 (andT h22 (andT h23 (andT h24 (andT h25 (andT h26 (rfl : true = true))))))))))))) ++ [tC (nt (andT (beq_self_eq_true kind) (andT h19 (andT h20 (andT h21 (andT h22 (andT h23 (andT h24 (andT h25 (andT h26 (rfl : true = true))))))))))), tC (eF h27), tC (eF h27), tC (eF h27), tC h27] ++ List.replicate 3 (tC (eF (ltL 10 h28))) ++ [tC (ltL 10 h28), tC (eF h29), tC (eF h29), tC (eF h29), tC h29] ++ List.replicate 3 (tC (eF (ltL 10 h30))) ++ [tC (ltL 10 h30), tC (eF h31), tC (eF h31), tC (eF h31), tC h31, tF, tF, tF, tT, tF, tF, tF, tT, tT]) (by kernel_rfl)).to (by clear E1 E2; (try simp only [sl0, wk, wkL, wkO, eqCells, eqCell, mayM, mayRange, mayKind, sizedM, fOp, fWidth, fSize, fByReg, fDst, fSrc, fOff, fImm] at *); simp [wk, wkL, wkO, eqCells, eqCell, mayM, mayRange, mayKind, sizedM, fOp, fWidth, fSize, fByReg, fDst, fSrc, fOff, fImm, *]; omega)
            rcases bft (decide (off < 32768)) with h32 | h32
            ·rcases bft (decide (imm < (-2147483648))) with h33 | h33
             ·exact (o94 (d := .bool false) (E2 ++ List.replicate 3 (tC (eF (nt (andT (beq_self_eq_true kind) (andT h19 (andT h20 (andT h21 (andT h22 (andT h23 (andT h24 (andT h25 (andT h26 (rfl : true = true))))))))))))) ++ [tC (nt (andT (beq_self_eq_true kind) (andT h19 (andT h20 (andT h21 (andT h22 (andT h23 (andT h24 (andT h25 (andT h26 (rfl : true = true))))))))))), tC (eF h27), tC (eF h27), tC (eF h27), tC h27] ++ List.replicate 3 (tC (eF (ltL 10 h28))) ++ [tC (ltL 10 h28), tC (eF h29), tC (eF h29), tC (eF h29), tC h29] ++ List.replicate 3 (tC (eF (ltL 10 h30))) ++ [tC (ltL 10 h30), tC (eF h31), tC (eF h31), tC (eF h31), tC h31] ++ List.replicate 3 (tC (eF (leL 32768 h32))) ++ [tC (leL 32768 h32), tC (eF h33), tC (eF h33), tC (eF h33), tC h33, tT]) (by kernel_rfl)).to (by clear E1 E2; (try simp only [sl0, wk, wkL, wkO, eqCells, eqCell, mayM, mayRange, mayKind, sizedM, fOp, fWidth, fSize, fByReg, fDst, fSrc, fOff, fImm] at *); simp [wk, wkL, wkO, eqCells, eqCell, mayM, mayRange, mayKind, sizedM, fOp, fWidth, fSize, fByReg, fDst, fSrc, fOff, fImm, *]; omega)
             rcases bft (decide (imm < 2147483648)) with h34 | h34
             ·by_cases h35 : kind = 0
              ·subst h35
               let E3 : EL := E2 ++ List.replicate 3 (tC (eF (nt (andT (beq_self_eq_true 0) (andT h19 (andT h20 (andT h21 (andT h22 (andT h23 (andT h24 (andT h25 (andT h26 (rfl : true = true))))))))))))) ++ [tC (nt (andT (beq_self_eq_true 0) (andT h19 (andT h20 (andT h21 (andT h22 (andT h23 (andT h24 (andT h25 (andT h26 (rfl : true = true))))))))))), tC (eF h27), tC (eF h27), tC (eF h27), tC h27] ++ List.replicate 3 (tC (eF (ltL 10 h28))) ++ [tC (ltL 10 h28), tC (eF h29), tC (eF h29), tC (eF h29), tC h29] ++ List.replicate 3 (tC (eF (ltL 10 h30))) ++ [tC (ltL 10 h30), tC (eF h31), tC (eF h31), tC (eF h31), tC h31] ++ List.replicate 3 (tC (eF (leL 32768 h32))) ++ [tC (leL 32768 h32), tC (eF h33), tC (eF h33), tC (eF h33), tC h33, tC (leL 2147483648 h34), tT]
               rcases bft (decide (op < 0)) with h36 | h36
               ·exact (o94 (d := .bool false) (E3 ++ List.replicate 3 (tC (eT (leL 0 h36))) ++ [tC (leL 0 h36)] ++ List.replicate 10 tF) (by kernel_rfl)).to (by clear E1 E2 E3; (try simp only [sl0, wk, wkL, wkO, eqCells, eqCell, mayM, mayRange, mayKind, sizedM, fOp, fWidth, fSize, fByReg, fDst, fSrc, fOff, fImm] at *); simp [wk, wkL, wkO, eqCells, eqCell, mayM, mayRange, mayKind, sizedM, fOp, fWidth, fSize, fByReg, fDst, fSrc, fOff, fImm, *]; omega)
               let E4 : EL := E3 ++ List.replicate 3 (tC (eT (leL 0 h36))) ++ [tC (leL 0 h36)]
               rcases bft (decide (op < 13)) with h37 | h37
               ·by_cases h38 : width = 32
                ·subst h38
                 exact (o94 (d := .bool (decide (dst < 10))) (E4 ++ List.replicate 4 (tC (eT (leC 12 h37))) ++ [tF, tF, tF, tC (eT (leC 12 h37)), tT, tC (leC 12 h37), tT, tT, tT, tT]) (by kernel_rfl)).to (by clear E1 E2 E3 E4; (try simp only [sl0, wk, wkL, wkO, eqCells, eqCell, mayM, mayRange, mayKind, sizedM, fOp, fWidth, fSize, fByReg, fDst, fSrc, fOff, fImm] at *); rw [Bool.eq_iff_iff]; simp [wk, wkL, wkO, eqCells, eqCell, mayM, mayRange, mayKind, sizedM, fOp, fWidth, fSize, fByReg, fDst, fSrc, fOff, fImm, *]; grind)
                let E5 : EL := E4 ++ List.replicate 4 (tC (eT (leC 12 h37))) ++ List.replicate 3 (tC (eF (neOf h38))) ++ [tC (eT (leC 12 h37)), tC (neOf h38), tC (leC 12 h37)]
                by_cases h39 : width = 64
                ·subst h39
                 exact (o94 (d := .bool (decide (dst < 10))) (E5 ++ [tT, tT, tT, tT]) (by kernel_rfl)).to (by clear E1 E2 E3 E4 E5; (try simp only [sl0, wk, wkL, wkO, eqCells, eqCell, mayM, mayRange, mayKind, sizedM, fOp, fWidth, fSize, fByReg, fDst, fSrc, fOff, fImm] at *); rw [Bool.eq_iff_iff]; simp [wk, wkL, wkO, eqCells, eqCell, mayM, mayRange, mayKind, sizedM, fOp, fWidth, fSize, fByReg, fDst, fSrc, fOff, fImm, *]; grind)
                exact (o94 (d := .bool false) (E5 ++ List.replicate 3 (tC (eT (neOf h39))) ++ [tC (neOf h39)]) (by kernel_rfl)).to (by clear E1 E2 E3 E4 E5; (try simp only [sl0, wk, wkL, wkO, eqCells, eqCell, mayM, mayRange, mayKind, sizedM, fOp, fWidth, fSize, fByReg, fDst, fSrc, fOff, fImm] at *); simp [wk, wkL, wkO, eqCells, eqCell, mayM, mayRange, mayKind, sizedM, fOp, fWidth, fSize, fByReg, fDst, fSrc, fOff, fImm, *]; omega)
               exact (o94 (d := .bool false) (E4 ++ List.replicate 5 (tC (eT (leC 12 h37))) ++ [tC (leC 12 h37), tF, tF, tF, tF]) (by kernel_rfl)).to (by clear E1 E2 E3 E4; (try simp only [sl0, wk, wkL, wkO, eqCells, eqCell, mayM, mayRange, mayKind, sizedM, fOp, fWidth, fSize, fByReg, fDst, fSrc, fOff, fImm] at *); simp [wk, wkL, wkO, eqCells, eqCell, mayM, mayRange, mayKind, sizedM, fOp, fWidth, fSize, fByReg, fDst, fSrc, fOff, fImm, *]; omega)
              by_cases h40 : kind = 1
              ·subst h40
               have c41 := @sized3_ok size
               generalize g43 : sizedM size = r42 at c41
               let E6 : EL := E2 ++ List.replicate 3 (tC (eF (nt (andT (beq_self_eq_true 1) (andT h19 (andT h20 (andT h21 (andT h22 (andT h23 (andT h24 (andT h25 (andT h26 (rfl : true = true))))))))))))) ++ [tC (nt (andT (beq_self_eq_true 1) (andT h19 (andT h20 (andT h21 (andT h22 (andT h23 (andT h24 (andT h25 (andT h26 (rfl : true = true))))))))))), tC (eF h27), tC (eF h27), tC (eF h27), tC h27] ++ List.replicate 3 (tC (eF (ltL 10 h28))) ++ [tC (ltL 10 h28), tC (eF h29), tC (eF h29), tC (eF h29), tC h29] ++ List.replicate 3 (tC (eF (ltL 10 h30))) ++ [tC (ltL 10 h30), tC (eF h31), tC (eF h31), tC (eF h31), tC h31] ++ List.replicate 3 (tC (eF (leL 32768 h32))) ++ [tC (leL 32768 h32), tC (eF h33), tC (eF h33), tC (eF h33), tC h33, tC (leL 2147483648 h34), tC (neOf h35), tT, .ret _ _ _ c41]
               cases r42
               ·exact (o94 (d := .bool false) (E6 ++ [tF, tF, tF, tF]) (by kernel_rfl)).to (by clear E1 E2 E6; (try simp only [sl0, wk, wkL, wkO, eqCells, eqCell, mayM, mayRange, mayKind, sizedM, fOp, fWidth, fSize, fByReg, fDst, fSrc, fOff, fImm] at *); simp [wk, wkL, wkO, eqCells, eqCell, mayM, mayRange, mayKind, sizedM, fOp, fWidth, fSize, fByReg, fDst, fSrc, fOff, fImm, *]; omega)
               exact (o94 (d := .bool (decide (dst < 10))) (E6 ++ [tT, tT, tT, tT]) (by kernel_rfl)).to (by clear E1 E2 E6; (try simp only [sl0, wk, wkL, wkO, eqCells, eqCell, mayM, mayRange, mayKind, sizedM, fOp, fWidth, fSize, fByReg, fDst, fSrc, fOff, fImm] at *); rw [Bool.eq_iff_iff]; simp [wk, wkL, wkO, eqCells, eqCell, mayM, mayRange, mayKind, sizedM, fOp, fWidth, fSize, fByReg, fDst, fSrc, fOff, fImm, *]; grind)
              by_cases h44 : kind = 2
              ·subst h44
               have c45 := @sized3_ok size
               generalize g47 : sizedM size = r46 at c45
               exact (o94 (d := .bool r46) (E2 ++ List.replicate 3 (tC (eF (nt (andT (beq_self_eq_true 2) (andT h19 (andT h20 (andT h21 (andT h22 (andT h23 (andT h24 (andT h25 (andT h26 (rfl : true = true))))))))))))) ++ [tC (nt (andT (beq_self_eq_true 2) (andT h19 (andT h20 (andT h21 (andT h22 (andT h23 (andT h24 (andT h25 (andT h26 (rfl : true = true))))))))))), tC (eF h27), tC (eF h27), tC (eF h27), tC h27] ++ List.replicate 3 (tC (eF (ltL 10 h28))) ++ [tC (ltL 10 h28), tC (eF h29), tC (eF h29), tC (eF h29), tC h29] ++ List.replicate 3 (tC (eF (ltL 10 h30))) ++ [tC (ltL 10 h30), tC (eF h31), tC (eF h31), tC (eF h31), tC h31] ++ List.replicate 3 (tC (eF (leL 32768 h32))) ++ [tC (leL 32768 h32), tC (eF h33), tC (eF h33), tC (eF h33), tC h33, tC (leL 2147483648 h34), tC (neOf h35), tC (neOf h40), tT, .ret _ _ _ c45]) (by kernel_rfl)).to (by clear E1 E2; (try simp only [sl0, wk, wkL, wkO, eqCells, eqCell, mayM, mayRange, mayKind, sizedM, fOp, fWidth, fSize, fByReg, fDst, fSrc, fOff, fImm] at *); rw [Bool.eq_iff_iff]; simp [wk, wkL, wkO, eqCells, eqCell, mayM, mayRange, mayKind, sizedM, fOp, fWidth, fSize, fByReg, fDst, fSrc, fOff, fImm, *]; grind)
              by_cases h48 : kind = 3
              ·subst h48
               let E7 : EL := E2 ++ List.replicate 3 (tC (eF (nt (andT (beq_self_eq_true 3) (andT h19 (andT h20 (andT h21 (andT h22 (andT h23 (andT h24 (andT h25 (andT h26 (rfl : true = true))))))))))))) ++ [tC (nt (andT (beq_self_eq_true 3) (andT h19 (andT h20 (andT h21 (andT h22 (andT h23 (andT h24 (andT h25 (andT h26 (rfl : true = true))))))))))), tC (eF h27), tC (eF h27), tC (eF h27), tC h27] ++ List.replicate 3 (tC (eF (ltL 10 h28))) ++ [tC (ltL 10 h28), tC (eF h29), tC (eF h29), tC (eF h29), tC h29] ++ List.replicate 3 (tC (eF (ltL 10 h30))) ++ [tC (ltL 10 h30), tC (eF h31), tC (eF h31), tC (eF h31), tC h31] ++ List.replicate 3 (tC (eF (leL 32768 h32))) ++ [tC (leL 32768 h32), tC (eF h33), tC (eF h33), tC (eF h33), tC h33, tC (leL 2147483648 h34), tC (neOf h35), tC (neOf h40), tC (neOf h44), tT]
               rcases bft (decide (op < 0)) with h49 | h49
               ·exact (o94 (d := .bool false) (E7 ++ List.replicate 3 (tC (eT (leL 0 h49))) ++ [tC (leL 0 h49)]) (by kernel_rfl)).to (by clear E1 E2 E7; (try simp only [sl0, wk, wkL, wkO, eqCells, eqCell, mayM, mayRange, mayKind, sizedM, fOp, fWidth, fSize, fByReg, fDst, fSrc, fOff, fImm] at *); simp [wk, wkL, wkO, eqCells, eqCell, mayM, mayRange, mayKind, sizedM, fOp, fWidth, fSize, fByReg, fDst, fSrc, fOff, fImm, *]; omega)
               exact (o94 (d := .bool (decide (op ≤ 10))) (E7 ++ List.replicate 3 (tC (eT (leL 0 h49))) ++ [tC (leL 0 h49)]) (by kernel_rfl)).to (by clear E1 E2 E7; (try simp only [sl0, wk, wkL, wkO, eqCells, eqCell, mayM, mayRange, mayKind, sizedM, fOp, fWidth, fSize, fByReg, fDst, fSrc, fOff, fImm] at *); rw [Bool.eq_iff_iff]; simp [wk, wkL, wkO, eqCells, eqCell, mayM, mayRange, mayKind, sizedM, fOp, fWidth, fSize, fByReg, fDst, fSrc, fOff, fImm, *]; grind)
              by_cases h50 : kind = 5
              ·subst h50
               let E8 : EL := E2 ++ List.replicate 3 (tC (eF (nt (andT (beq_self_eq_true 5) (andT h19 (andT h20 (andT h21 (andT h22 (andT h23 (andT h24 (andT h25 (andT h26 (rfl : true = true))))))))))))) ++ [tC (nt (andT (beq_self_eq_true 5) (andT h19 (andT h20 (andT h21 (andT h22 (andT h23 (andT h24 (andT h25 (andT h26 (rfl : true = true))))))))))), tC (eF h27), tC (eF h27), tC (eF h27), tC h27] ++ List.replicate 3 (tC (eF (ltL 10 h28))) ++ [tC (ltL 10 h28), tC (eF h29), tC (eF h29), tC (eF h29), tC h29] ++ List.replicate 3 (tC (eF (ltL 10 h30))) ++ [tC (ltL 10 h30), tC (eF h31), tC (eF h31), tC (eF h31), tC h31] ++ List.replicate 3 (tC (eF (leL 32768 h32))) ++ [tC (leL 32768 h32), tC (eF h33), tC (eF h33), tC (eF h33), tC h33, tC (leL 2147483648 h34), tC (neOf h35), tC (neOf h40), tC (neOf h44), tC (neOf h48), tT]
               rcases bft (decide (imm < 0)) with h51 | h51
               ·exact (o94 (d := .bool false) (E8 ++ List.replicate 3 (tC (eT (leL 0 h51))) ++ [tC (leL 0 h51)]) (by kernel_rfl)).to (by clear E1 E2 E8; (try simp only [sl0, wk, wkL, wkO, eqCells, eqCell, mayM, mayRange, mayKind, sizedM, fOp, fWidth, fSize, fByReg, fDst, fSrc, fOff, fImm] at *); simp [wk, wkL, wkO, eqCells, eqCell, mayM, mayRange, mayKind, sizedM, fOp, fWidth, fSize, fByReg, fDst, fSrc, fOff, fImm, *]; omega)
               exact (o94 (d := .bool (decide (imm < 16))) (E8 ++ List.replicate 3 (tC (eT (leL 0 h51))) ++ [tC (leL 0 h51)]) (by kernel_rfl)).to (by clear E1 E2 E8; (try simp only [sl0, wk, wkL, wkO, eqCells, eqCell, mayM, mayRange, mayKind, sizedM, fOp, fWidth, fSize, fByReg, fDst, fSrc, fOff, fImm] at *); rw [Bool.eq_iff_iff]; simp [wk, wkL, wkO, eqCells, eqCell, mayM, mayRange, mayKind, sizedM, fOp, fWidth, fSize, fByReg, fDst, fSrc, fOff, fImm, *]; grind)
              exact (o94 (d := .bool true) (E2 ++ List.replicate 3 (tC (eF (nt (andT (beq_self_eq_true kind) (andT h19 (andT h20 (andT h21 (andT h22 (andT h23 (andT h24 (andT h25 (andT h26 (rfl : true = true))))))))))))) ++ [tC (nt (andT (beq_self_eq_true kind) (andT h19 (andT h20 (andT h21 (andT h22 (andT h23 (andT h24 (andT h25 (andT h26 (rfl : true = true))))))))))), tC (eF h27), tC (eF h27), tC (eF h27), tC h27] ++ List.replicate 3 (tC (eF (ltL 10 h28))) ++ [tC (ltL 10 h28), tC (eF h29), tC (eF h29), tC (eF h29), tC h29] ++ List.replicate 3 (tC (eF (ltL 10 h30))) ++ [tC (ltL 10 h30), tC (eF h31), tC (eF h31), tC (eF h31), tC h31] ++ List.replicate 3 (tC (eF (leL 32768 h32))) ++ [tC (leL 32768 h32), tC (eF h33), tC (eF h33), tC (eF h33), tC h33, tC (leL 2147483648 h34), tC (neOf h35), tC (neOf h40), tC (neOf h44), tC (neOf h48), tC (neOf h50)]) (by kernel_rfl)).to (by clear E1 E2; (try simp only [sl0, wk, wkL, wkO, eqCells, eqCell, mayM, mayRange, mayKind, sizedM, fOp, fWidth, fSize, fByReg, fDst, fSrc, fOff, fImm] at *); rw [Bool.eq_iff_iff]; simp [wk, wkL, wkO, eqCells, eqCell, mayM, mayRange, mayKind, sizedM, fOp, fWidth, fSize, fByReg, fDst, fSrc, fOff, fImm, *]; grind)
             exact (o94 (d := .bool false) (E2 ++ List.replicate 3 (tC (eF (nt (andT (beq_self_eq_true kind) (andT h19 (andT h20 (andT h21 (andT h22 (andT h23 (andT h24 (andT h25 (andT h26 (rfl : true = true))))))))))))) ++ [tC (nt (andT (beq_self_eq_true kind) (andT h19 (andT h20 (andT h21 (andT h22 (andT h23 (andT h24 (andT h25 (andT h26 (rfl : true = true))))))))))), tC (eF h27), tC (eF h27), tC (eF h27), tC h27] ++ List.replicate 3 (tC (eF (ltL 10 h28))) ++ [tC (ltL 10 h28), tC (eF h29), tC (eF h29), tC (eF h29), tC h29] ++ List.replicate 3 (tC (eF (ltL 10 h30))) ++ [tC (ltL 10 h30), tC (eF h31), tC (eF h31), tC (eF h31), tC h31] ++ List.replicate 3 (tC (eF (leL 32768 h32))) ++ [tC (leL 32768 h32), tC (eF h33), tC (eF h33), tC (eF h33), tC h33, tC (leL 2147483648 h34)]) (by kernel_rfl)).to (by clear E1 E2; (try simp only [sl0, wk, wkL, wkO, eqCells, eqCell, mayM, mayRange, mayKind, sizedM, fOp, fWidth, fSize, fByReg, fDst, fSrc, fOff, fImm] at *); simp [wk, wkL, wkO, eqCells, eqCell, mayM, mayRange, mayKind, sizedM, fOp, fWidth, fSize, fByReg, fDst, fSrc, fOff, fImm, *]; omega)
            exact (o94 (d := .bool false) (E2 ++ List.replicate 3 (tC (eF (nt (andT (beq_self_eq_true kind) (andT h19 (andT h20 (andT h21 (andT h22 (andT h23 (andT h24 (andT h25 (andT h26 (rfl : true = true))))))))))))) ++ [tC (nt (andT (beq_self_eq_true kind) (andT h19 (andT h20 (andT h21 (andT h22 (andT h23 (andT h24 (andT h25 (andT h26 (rfl : true = true))))))))))), tC (eF h27), tC (eF h27), tC (eF h27), tC h27] ++ List.replicate 3 (tC (eF (ltL 10 h28))) ++ [tC (ltL 10 h28), tC (eF h29), tC (eF h29), tC (eF h29), tC h29] ++ List.replicate 3 (tC (eF (ltL 10 h30))) ++ [tC (ltL 10 h30), tC (eF h31), tC (eF h31), tC (eF h31), tC h31] ++ List.replicate 3 (tC (eF (leL 32768 h32))) ++ [tC (leL 32768 h32), tF, tF, tF, tT, tT]) (by kernel_rfl)).to (by clear E1 E2; (try simp only [sl0, wk, wkL, wkO, eqCells, eqCell, mayM, mayRange, mayKind, sizedM, fOp, fWidth, fSize, fByReg, fDst, fSrc, fOff, fImm] at *); simp [wk, wkL, wkO, eqCells, eqCell, mayM, mayRange, mayKind, sizedM, fOp, fWidth, fSize, fByReg, fDst, fSrc, fOff, fImm, *]; omega)
           exact (o94 (d := .bool false) (E2 ++ List.replicate 3 (tC (eF (nt (andT (beq_self_eq_true kind) (andT h19 (andT h20 (andT h21 (andT h22 (andT h23 (andT h24 (andT h25 (andT h26 (rfl : true = true))))))))))))) ++ [tC (nt (andT (beq_self_eq_true kind) (andT h19 (andT h20 (andT h21 (andT h22 (andT h23 (andT h24 (andT h25 (andT h26 (rfl : true = true))))))))))), tC (eF h27), tC (eF h27), tC (eF h27), tC h27] ++ List.replicate 3 (tC (eF (ltL 10 h28))) ++ [tC (ltL 10 h28), tC (eF h29), tC (eF h29), tC (eF h29), tC h29] ++ List.replicate 3 (tC (eF (ltL 10 h30))) ++ [tC (ltL 10 h30), tF, tF, tF, tT, tF, tF, tF, tT, tF, tF, tF, tT, tT]) (by kernel_rfl)).to (by clear E1 E2; (try simp only [sl0, wk, wkL, wkO, eqCells, eqCell, mayM, mayRange, mayKind, sizedM, fOp, fWidth, fSize, fByReg, fDst, fSrc, fOff, fImm] at *); simp [wk, wkL, wkO, eqCells, eqCell, mayM, mayRange, mayKind, sizedM, fOp, fWidth, fSize, fByReg, fDst, fSrc, fOff, fImm, *]; omega)
          exact (o94 (d := .bool false) (E2 ++ List.replicate 3 (tC (eF (nt (andT (beq_self_eq_true kind) (andT h19 (andT h20 (andT h21 (andT h22 (andT h23 (andT h24 (andT h25 (andT h26 (rfl : true = true))))))))))))) ++ [tC (nt (andT (beq_self_eq_true kind) (andT h19 (andT h20 (andT h21 (andT h22 (andT h23 (andT h24 (andT h25 (andT h26 (rfl : true = true))))))))))), tC (eF h27), tC (eF h27), tC (eF h27), tC h27] ++ List.replicate 3 (tC (eF (ltL 10 h28))) ++ [tC (ltL 10 h28), tF, tF, tF, tT, tF, tF, tF, tT, tF, tF, tF, tT, tF, tF, tF, tT, tF, tF, tF, tT, tT]) (by kernel_rfl)).to (by clear E1 E2; (try simp only [sl0, wk, wkL, wkO, eqCells, eqCell, mayM, mayRange, mayKind, sizedM, fOp, fWidth, fSize, fByReg, fDst, fSrc, fOff, fImm] at *); simp [wk, wkL, wkO, eqCells, eqCell, mayM, mayRange, mayKind, sizedM, fOp, fWidth, fSize, fByReg, fDst, fSrc, fOff, fImm, *]; omega)
         exact (o94 (d := .bool false) (E2 ++ List.replicate 3 (tC (eF (nt (andT (beq_self_eq_true kind) (andT h19 (andT h20 (andT h21 (andT h22 (andT h23 (andT h24 (andT h25 (andF (y := true) h26)))))))))))) ++ [tC (nt (andT (beq_self_eq_true kind) (andT h19 (andT h20 (andT h21 (andT h22 (andT h23 (andT h24 (andT h25 (andF (y := true) h26)))))))))), tF, tF, tF, tT, tF, tF, tF, tT, tF, tF, tF, tT, tF, tF, tF, tT, tF, tF, tF, tT, tF, tF, tF, tT, tF, tF, tF, tT, tT]) (by kernel_rfl)).to (by clear E1 E2; (try simp only [sl0, wk, wkL, wkO, eqCells, eqCell, mayM, mayRange, mayKind, sizedM, fOp, fWidth, fSize, fByReg, fDst, fSrc, fOff, fImm] at *); rw [Bool.eq_iff_iff]; simp [wk, wkL, wkO, eqCells, eqCell, mayM, mayRange, mayKind, sizedM, fOp, fWidth, fSize, fByReg, fDst, fSrc, fOff, fImm, *]; grind)
        exact (o94 (d := .bool false) (E2 ++ List.replicate 3 (tC (eF (nt (andT (beq_self_eq_true kind) (andT h19 (andT h20 (andT h21 (andT h22 (andT h23 (andT h24 (andF (y := eqCells [.int .i64 imm] [.int .i64 r17]) h25))))))))))) ++ [tC (nt (andT (beq_self_eq_true kind) (andT h19 (andT h20 (andT h21 (andT h22 (andT h23 (andT h24 (andF (y := eqCells [.int .i64 imm] [.int .i64 r17]) h25))))))))), tF, tF, tF, tT, tF, tF, tF, tT, tF, tF, tF, tT, tF, tF, tF, tT, tF, tF, tF, tT, tF, tF, tF, tT, tF, tF, tF, tT, tT]) (by kernel_rfl)).to (by clear E1 E2; (try simp only [sl0, wk, wkL, wkO, eqCells, eqCell, mayM, mayRange, mayKind, sizedM, fOp, fWidth, fSize, fByReg, fDst, fSrc, fOff, fImm] at *); rw [Bool.eq_iff_iff]; simp [wk, wkL, wkO, eqCells, eqCell, mayM, mayRange, mayKind, sizedM, fOp, fWidth, fSize, fByReg, fDst, fSrc, fOff, fImm, *]; grind)
       exact (o94 (d := .bool false) (E2 ++ List.replicate 3 (tC (eF (nt (andT (beq_self_eq_true kind) (andT h19 (andT h20 (andT h21 (andT h22 (andT h23 (andF (y := eqCells [.int .i64 off, .int .i64 imm] [.int .i64 r15, .int .i64 r17]) h24)))))))))) ++ [tC (nt (andT (beq_self_eq_true kind) (andT h19 (andT h20 (andT h21 (andT h22 (andT h23 (andF (y := eqCells [.int .i64 off, .int .i64 imm] [.int .i64 r15, .int .i64 r17]) h24)))))))), tF, tF, tF, tT, tF, tF, tF, tT, tF, tF, tF, tT, tF, tF, tF, tT, tF, tF, tF, tT, tF, tF, tF, tT, tF, tF, tF, tT, tT]) (by kernel_rfl)).to (by clear E1 E2; (try simp only [sl0, wk, wkL, wkO, eqCells, eqCell, mayM, mayRange, mayKind, sizedM, fOp, fWidth, fSize, fByReg, fDst, fSrc, fOff, fImm] at *); rw [Bool.eq_iff_iff]; simp [wk, wkL, wkO, eqCells, eqCell, mayM, mayRange, mayKind, sizedM, fOp, fWidth, fSize, fByReg, fDst, fSrc, fOff, fImm, *]; grind)
      exact (o94 (d := .bool false) (E2 ++ List.replicate 3 (tC (eF (nt (andT (beq_self_eq_true kind) (andT h19 (andT h20 (andT h21 (andT h22 (andF (y := eqCells [.int .i8 src, .int .i64 off, .int .i64 imm] [.int .i8 r13, .int .i64 r15, .int .i64 r17]) h23))))))))) ++ [tC (nt (andT (beq_self_eq_true kind) (andT h19 (andT h20 (andT h21 (andT h22 (andF (y := eqCells [.int .i8 src, .int .i64 off, .int .i64 imm] [.int .i8 r13, .int .i64 r15, .int .i64 r17]) h23))))))), tF, tF, tF, tT, tF, tF, tF, tT, tF, tF, tF, tT, tF, tF, tF, tT, tF, tF, tF, tT, tF, tF, tF, tT, tF, tF, tF, tT, tT]) (by kernel_rfl)).to (by clear E1 E2; (try simp only [sl0, wk, wkL, wkO, eqCells, eqCell, mayM, mayRange, mayKind, sizedM, fOp, fWidth, fSize, fByReg, fDst, fSrc, fOff, fImm] at *); rw [Bool.eq_iff_iff]; simp [wk, wkL, wkO, eqCells, eqCell, mayM, mayRange, mayKind, sizedM, fOp, fWidth, fSize, fByReg, fDst, fSrc, fOff, fImm, *]; grind)
     exact (o94 (d := .bool false) (E2 ++ List.replicate 3 (tC (eF (nt (andT (beq_self_eq_true kind) (andT h19 (andT h20 (andT h21 (andF (y := eqCells [.int .i8 dst, .int .i8 src, .int .i64 off, .int .i64 imm] [.int .i8 r11, .int .i8 r13, .int .i64 r15, .int .i64 r17]) h22)))))))) ++ [tC (nt (andT (beq_self_eq_true kind) (andT h19 (andT h20 (andT h21 (andF (y := eqCells [.int .i8 dst, .int .i8 src, .int .i64 off, .int .i64 imm] [.int .i8 r11, .int .i8 r13, .int .i64 r15, .int .i64 r17]) h22)))))), tF, tF, tF, tT, tF, tF, tF, tT, tF, tF, tF, tT, tF, tF, tF, tT, tF, tF, tF, tT, tF, tF, tF, tT, tF, tF, tF, tT, tT]) (by kernel_rfl)).to (by clear E1 E2; (try simp only [sl0, wk, wkL, wkO, eqCells, eqCell, mayM, mayRange, mayKind, sizedM, fOp, fWidth, fSize, fByReg, fDst, fSrc, fOff, fImm] at *); rw [Bool.eq_iff_iff]; simp [wk, wkL, wkO, eqCells, eqCell, mayM, mayRange, mayKind, sizedM, fOp, fWidth, fSize, fByReg, fDst, fSrc, fOff, fImm, *]; grind)
    exact (o94 (d := .bool false) (E2 ++ List.replicate 3 (tC (eF (nt (andT (beq_self_eq_true kind) (andT h19 (andT h20 (andF (y := eqCells [.bool byReg, .int .i8 dst, .int .i8 src, .int .i64 off, .int .i64 imm] [.bool r9, .int .i8 r11, .int .i8 r13, .int .i64 r15, .int .i64 r17]) h21))))))) ++ [tC (nt (andT (beq_self_eq_true kind) (andT h19 (andT h20 (andF (y := eqCells [.bool byReg, .int .i8 dst, .int .i8 src, .int .i64 off, .int .i64 imm] [.bool r9, .int .i8 r11, .int .i8 r13, .int .i64 r15, .int .i64 r17]) h21))))), tF, tF, tF, tT, tF, tF, tF, tT, tF, tF, tF, tT, tF, tF, tF, tT, tF, tF, tF, tT, tF, tF, tF, tT, tF, tF, tF, tT, tT]) (by kernel_rfl)).to (by clear E1 E2; (try simp only [sl0, wk, wkL, wkO, eqCells, eqCell, mayM, mayRange, mayKind, sizedM, fOp, fWidth, fSize, fByReg, fDst, fSrc, fOff, fImm] at *); rw [Bool.eq_iff_iff]; simp [wk, wkL, wkO, eqCells, eqCell, mayM, mayRange, mayKind, sizedM, fOp, fWidth, fSize, fByReg, fDst, fSrc, fOff, fImm, *]; grind)
   exact (o94 (d := .bool false) (E2 ++ List.replicate 3 (tC (eF (nt (andT (beq_self_eq_true kind) (andT h19 (andF (y := eqCells [.int .i8 size, .bool byReg, .int .i8 dst, .int .i8 src, .int .i64 off, .int .i64 imm] [.int .i8 r7, .bool r9, .int .i8 r11, .int .i8 r13, .int .i64 r15, .int .i64 r17]) h20)))))) ++ [tC (nt (andT (beq_self_eq_true kind) (andT h19 (andF (y := eqCells [.int .i8 size, .bool byReg, .int .i8 dst, .int .i8 src, .int .i64 off, .int .i64 imm] [.int .i8 r7, .bool r9, .int .i8 r11, .int .i8 r13, .int .i64 r15, .int .i64 r17]) h20)))), tF, tF, tF, tT, tF, tF, tF, tT, tF, tF, tF, tT, tF, tF, tF, tT, tF, tF, tF, tT, tF, tF, tF, tT, tF, tF, tF, tT, tT]) (by kernel_rfl)).to (by clear E1 E2; (try simp only [sl0, wk, wkL, wkO, eqCells, eqCell, mayM, mayRange, mayKind, sizedM, fOp, fWidth, fSize, fByReg, fDst, fSrc, fOff, fImm] at *); rw [Bool.eq_iff_iff]; simp [wk, wkL, wkO, eqCells, eqCell, mayM, mayRange, mayKind, sizedM, fOp, fWidth, fSize, fByReg, fDst, fSrc, fOff, fImm, *]; grind)
  exact (o94 (d := .bool false) (E2 ++ List.replicate 3 (tC (eF (nt (andT (beq_self_eq_true kind) (andF (y := eqCells [.int .i8 width, .int .i8 size, .bool byReg, .int .i8 dst, .int .i8 src, .int .i64 off, .int .i64 imm] [.int .i8 r5, .int .i8 r7, .bool r9, .int .i8 r11, .int .i8 r13, .int .i64 r15, .int .i64 r17]) h19))))) ++ [tC (nt (andT (beq_self_eq_true kind) (andF (y := eqCells [.int .i8 width, .int .i8 size, .bool byReg, .int .i8 dst, .int .i8 src, .int .i64 off, .int .i64 imm] [.int .i8 r5, .int .i8 r7, .bool r9, .int .i8 r11, .int .i8 r13, .int .i64 r15, .int .i64 r17]) h19))), tF, tF, tF, tT, tF, tF, tF, tT, tF, tF, tF, tT, tF, tF, tF, tT, tF, tF, tF, tT, tF, tF, tF, tT, tF, tF, tF, tT, tT]) (by kernel_rfl)).to (by clear E1 E2; (try simp only [sl0, wk, wkL, wkO, eqCells, eqCell, mayM, mayRange, mayKind, sizedM, fOp, fWidth, fSize, fByReg, fDst, fSrc, fOff, fImm] at *); rw [Bool.eq_iff_iff]; simp [wk, wkL, wkO, eqCells, eqCell, mayM, mayRange, mayKind, sizedM, fOp, fWidth, fSize, fByReg, fDst, fSrc, fOff, fImm, *]; grind)
 exact (o94 (d := .bool false) (E1 ++ List.replicate 4 (tC (eF (ltL 6 h1))) ++ [tC (ltL 6 h1), tF, tF, tF, tT, tF, tF, tF, tT, tF, tF, tF, tT, tF, tF, tF, tT, tF, tF, tF, tT, tF, tF, tF, tT, tF, tF, tF, tT, tF, tF, tF, tT, tT]) (by kernel_rfl)).to (by clear E1; (try simp only [sl0, wk, wkL, wkO, eqCells, eqCell, mayM, mayRange, mayKind, sizedM, fOp, fWidth, fSize, fByReg, fDst, fSrc, fOff, fImm] at *); rw [Bool.eq_iff_iff]; simp [wk, wkL, wkO, eqCells, eqCell, mayM, mayRange, mayKind, sizedM, fOp, fWidth, fSize, fByReg, fDst, fSrc, fOff, fImm, *]; grind)
end Go.Proofs.Ytcngafhpodeenaa

namespace Go.Ev
open Go Go.RowKit Go.ChangeShapes Go.WideShapes
theorem trodAll_below {H : Type} {enc : TypeId × Value → H} {P : Program} (hl : laidOutB P = true) {W W' : World} (hb : Below W.heap.size W W') : ∀ {ts : List TypeId} {vs : List Value} {ds : List (DataW H)} {ps : List MemPlace},
  (∀ t ∈ ts, P.readableRec t = true ∧ t < P.types.size) → DataW.TrodAll enc P W 0 (fun _ => true) true ts vs ds ps → (∀ x ∈ ps, x.block < W.heap.size) → DataW.TrodAll enc P W' 0 (fun b => decide (b < W.heap.size)) true ts vs ds ps
 | [], vs, ds, ps, _, h, _ => by
  obtain ⟨rfl, rfl, rfl⟩ := trodAll_nil h
  rfl
 | t :: ts, vs, ds, ps, hr, h, hp => by
  obtain ⟨v, vs', d, ds', p, q, rfl, rfl, rfl, h1, h2⟩ := trodAll_cons h
  have hrt := hr t (by simp)
  exact ⟨p, q, Below.trod hl hrt.1 hrt.2 h1 hb (fun x hx => hp x (by simp [hx])), trodAll_below hl hb (fun t ht => hr t (by simp [ht])) h2 (fun x hx => hp x (by simp [hx])), rfl⟩
theorem trodAll_lengths {H : Type} {enc : TypeId × Value → H} {P : Program} {W : World} {b : Nat} {sp : Nat → Bool} {hd : Bool} : ∀ {ts : List TypeId} {vs : List Value} {ds : List (DataW H)} {ps : List MemPlace}, DataW.TrodAll enc P W b sp hd ts vs ds ps → vs.length = ts.length ∧ ds.length = ts.length
 | [], vs, ds, ps, h => by
  obtain ⟨rfl, rfl, rfl⟩ := trodAll_nil h
  exact ⟨rfl, rfl⟩
 | t :: ts, vs, ds, ps, h => by
  obtain ⟨v, vs', d, ds', p, q, rfl, rfl, rfl, h1, h2⟩ := trodAll_cons h
  obtain ⟨k1, k2⟩ := trodAll_lengths h2
  exact ⟨by simp [k1], by simp [k2]⟩
theorem law_lifted {a : Assume} {H : Type} {enc : TypeId × Value → H} {C : Checked} {os : Os} {f : FuncId} {fn : Func} {s : ChangeSpec} {conds : List PathCond} {fresh handsOn : Bool} {tb : TypeId}
  (own : ownKnob C.prog.godebug = none) (started : os.Started) (noInit : C.prog.inits.idxOf? f = none) (hfn : C.prog.funcs[f]? = some fn) (hl : laidOutB C.prog = true) (hvars : s.vars = [])
  (hparams : ∀ t ∈ fn.params.toList, C.prog.readableRec t = true ∧ t < C.prog.types.size) (hres : fn.resultTypes = #[tb]) (htb : C.prog.underlying tb = some .bool)
  (hspec : ∀ ds : List (DataW H), ds.length = fn.params.toList.length → (s.fn H ds).results = [.lit (.bool true)] ∧ (s.fn H ds).args = ds ∧ (s.fn H ds).vars = [])
  (witness : ∃ (w : World) (tape : Tape) (i : Input), w.os = os ∧ (w.forCall tape i).Shaped C.prog ∧ i.vars = [] ∧ Input.okWide C.prog (w.forCall tape i) .any w.heap.size f i ∧
   s.pre6 enc C.prog fn conds false (w.forCall tape i).memory i.args ∧ a.holds C.prog (lone (Frame.enter C.prog f i.args .normal) [] (w.forCall tape i)))
  (law : ∀ (W : World) (base : Nat) (args : Array Value) (ds : List (DataW H)) (ps : List MemPlace), (∀ (j : Nat) t v, fn.params[j]? = some t → args[j]? = some v → Value.okWide C.prog W .any base t v) →
   args.toList.length = fn.params.toList.length → DataW.TrodAll enc C.prog W 0 (fun _ => true) true fn.params.toList args.toList ds ps → (DataW.weightsEach C.prog fn.params.toList ds).all (· ≤ reachBytes) = true →
   Calls C.prog f args W fun e W' => e = .returned (.bool true) ∧ Below W.heap.size W W') :
  ReturnsInHanded a C os f .any (s.pre6 enc C.prog fn conds false) (s.post enc C.prog fn false fresh handsOn false) := by
 refine returnsInHanded_of_change_sized own started noInit hfn witness ?_
 intro W base args ds gs before hval hW _ hz _
 have hW' := hW
 obtain ⟨p, q, hA, hV, rfl, hfz, hnd⟩ := hW
 rw [hvars] at hV
 obtain ⟨rfl, rfl⟩ := trodVars_none hV
 obtain ⟨l1, l2⟩ := trodAll_lengths hA
 have hz' : (DataW.weightsEach C.prog fn.params.toList ds).all (· ≤ reachBytes) = true := by
  have e : s.plain.varTypes C.prog = [] := by simp [ChangeSpec.plain, DataSpec.varTypes, hvars]
  rw [e, List.append_nil, List.append_nil] at hz
  exact hz
 refine (law W base args ds p hval l1 hA hz').mono fun e W' ⟨he, hb⟩ => ?_
 subst he
 refine ⟨_, rfl, ds, [], p ++ [], [], p, [], hW', ?_⟩
 rw [List.append_nil]
 obtain ⟨s1, s2, s3⟩ := hspec ds l2
 rw [s1, s2, s3, hres, hvars]
 refine ⟨?_, trodAll_below hl hb hparams hA (fun x hx => by simpa using hW'.lt x (by simpa using hx)), rfl, Below.frame hb _, fun h => nomatch h⟩
 exact trodAll_mk1 (shut_bool htb true)
def okL : List LK → List D → Prop
  | [], ds => ds = []
  | .bool :: ks, ds => ∃ (b : Bool) (r : List D), ds = .bool b :: r ∧ okL ks r
  | .int k :: ks, ds => ∃ (n : Int) (r : List D), ds = .int k n :: r ∧ k.has n ∧ okL ks r
  | .str :: ks, ds => ∃ (b : ByteArray) (r : List D), ds = .str b :: r ∧ (b.size : Int) ≤ IntKind.i64.max ∧ okL ks r
def kindOf (P : Program) (t : TypeId) : Option LK := match P.underlying t with
  | some .bool => some .bool
  | some (.int k) => some (.int k)
  | some .string => some .str
  | _ => none
def kindsOf (P : Program) : List TypeId → Option (List LK)
  | [] => some []
  | t :: r => match kindOf P t, kindsOf P r with
    | some k, some l => some (k :: l)
    | _, _ => none
def allOf (w : World) : Nat → Nat → Option Value := fun b o => w.cell? ⟨b, o, none⟩
theorem Ret.law {P : Program} {f : FuncId} {args : List D} (h : Ret P f args (.bool true)) {W : World} {vs : Array Value} (hr : RepL (bareOf (allOf W)) args vs) : Calls P f vs W fun e W' => e = .returned (.bool true) ∧ Below W.heap.size W W' := by
 refine Calls.mono (h.run W (allOf W) vs (fun b o v k => k) hr) ?_
 rintro e W' ⟨v, C', rfl, hext, hrep, _⟩
 cases hrep
 exact ⟨rfl, hext.below⟩
end Go.Ev
