/- Contracts and plain laws that a statement's proof leans on (texts merged: May, Steps0, StepsL). -/
import Derived.Test.YtojgmjfcfpclbaaGreatQ04
set_option linter.unusedVariables false
set_option linter.unusedSimpArgs false
namespace Go.Proofs.YtojgmjfcfpclbaaGreat
open Go Go.Ev
set_option maxRecDepth 100000
set_option maxHeartbeats 8000000
theorem instrMay_ok (kind op width size : Int) (byReg : Bool) (dst src off imm : Int) : Ret Tryz.prog 86 ([instD kind op width size byReg dst src off imm]) (.bool (mayM kind op width size byReg dst src off imm)) := by
 let E1 : EL := [.inl]
 rcases bft (decide (dst < 0)) with h0 | h0
 ·exact (o86 (d := .bool false) (E1 ++ List.replicate 3 (tC (eT (leL 0 h0))) ++ [tC (leL 0 h0), tF, tF, tF, tF, tT, tF, tF, tF, tF, tT, tF, tF, tF, tF, tT, tT]) (by kernel_rfl)).to (by clear E1; (try simp only [sl0, wk, wkL, wkO, eqCells, eqCell, mayM, mayRange, mayKind, sizedM] at *); simp [wk, wkL, wkO, eqCells, eqCell, mayM, mayRange, mayKind, sizedM, *]; omega)
 let E2 : EL := E1 ++ List.replicate 3 (tC (eT (leL 0 h0))) ++ [tC (leL 0 h0)]
 rcases bft (decide (dst < 11)) with h1 | h1
 ·let E3 : EL := E2 ++ List.replicate 3 (tC (eF (nt (leC 10 h1)))) ++ [.inl]
  rcases bft (decide (src < 0)) with h2 | h2
  ·exact (o86 (d := .bool false) (E3 ++ List.replicate 3 (tC (eT (leL 0 h2))) ++ [tC (leL 0 h2), tC (eF (nt (leC 10 h1))), tC (nt (leC 10 h1)), tF, tF, tF, tF, tT, tF, tF, tF, tF, tT, tT]) (by kernel_rfl)).to (by clear E1 E2 E3; (try simp only [sl0, wk, wkL, wkO, eqCells, eqCell, mayM, mayRange, mayKind, sizedM] at *); simp [wk, wkL, wkO, eqCells, eqCell, mayM, mayRange, mayKind, sizedM, *]; omega)
  let E4 : EL := E3 ++ List.replicate 3 (tC (eT (leL 0 h2))) ++ [tC (leL 0 h2), tC (eF (nt (leC 10 h1))), tC (nt (leC 10 h1))]
  rcases bft (decide (src < 11)) with h3 | h3
  ·let E5 : EL := E4 ++ List.replicate 3 (tC (eF (nt (leC 10 h3)))) ++ [.inl]
   rcases bft (decide (off < (-32768))) with h4 | h4
   ·exact (o86 (d := .bool false) (E5 ++ List.replicate 3 (tC (eT (leL (-32768) h4))) ++ [tC (leL (-32768) h4), tC (eF (nt (leC 10 h3))), tC (nt (leC 10 h3)), tF, tF, tF, tF, tT, tT]) (by kernel_rfl)).to (by clear E1 E2 E3 E4 E5; (try simp only [sl0, wk, wkL, wkO, eqCells, eqCell, mayM, mayRange, mayKind, sizedM] at *); simp [wk, wkL, wkO, eqCells, eqCell, mayM, mayRange, mayKind, sizedM, *]; omega)
   let E6 : EL := E5 ++ List.replicate 3 (tC (eT (leL (-32768) h4))) ++ [tC (leL (-32768) h4), tC (eF (nt (leC 10 h3))), tC (nt (leC 10 h3))]
   rcases bft (decide (off < 32768)) with h5 | h5
   ·let E7 : EL := E6 ++ List.replicate 3 (tC (eF (nt (leC 32767 h5)))) ++ [.inl]
    rcases bft (decide (imm < (-2147483648))) with h6 | h6
    ·exact (o86 (d := .bool false) (E7 ++ List.replicate 3 (tC (eT (leL (-2147483648) h6))) ++ [tC (leL (-2147483648) h6), tC (eF (nt (leC 32767 h5))), tC (nt (leC 32767 h5)), tT]) (by kernel_rfl)).to (by clear E1 E2 E3 E4 E5 E6 E7; (try simp only [sl0, wk, wkL, wkO, eqCells, eqCell, mayM, mayRange, mayKind, sizedM] at *); simp [wk, wkL, wkO, eqCells, eqCell, mayM, mayRange, mayKind, sizedM, *]; omega)
    let E8 : EL := E7 ++ List.replicate 3 (tC (eT (leL (-2147483648) h6))) ++ [tC (leL (-2147483648) h6), tC (eF (nt (leC 32767 h5))), tC (nt (leC 32767 h5))]
    rcases bft (decide (imm < 2147483648)) with h7 | h7
    ·let E9 : EL := E8 ++ [tC (nt (leC 2147483647 h7)), .inl]
     by_cases h8 : kind = 0
     ·subst h8
      let E10 : EL := E9 ++ [tT, .inl]
      rcases bft (decide (op < 0)) with h9 | h9
      ·let E11 : EL := E10 ++ List.replicate 3 (tC (eT (leL 0 h9))) ++ [tC (leL 0 h9)] ++ List.replicate 16 tF ++ [.inl]
       cases byReg
       ·exact (o86 (d := .bool false) (E11 ++ [tF, tF, tF, tF, tF, tF, tF]) (by kernel_rfl)).to (by clear E1 E2 E3 E4 E5 E6 E7 E8 E9 E10 E11; (try simp only [sl0, wk, wkL, wkO, eqCells, eqCell, mayM, mayRange, mayKind, sizedM] at *); simp [wk, wkL, wkO, eqCells, eqCell, mayM, mayRange, mayKind, sizedM, *]; omega)
       exact (o86 (d := .bool false) (E11 ++ [tT, tF, tF, tF, tF, tF, tF]) (by kernel_rfl)).to (by clear E1 E2 E3 E4 E5 E6 E7 E8 E9 E10 E11; (try simp only [sl0, wk, wkL, wkO, eqCells, eqCell, mayM, mayRange, mayKind, sizedM] at *); simp [wk, wkL, wkO, eqCells, eqCell, mayM, mayRange, mayKind, sizedM, *]; omega)
      let E12 : EL := E10 ++ List.replicate 3 (tC (eT (leL 0 h9))) ++ [tC (leL 0 h9)]
      rcases bft (decide (op < 13)) with h10 | h10
      ·let E13 : EL := E12 ++ List.replicate 4 (tC (eT (leC 12 h10)))
       by_cases h11 : width = 32
       ·subst h11
        let E14 : EL := E13 ++ [tF, tF, tF, tC (eT (leC 12 h10)), tT, tC (leC 12 h10), tT, tT, tT, tT]
        rcases bft (decide (dst < 10)) with h12 | h12
        ·let E15 : EL := E14 ++ List.replicate 4 (tC (eT h12))
         by_cases h13 : op = 8
         ·subst h13
          cases byReg
          ·by_cases h14 : imm = 0
           ·subst h14
            exact (o86 (d := .bool (eqCells [.int .i8 0, .int .i8 0, .int .i8 0, .int .i8 size, .bool false, .int .i8 0, .int .i8 src, .int .i64 off, .int .i64 0] [.int .i8 0, .int .i8 0, .int .i8 0, .int .i8 0, .bool false, .int .i8 0, .int .i8 0, .int .i64 0, .int .i64 0])) (E15 ++ List.replicate 9 tT ++ [tC (eT h12), tF, tC h12, .inl, tF, tT, tT, tT, tT, tT, .flat _ _ flat_Instr, tT]) (by kernel_rfl)).to (by clear E1 E2 E3 E4 E5 E6 E7 E8 E9 E10 E12 E13 E14 E15; (try simp only [sl0, wk, wkL, wkO, eqCells, eqCell, mayM, mayRange, mayKind, sizedM] at *); rw [Bool.eq_iff_iff]; simp [wk, wkL, wkO, eqCells, eqCell, mayM, mayRange, mayKind, sizedM, *]; omega)
           exact (o86 (d := .bool false) (E15 ++ List.replicate 9 tT ++ [tC (eT h12), tF, tC h12, .inl, tF] ++ List.replicate 5 (tC (eT (neOf h14))) ++ [tC (neOf h14)]) (by kernel_rfl)).to (by clear E1 E2 E3 E4 E5 E6 E7 E8 E9 E10 E12 E13 E14 E15; (try simp only [sl0, wk, wkL, wkO, eqCells, eqCell, mayM, mayRange, mayKind, sizedM] at *); simp [wk, wkL, wkO, eqCells, eqCell, mayM, mayRange, mayKind, sizedM, *]; done)
          exact (o86 (d := .bool false) (E15 ++ [tT, tT, tT, tT, tF, tF, tF, tT, tF, tC (eT h12), tF, tC h12, .inl, tT, tF, tF, tF, tF, tF, tF]) (by kernel_rfl)).to (by clear E1 E2 E3 E4 E5 E6 E7 E8 E9 E10 E12 E13 E14 E15; (try simp only [sl0, wk, wkL, wkO, eqCells, eqCell, mayM, mayRange, mayKind, sizedM] at *); simp [wk, wkL, wkO, eqCells, eqCell, mayM, mayRange, mayKind, sizedM, *]; done)
         let E16 : EL := E15 ++ List.replicate 5 (tC (eF (nt (neOf h13)))) ++ [tC (eT h12), tC (nt (neOf h13)), tC h12, .inl]
         cases byReg
         ·exact (o86 (d := .bool (eqCells [.int .i8 0, .int .i8 0, .int .i8 0, .int .i8 size, .bool false, .int .i8 0, .int .i8 src, .int .i64 off, .int .i64 0] [.int .i8 0, .int .i8 0, .int .i8 0, .int .i8 0, .bool false, .int .i8 0, .int .i8 0, .int .i64 0, .int .i64 0])) (E16 ++ [tF, tT, tT, tT, tT, tT, .flat _ _ flat_Instr, tT]) (by kernel_rfl)).to (by clear E1 E2 E3 E4 E5 E6 E7 E8 E9 E10 E12 E13 E14 E15 E16; (try simp only [sl0, wk, wkL, wkO, eqCells, eqCell, mayM, mayRange, mayKind, sizedM] at *); rw [Bool.eq_iff_iff]; simp [wk, wkL, wkO, eqCells, eqCell, mayM, mayRange, mayKind, sizedM, *]; omega)
         exact (o86 (d := .bool (eqCells [.int .i8 0, .int .i8 0, .int .i8 0, .int .i8 size, .bool false, .int .i8 0, .int .i8 0, .int .i64 off, .int .i64 imm] [.int .i8 0, .int .i8 0, .int .i8 0, .int .i8 0, .bool false, .int .i8 0, .int .i8 0, .int .i64 0, .int .i64 0])) (E16 ++ [tT, tT, tT, tT, tT, tT, .flat _ _ flat_Instr, tT]) (by kernel_rfl)).to (by clear E1 E2 E3 E4 E5 E6 E7 E8 E9 E10 E12 E13 E14 E15 E16; (try simp only [sl0, wk, wkL, wkO, eqCells, eqCell, mayM, mayRange, mayKind, sizedM] at *); rw [Bool.eq_iff_iff]; simp [wk, wkL, wkO, eqCells, eqCell, mayM, mayRange, mayKind, sizedM, *]; omega)
        cases byReg
        ·exact (o86 (d := .bool false) (E14 ++ List.replicate 5 (tC (eT h12)) ++ [tC h12, .inl, tF, tF, tF, tF, tF, tF, tF]) (by kernel_rfl)).to (by clear E1 E2 E3 E4 E5 E6 E7 E8 E9 E10 E12 E13 E14; (try simp only [sl0, wk, wkL, wkO, eqCells, eqCell, mayM, mayRange, mayKind, sizedM] at *); simp [wk, wkL, wkO, eqCells, eqCell, mayM, mayRange, mayKind, sizedM, *]; done)
        exact (o86 (d := .bool false) (E14 ++ List.replicate 5 (tC (eT h12)) ++ [tC h12, .inl, tT, tF, tF, tF, tF, tF, tF]) (by kernel_rfl)).to (by clear E1 E2 E3 E4 E5 E6 E7 E8 E9 E10 E12 E13 E14; (try simp only [sl0, wk, wkL, wkO, eqCells, eqCell, mayM, mayRange, mayKind, sizedM] at *); simp [wk, wkL, wkO, eqCells, eqCell, mayM, mayRange, mayKind, sizedM, *]; done)
       let E17 : EL := E13 ++ List.replicate 3 (tC (eF (neOf h11))) ++ [tC (eT (leC 12 h10)), tC (neOf h11), tC (leC 12 h10)]
       by_cases h15 : width = 64
       ·subst h15
        let E18 : EL := E17 ++ [tT, tT, tT, tT]
        rcases bft (decide (dst < 10)) with h16 | h16
        ·let E19 : EL := E18 ++ List.replicate 4 (tC (eT h16))
         by_cases h17 : op = 8
         ·subst h17
          cases byReg
          ·by_cases h18 : imm = 0
           ·subst h18
            exact (o86 (d := .bool (eqCells [.int .i8 0, .int .i8 0, .int .i8 0, .int .i8 size, .bool false, .int .i8 0, .int .i8 src, .int .i64 off, .int .i64 0] [.int .i8 0, .int .i8 0, .int .i8 0, .int .i8 0, .bool false, .int .i8 0, .int .i8 0, .int .i64 0, .int .i64 0])) (E19 ++ List.replicate 9 tT ++ [tC (eT h16), tF, tC h16, .inl, tF, tT, tT, tT, tT, tT, .flat _ _ flat_Instr, tT]) (by kernel_rfl)).to (by clear E1 E2 E3 E4 E5 E6 E7 E8 E9 E10 E12 E13 E17 E18 E19; (try simp only [sl0, wk, wkL, wkO, eqCells, eqCell, mayM, mayRange, mayKind, sizedM] at *); rw [Bool.eq_iff_iff]; simp [wk, wkL, wkO, eqCells, eqCell, mayM, mayRange, mayKind, sizedM, *]; omega)
           exact (o86 (d := .bool false) (E19 ++ List.replicate 9 tT ++ [tC (eT h16), tF, tC h16, .inl, tF] ++ List.replicate 5 (tC (eT (neOf h18))) ++ [tC (neOf h18)]) (by kernel_rfl)).to (by clear E1 E2 E3 E4 E5 E6 E7 E8 E9 E10 E12 E13 E17 E18 E19; (try simp only [sl0, wk, wkL, wkO, eqCells, eqCell, mayM, mayRange, mayKind, sizedM] at *); simp [wk, wkL, wkO, eqCells, eqCell, mayM, mayRange, mayKind, sizedM, *]; done)
          exact (o86 (d := .bool false) (E19 ++ [tT, tT, tT, tT, tF, tF, tF, tT, tF, tC (eT h16), tF, tC h16, .inl, tT, tF, tF, tF, tF, tF, tF]) (by kernel_rfl)).to (by clear E1 E2 E3 E4 E5 E6 E7 E8 E9 E10 E12 E13 E17 E18 E19; (try simp only [sl0, wk, wkL, wkO, eqCells, eqCell, mayM, mayRange, mayKind, sizedM] at *); simp [wk, wkL, wkO, eqCells, eqCell, mayM, mayRange, mayKind, sizedM, *]; done)
         let E20 : EL := E19 ++ List.replicate 5 (tC (eF (nt (neOf h17)))) ++ [tC (eT h16), tC (nt (neOf h17)), tC h16, .inl]
         cases byReg
         ·exact (o86 (d := .bool (eqCells [.int .i8 0, .int .i8 0, .int .i8 0, .int .i8 size, .bool false, .int .i8 0, .int .i8 src, .int .i64 off, .int .i64 0] [.int .i8 0, .int .i8 0, .int .i8 0, .int .i8 0, .bool false, .int .i8 0, .int .i8 0, .int .i64 0, .int .i64 0])) (E20 ++ [tF, tT, tT, tT, tT, tT, .flat _ _ flat_Instr, tT]) (by kernel_rfl)).to (by clear E1 E2 E3 E4 E5 E6 E7 E8 E9 E10 E12 E13 E17 E18 E19 E20; (try simp only [sl0, wk, wkL, wkO, eqCells, eqCell, mayM, mayRange, mayKind, sizedM] at *); rw [Bool.eq_iff_iff]; simp [wk, wkL, wkO, eqCells, eqCell, mayM, mayRange, mayKind, sizedM, *]; omega)
         exact (o86 (d := .bool (eqCells [.int .i8 0, .int .i8 0, .int .i8 0, .int .i8 size, .bool false, .int .i8 0, .int .i8 0, .int .i64 off, .int .i64 imm] [.int .i8 0, .int .i8 0, .int .i8 0, .int .i8 0, .bool false, .int .i8 0, .int .i8 0, .int .i64 0, .int .i64 0])) (E20 ++ [tT, tT, tT, tT, tT, tT, .flat _ _ flat_Instr, tT]) (by kernel_rfl)).to (by clear E1 E2 E3 E4 E5 E6 E7 E8 E9 E10 E12 E13 E17 E18 E19 E20; (try simp only [sl0, wk, wkL, wkO, eqCells, eqCell, mayM, mayRange, mayKind, sizedM] at *); rw [Bool.eq_iff_iff]; simp [wk, wkL, wkO, eqCells, eqCell, mayM, mayRange, mayKind, sizedM, *]; omega)
        cases byReg
        ·exact (o86 (d := .bool false) (E18 ++ List.replicate 5 (tC (eT h16)) ++ [tC h16, .inl, tF, tF, tF, tF, tF, tF, tF]) (by kernel_rfl)).to (by clear E1 E2 E3 E4 E5 E6 E7 E8 E9 E10 E12 E13 E17 E18; (try simp only [sl0, wk, wkL, wkO, eqCells, eqCell, mayM, mayRange, mayKind, sizedM] at *); simp [wk, wkL, wkO, eqCells, eqCell, mayM, mayRange, mayKind, sizedM, *]; done)
        exact (o86 (d := .bool false) (E18 ++ List.replicate 5 (tC (eT h16)) ++ [tC h16, .inl, tT, tF, tF, tF, tF, tF, tF]) (by kernel_rfl)).to (by clear E1 E2 E3 E4 E5 E6 E7 E8 E9 E10 E12 E13 E17 E18; (try simp only [sl0, wk, wkL, wkO, eqCells, eqCell, mayM, mayRange, mayKind, sizedM] at *); simp [wk, wkL, wkO, eqCells, eqCell, mayM, mayRange, mayKind, sizedM, *]; done)
       let E21 : EL := E17 ++ List.replicate 3 (tC (eT (neOf h15))) ++ [tC (neOf h15), tF, tF, tF, tF, tF, tF, .inl]
       cases byReg
       ·exact (o86 (d := .bool false) (E21 ++ [tF, tF, tF, tF, tF, tF, tF]) (by kernel_rfl)).to (by clear E1 E2 E3 E4 E5 E6 E7 E8 E9 E10 E12 E13 E17 E21; (try simp only [sl0, wk, wkL, wkO, eqCells, eqCell, mayM, mayRange, mayKind, sizedM] at *); simp [wk, wkL, wkO, eqCells, eqCell, mayM, mayRange, mayKind, sizedM, *]; done)
       exact (o86 (d := .bool false) (E21 ++ [tT, tF, tF, tF, tF, tF, tF]) (by kernel_rfl)).to (by clear E1 E2 E3 E4 E5 E6 E7 E8 E9 E10 E12 E13 E17 E21; (try simp only [sl0, wk, wkL, wkO, eqCells, eqCell, mayM, mayRange, mayKind, sizedM] at *); simp [wk, wkL, wkO, eqCells, eqCell, mayM, mayRange, mayKind, sizedM, *]; done)
      let E22 : EL := E12 ++ List.replicate 5 (tC (eT (leC 12 h10))) ++ [tC (leC 12 h10)] ++ List.replicate 10 tF ++ [.inl]
      cases byReg
      ·exact (o86 (d := .bool false) (E22 ++ [tF, tF, tF, tF, tF, tF, tF]) (by kernel_rfl)).to (by clear E1 E2 E3 E4 E5 E6 E7 E8 E9 E10 E12 E22; (try simp only [sl0, wk, wkL, wkO, eqCells, eqCell, mayM, mayRange, mayKind, sizedM] at *); simp [wk, wkL, wkO, eqCells, eqCell, mayM, mayRange, mayKind, sizedM, *]; omega)
      exact (o86 (d := .bool false) (E22 ++ [tT, tF, tF, tF, tF, tF, tF]) (by kernel_rfl)).to (by clear E1 E2 E3 E4 E5 E6 E7 E8 E9 E10 E12 E22; (try simp only [sl0, wk, wkL, wkO, eqCells, eqCell, mayM, mayRange, mayKind, sizedM] at *); simp [wk, wkL, wkO, eqCells, eqCell, mayM, mayRange, mayKind, sizedM, *]; omega)
     let E23 : EL := E9 ++ [tC (neOf h8)]
     by_cases h19 : kind = 1
     ·subst h19
      let E24 : EL := E23 ++ [tT, .inl]
      by_cases h20 : size = 1
      ·subst h20
       rcases bft (decide (dst < 10)) with h21 | h21
       ·exact (o86 (d := .bool (eqCells [.int .i8 1, .int .i8 op, .int .i8 width, .int .i8 0, .bool byReg, .int .i8 0, .int .i8 0, .int .i64 0, .int .i64 imm] [.int .i8 1, .int .i8 0, .int .i8 0, .int .i8 0, .bool false, .int .i8 0, .int .i8 0, .int .i64 0, .int .i64 0])) (E24 ++ [tF, tF, tT, tF, tF, tT, tF, tF, tT, tT, tT, tT, tT] ++ List.replicate 5 (tC (eT h21)) ++ [.flat _ _ flat_Instr, tC h21]) (by kernel_rfl)).to (by clear E1 E2 E3 E4 E5 E6 E7 E8 E9 E23 E24; (try simp only [sl0, wk, wkL, wkO, eqCells, eqCell, mayM, mayRange, mayKind, sizedM] at *); rw [Bool.eq_iff_iff]; simp [wk, wkL, wkO, eqCells, eqCell, mayM, mayRange, mayKind, sizedM, *]; grind)
       exact (o86 (d := .bool false) (E24 ++ [tF, tF, tT, tF, tF, tT, tF, tF, tT, tT, tT, tT, tT] ++ List.replicate 5 (tC (eT h21)) ++ [tC h21]) (by kernel_rfl)).to (by clear E1 E2 E3 E4 E5 E6 E7 E8 E9 E23 E24; (try simp only [sl0, wk, wkL, wkO, eqCells, eqCell, mayM, mayRange, mayKind, sizedM] at *); simp [wk, wkL, wkO, eqCells, eqCell, mayM, mayRange, mayKind, sizedM, *]; done)
      let E25 : EL := E24 ++ [tC (eF (neOf h20)), tC (eF (neOf h20)), tC (neOf h20)]
      by_cases h22 : size = 2
      ·subst h22
       rcases bft (decide (dst < 10)) with h23 | h23
       ·exact (o86 (d := .bool (eqCells [.int .i8 1, .int .i8 op, .int .i8 width, .int .i8 0, .bool byReg, .int .i8 0, .int .i8 0, .int .i64 0, .int .i64 imm] [.int .i8 1, .int .i8 0, .int .i8 0, .int .i8 0, .bool false, .int .i8 0, .int .i8 0, .int .i64 0, .int .i64 0])) (E25 ++ [tF, tF, tT, tF, tF, tT, tT, tT, tT, tT] ++ List.replicate 5 (tC (eT h23)) ++ [.flat _ _ flat_Instr, tC h23]) (by kernel_rfl)).to (by clear E1 E2 E3 E4 E5 E6 E7 E8 E9 E23 E24 E25; (try simp only [sl0, wk, wkL, wkO, eqCells, eqCell, mayM, mayRange, mayKind, sizedM] at *); rw [Bool.eq_iff_iff]; simp [wk, wkL, wkO, eqCells, eqCell, mayM, mayRange, mayKind, sizedM, *]; grind)
       exact (o86 (d := .bool false) (E25 ++ [tF, tF, tT, tF, tF, tT, tT, tT, tT, tT] ++ List.replicate 5 (tC (eT h23)) ++ [tC h23]) (by kernel_rfl)).to (by clear E1 E2 E3 E4 E5 E6 E7 E8 E9 E23 E24 E25; (try simp only [sl0, wk, wkL, wkO, eqCells, eqCell, mayM, mayRange, mayKind, sizedM] at *); simp [wk, wkL, wkO, eqCells, eqCell, mayM, mayRange, mayKind, sizedM, *]; done)
      let E26 : EL := E25 ++ [tC (eF (neOf h22)), tC (eF (neOf h22)), tC (neOf h22)]
      by_cases h24 : size = 4
      ·subst h24
       rcases bft (decide (dst < 10)) with h25 | h25
       ·exact (o86 (d := .bool (eqCells [.int .i8 1, .int .i8 op, .int .i8 width, .int .i8 0, .bool byReg, .int .i8 0, .int .i8 0, .int .i64 0, .int .i64 imm] [.int .i8 1, .int .i8 0, .int .i8 0, .int .i8 0, .bool false, .int .i8 0, .int .i8 0, .int .i64 0, .int .i64 0])) (E26 ++ [tF, tF, tT, tT, tT, tT, tT] ++ List.replicate 5 (tC (eT h25)) ++ [.flat _ _ flat_Instr, tC h25]) (by kernel_rfl)).to (by clear E1 E2 E3 E4 E5 E6 E7 E8 E9 E23 E24 E25 E26; (try simp only [sl0, wk, wkL, wkO, eqCells, eqCell, mayM, mayRange, mayKind, sizedM] at *); rw [Bool.eq_iff_iff]; simp [wk, wkL, wkO, eqCells, eqCell, mayM, mayRange, mayKind, sizedM, *]; grind)
       exact (o86 (d := .bool false) (E26 ++ [tF, tF, tT, tT, tT, tT, tT] ++ List.replicate 5 (tC (eT h25)) ++ [tC h25]) (by kernel_rfl)).to (by clear E1 E2 E3 E4 E5 E6 E7 E8 E9 E23 E24 E25 E26; (try simp only [sl0, wk, wkL, wkO, eqCells, eqCell, mayM, mayRange, mayKind, sizedM] at *); simp [wk, wkL, wkO, eqCells, eqCell, mayM, mayRange, mayKind, sizedM, *]; done)
      let E27 : EL := E26 ++ [tC (eF (neOf h24)), tC (eF (neOf h24)), tC (neOf h24)]
      by_cases h26 : size = 8
      ·subst h26
       rcases bft (decide (dst < 10)) with h27 | h27
       ·exact (o86 (d := .bool (eqCells [.int .i8 1, .int .i8 op, .int .i8 width, .int .i8 0, .bool byReg, .int .i8 0, .int .i8 0, .int .i64 0, .int .i64 imm] [.int .i8 1, .int .i8 0, .int .i8 0, .int .i8 0, .bool false, .int .i8 0, .int .i8 0, .int .i64 0, .int .i64 0])) (E27 ++ [tT, tT, tT, tT] ++ List.replicate 5 (tC (eT h27)) ++ [.flat _ _ flat_Instr, tC h27]) (by kernel_rfl)).to (by clear E1 E2 E3 E4 E5 E6 E7 E8 E9 E23 E24 E25 E26 E27; (try simp only [sl0, wk, wkL, wkO, eqCells, eqCell, mayM, mayRange, mayKind, sizedM] at *); rw [Bool.eq_iff_iff]; simp [wk, wkL, wkO, eqCells, eqCell, mayM, mayRange, mayKind, sizedM, *]; grind)
       exact (o86 (d := .bool false) (E27 ++ [tT, tT, tT, tT] ++ List.replicate 5 (tC (eT h27)) ++ [tC h27]) (by kernel_rfl)).to (by clear E1 E2 E3 E4 E5 E6 E7 E8 E9 E23 E24 E25 E26 E27; (try simp only [sl0, wk, wkL, wkO, eqCells, eqCell, mayM, mayRange, mayKind, sizedM] at *); simp [wk, wkL, wkO, eqCells, eqCell, mayM, mayRange, mayKind, sizedM, *]; done)
      exact (o86 (d := .bool false) (E27 ++ List.replicate 3 (tC (eT (neOf h26))) ++ [tC (neOf h26), tF, tF, tF, tF, tF, tF]) (by kernel_rfl)).to (by clear E1 E2 E3 E4 E5 E6 E7 E8 E9 E23 E24 E25 E26 E27; (try simp only [sl0, wk, wkL, wkO, eqCells, eqCell, mayM, mayRange, mayKind, sizedM] at *); simp [wk, wkL, wkO, eqCells, eqCell, mayM, mayRange, mayKind, sizedM, *]; done)
     let E28 : EL := E23 ++ [tC (neOf h19)]
     by_cases h28 : kind = 2
     ·subst h28
      by_cases h29 : size = 1
      ·subst h29
       exact (o86 (d := .bool (eqCells [.int .i8 2, .int .i8 op, .int .i8 width, .int .i8 0, .bool byReg, .int .i8 0, .int .i8 0, .int .i64 0, .int .i64 imm] [.int .i8 2, .int .i8 0, .int .i8 0, .int .i8 0, .bool false, .int .i8 0, .int .i8 0, .int .i64 0, .int .i64 0])) (E28 ++ [tT, .inl, tF, tF, tT, tF, tF, tT, tF, tF, tT, tT, tT, tT, tT, tT, .flat _ _ flat_Instr, tT]) (by kernel_rfl)).to (by clear E1 E2 E3 E4 E5 E6 E7 E8 E9 E23 E28; (try simp only [sl0, wk, wkL, wkO, eqCells, eqCell, mayM, mayRange, mayKind, sizedM] at *); rw [Bool.eq_iff_iff]; simp [wk, wkL, wkO, eqCells, eqCell, mayM, mayRange, mayKind, sizedM, *]; grind)
      let E29 : EL := E28 ++ [tT, .inl, tC (eF (neOf h29)), tC (eF (neOf h29)), tC (neOf h29)]
      by_cases h30 : size = 2
      ·subst h30
       exact (o86 (d := .bool (eqCells [.int .i8 2, .int .i8 op, .int .i8 width, .int .i8 0, .bool byReg, .int .i8 0, .int .i8 0, .int .i64 0, .int .i64 imm] [.int .i8 2, .int .i8 0, .int .i8 0, .int .i8 0, .bool false, .int .i8 0, .int .i8 0, .int .i64 0, .int .i64 0])) (E29 ++ [tF, tF, tT, tF, tF, tT, tT, tT, tT, tT, tT, .flat _ _ flat_Instr, tT]) (by kernel_rfl)).to (by clear E1 E2 E3 E4 E5 E6 E7 E8 E9 E23 E28 E29; (try simp only [sl0, wk, wkL, wkO, eqCells, eqCell, mayM, mayRange, mayKind, sizedM] at *); rw [Bool.eq_iff_iff]; simp [wk, wkL, wkO, eqCells, eqCell, mayM, mayRange, mayKind, sizedM, *]; grind)
      let E30 : EL := E29 ++ [tC (eF (neOf h30)), tC (eF (neOf h30)), tC (neOf h30)]
      by_cases h31 : size = 4
      ·subst h31
       exact (o86 (d := .bool (eqCells [.int .i8 2, .int .i8 op, .int .i8 width, .int .i8 0, .bool byReg, .int .i8 0, .int .i8 0, .int .i64 0, .int .i64 imm] [.int .i8 2, .int .i8 0, .int .i8 0, .int .i8 0, .bool false, .int .i8 0, .int .i8 0, .int .i64 0, .int .i64 0])) (E30 ++ [tF, tF, tT, tT, tT, tT, tT, tT, .flat _ _ flat_Instr, tT]) (by kernel_rfl)).to (by clear E1 E2 E3 E4 E5 E6 E7 E8 E9 E23 E28 E29 E30; (try simp only [sl0, wk, wkL, wkO, eqCells, eqCell, mayM, mayRange, mayKind, sizedM] at *); rw [Bool.eq_iff_iff]; simp [wk, wkL, wkO, eqCells, eqCell, mayM, mayRange, mayKind, sizedM, *]; grind)
      by_cases h32 : size = 8
      ·subst h32
       exact (o86 (d := .bool (eqCells [.int .i8 2, .int .i8 op, .int .i8 width, .int .i8 0, .bool byReg, .int .i8 0, .int .i8 0, .int .i64 0, .int .i64 imm] [.int .i8 2, .int .i8 0, .int .i8 0, .int .i8 0, .bool false, .int .i8 0, .int .i8 0, .int .i64 0, .int .i64 0])) (E30 ++ [tC (eF (neOf h31)), tC (eF (neOf h31)), tC (neOf h31), tT, tT, tT, tT, tT, .flat _ _ flat_Instr, tT]) (by kernel_rfl)).to (by clear E1 E2 E3 E4 E5 E6 E7 E8 E9 E23 E28 E29 E30; (try simp only [sl0, wk, wkL, wkO, eqCells, eqCell, mayM, mayRange, mayKind, sizedM] at *); rw [Bool.eq_iff_iff]; simp [wk, wkL, wkO, eqCells, eqCell, mayM, mayRange, mayKind, sizedM, *]; grind)
      exact (o86 (d := .bool false) (E30 ++ [tC (eF (neOf h31)), tC (eF (neOf h31)), tC (neOf h31)] ++ List.replicate 5 (tC (eT (neOf h32))) ++ [tC (neOf h32)]) (by kernel_rfl)).to (by clear E1 E2 E3 E4 E5 E6 E7 E8 E9 E23 E28 E29 E30; (try simp only [sl0, wk, wkL, wkO, eqCells, eqCell, mayM, mayRange, mayKind, sizedM] at *); simp [wk, wkL, wkO, eqCells, eqCell, mayM, mayRange, mayKind, sizedM, *]; done)
     let E31 : EL := E28 ++ [tC (neOf h28)]
     by_cases h33 : kind = 3
     ·subst h33
      rcases bft (decide (op < 0)) with h34 | h34
      ·let E32 : EL := E31 ++ [tT, .inl] ++ List.replicate 3 (tC (eT (leL 0 h34))) ++ [tC (leL 0 h34), .inl]
       cases byReg
       ·exact (o86 (d := .bool false) (E32 ++ [tF, tF, tF, tF, tF, tF, tF]) (by kernel_rfl)).to (by clear E1 E2 E3 E4 E5 E6 E7 E8 E9 E23 E28 E31 E32; (try simp only [sl0, wk, wkL, wkO, eqCells, eqCell, mayM, mayRange, mayKind, sizedM] at *); simp [wk, wkL, wkO, eqCells, eqCell, mayM, mayRange, mayKind, sizedM, *]; omega)
       exact (o86 (d := .bool false) (E32 ++ [tT, tF, tF, tF, tF, tF, tF]) (by kernel_rfl)).to (by clear E1 E2 E3 E4 E5 E6 E7 E8 E9 E23 E28 E31 E32; (try simp only [sl0, wk, wkL, wkO, eqCells, eqCell, mayM, mayRange, mayKind, sizedM] at *); simp [wk, wkL, wkO, eqCells, eqCell, mayM, mayRange, mayKind, sizedM, *]; omega)
      let E33 : EL := E31 ++ [tT, .inl] ++ List.replicate 3 (tC (eT (leL 0 h34))) ++ [tC (leL 0 h34), .inl]
      cases byReg
      ·rcases bft (decide (op < 11)) with h35 | h35
       ·exact (o86 (d := .bool (eqCells [.int .i8 3, .int .i8 0, .int .i8 width, .int .i8 size, .bool false, .int .i8 0, .int .i8 src, .int .i64 0, .int .i64 0] [.int .i8 3, .int .i8 0, .int .i8 0, .int .i8 0, .bool false, .int .i8 0, .int .i8 0, .int .i64 0, .int .i64 0])) (E33 ++ [tF] ++ List.replicate 5 (tC (eT (leC 10 h35))) ++ [.flat _ _ flat_Instr, tC (leC 10 h35)]) (by kernel_rfl)).to (by clear E1 E2 E3 E4 E5 E6 E7 E8 E9 E23 E28 E31 E33; (try simp only [sl0, wk, wkL, wkO, eqCells, eqCell, mayM, mayRange, mayKind, sizedM] at *); rw [Bool.eq_iff_iff]; simp [wk, wkL, wkO, eqCells, eqCell, mayM, mayRange, mayKind, sizedM, *]; omega)
       exact (o86 (d := .bool false) (E33 ++ [tF] ++ List.replicate 5 (tC (eT (leC 10 h35))) ++ [tC (leC 10 h35)]) (by kernel_rfl)).to (by clear E1 E2 E3 E4 E5 E6 E7 E8 E9 E23 E28 E31 E33; (try simp only [sl0, wk, wkL, wkO, eqCells, eqCell, mayM, mayRange, mayKind, sizedM] at *); simp [wk, wkL, wkO, eqCells, eqCell, mayM, mayRange, mayKind, sizedM, *]; omega)
      rcases bft (decide (op < 11)) with h36 | h36
      ·exact (o86 (d := .bool (eqCells [.int .i8 3, .int .i8 0, .int .i8 width, .int .i8 size, .bool false, .int .i8 0, .int .i8 0, .int .i64 0, .int .i64 imm] [.int .i8 3, .int .i8 0, .int .i8 0, .int .i8 0, .bool false, .int .i8 0, .int .i8 0, .int .i64 0, .int .i64 0])) (E33 ++ [tT] ++ List.replicate 5 (tC (eT (leC 10 h36))) ++ [.flat _ _ flat_Instr, tC (leC 10 h36)]) (by kernel_rfl)).to (by clear E1 E2 E3 E4 E5 E6 E7 E8 E9 E23 E28 E31 E33; (try simp only [sl0, wk, wkL, wkO, eqCells, eqCell, mayM, mayRange, mayKind, sizedM] at *); rw [Bool.eq_iff_iff]; simp [wk, wkL, wkO, eqCells, eqCell, mayM, mayRange, mayKind, sizedM, *]; omega)
      exact (o86 (d := .bool false) (E33 ++ [tT] ++ List.replicate 5 (tC (eT (leC 10 h36))) ++ [tC (leC 10 h36)]) (by kernel_rfl)).to (by clear E1 E2 E3 E4 E5 E6 E7 E8 E9 E23 E28 E31 E33; (try simp only [sl0, wk, wkL, wkO, eqCells, eqCell, mayM, mayRange, mayKind, sizedM] at *); simp [wk, wkL, wkO, eqCells, eqCell, mayM, mayRange, mayKind, sizedM, *]; omega)
     by_cases h37 : kind = 4
     ·subst h37
      exact (o86 (d := .bool (eqCells [.int .i8 4, .int .i8 op, .int .i8 width, .int .i8 size, .bool byReg, .int .i8 dst, .int .i8 src, .int .i64 0, .int .i64 imm] [.int .i8 4, .int .i8 0, .int .i8 0, .int .i8 0, .bool false, .int .i8 0, .int .i8 0, .int .i64 0, .int .i64 0])) (E31 ++ [tC (neOf h33), tT, tT, tT, tT, tT, tT, .flat _ _ flat_Instr, tT]) (by kernel_rfl)).to (by clear E1 E2 E3 E4 E5 E6 E7 E8 E9 E23 E28 E31; (try simp only [sl0, wk, wkL, wkO, eqCells, eqCell, mayM, mayRange, mayKind, sizedM] at *); rw [Bool.eq_iff_iff]; simp [wk, wkL, wkO, eqCells, eqCell, mayM, mayRange, mayKind, sizedM, *]; grind)
     let E34 : EL := E31 ++ [tC (neOf h33), tC (neOf h37)]
     by_cases h38 : kind = 5
     ·subst h38
      rcases bft (decide (imm < 0)) with h39 | h39
      ·exact (o86 (d := .bool false) (E34 ++ [tT, .inl] ++ List.replicate 3 (tC (eT (leL 0 h39))) ++ [tC (leL 0 h39), tF, tF, tF, tF, tF, tF]) (by kernel_rfl)).to (by clear E1 E2 E3 E4 E5 E6 E7 E8 E9 E23 E28 E31 E34; (try simp only [sl0, wk, wkL, wkO, eqCells, eqCell, mayM, mayRange, mayKind, sizedM] at *); simp [wk, wkL, wkO, eqCells, eqCell, mayM, mayRange, mayKind, sizedM, *]; omega)
      rcases bft (decide (imm < 16)) with h40 | h40
      ·exact (o86 (d := .bool (eqCells [.int .i8 5, .int .i8 op, .int .i8 width, .int .i8 size, .bool byReg, .int .i8 dst, .int .i8 src, .int .i64 off, .int .i64 0] [.int .i8 5, .int .i8 0, .int .i8 0, .int .i8 0, .bool false, .int .i8 0, .int .i8 0, .int .i64 0, .int .i64 0])) (E34 ++ [tT, .inl] ++ List.replicate 3 (tC (eT (leL 0 h39))) ++ [tC (leL 0 h39)] ++ List.replicate 5 (tC (eT (leC 15 h40))) ++ [.flat _ _ flat_Instr, tC (leC 15 h40)]) (by kernel_rfl)).to (by clear E1 E2 E3 E4 E5 E6 E7 E8 E9 E23 E28 E31 E34; (try simp only [sl0, wk, wkL, wkO, eqCells, eqCell, mayM, mayRange, mayKind, sizedM] at *); rw [Bool.eq_iff_iff]; simp [wk, wkL, wkO, eqCells, eqCell, mayM, mayRange, mayKind, sizedM, *]; grind)
      exact (o86 (d := .bool false) (E34 ++ [tT, .inl] ++ List.replicate 3 (tC (eT (leL 0 h39))) ++ [tC (leL 0 h39)] ++ List.replicate 5 (tC (eT (leC 15 h40))) ++ [tC (leC 15 h40)]) (by kernel_rfl)).to (by clear E1 E2 E3 E4 E5 E6 E7 E8 E9 E23 E28 E31 E34; (try simp only [sl0, wk, wkL, wkO, eqCells, eqCell, mayM, mayRange, mayKind, sizedM] at *); simp [wk, wkL, wkO, eqCells, eqCell, mayM, mayRange, mayKind, sizedM, *]; omega)
     by_cases h41 : kind = 6
     ·subst h41
      exact (o86 (d := .bool (eqCells [.int .i8 6, .int .i8 op, .int .i8 width, .int .i8 size, .bool byReg, .int .i8 dst, .int .i8 src, .int .i64 off, .int .i64 imm] [.int .i8 6, .int .i8 0, .int .i8 0, .int .i8 0, .bool false, .int .i8 0, .int .i8 0, .int .i64 0, .int .i64 0])) (E34 ++ [tC (neOf h38), tT, tT, tT, tT, tT, tT, .flat _ _ flat_Instr, tT]) (by kernel_rfl)).to (by clear E1 E2 E3 E4 E5 E6 E7 E8 E9 E23 E28 E31 E34; (try simp only [sl0, wk, wkL, wkO, eqCells, eqCell, mayM, mayRange, mayKind, sizedM] at *); rw [Bool.eq_iff_iff]; simp [wk, wkL, wkO, eqCells, eqCell, mayM, mayRange, mayKind, sizedM, *]; grind)
     exact (o86 (d := .bool false) (E34 ++ [tC (neOf h38), tC (neOf h41), tF, tF, tF, tF, tF, tF]) (by kernel_rfl)).to (by clear E1 E2 E3 E4 E5 E6 E7 E8 E9 E23 E28 E31 E34; (try simp only [sl0, wk, wkL, wkO, eqCells, eqCell, mayM, mayRange, mayKind, sizedM] at *); simp [wk, wkL, wkO, eqCells, eqCell, mayM, mayRange, mayKind, sizedM, *]; done)
    exact (o86 (d := .bool false) (E8 ++ [tC (nt (leC 2147483647 h7))]) (by kernel_rfl)).to (by clear E1 E2 E3 E4 E5 E6 E7 E8; (try simp only [sl0, wk, wkL, wkO, eqCells, eqCell, mayM, mayRange, mayKind, sizedM] at *); simp [wk, wkL, wkO, eqCells, eqCell, mayM, mayRange, mayKind, sizedM, *]; omega)
   exact (o86 (d := .bool false) (E6 ++ List.replicate 4 (tC (eF (nt (leC 32767 h5)))) ++ [tC (nt (leC 32767 h5)), tT]) (by kernel_rfl)).to (by clear E1 E2 E3 E4 E5 E6; (try simp only [sl0, wk, wkL, wkO, eqCells, eqCell, mayM, mayRange, mayKind, sizedM] at *); simp [wk, wkL, wkO, eqCells, eqCell, mayM, mayRange, mayKind, sizedM, *]; omega)
  exact (o86 (d := .bool false) (E4 ++ List.replicate 4 (tC (eF (nt (leC 10 h3)))) ++ [tC (nt (leC 10 h3)), tF, tF, tF, tF, tT, tT]) (by kernel_rfl)).to (by clear E1 E2 E3 E4; (try simp only [sl0, wk, wkL, wkO, eqCells, eqCell, mayM, mayRange, mayKind, sizedM] at *); simp [wk, wkL, wkO, eqCells, eqCell, mayM, mayRange, mayKind, sizedM, *]; omega)
 exact (o86 (d := .bool false) (E2 ++ List.replicate 4 (tC (eF (nt (leC 10 h1)))) ++ [tC (nt (leC 10 h1)), tF, tF, tF, tF, tT, tF, tF, tF, tF, tT, tT]) (by kernel_rfl)).to (by clear E1 E2; (try simp only [sl0, wk, wkL, wkO, eqCells, eqCell, mayM, mayRange, mayKind, sizedM] at *); simp [wk, wkL, wkO, eqCells, eqCell, mayM, mayRange, mayKind, sizedM, *]; omega)
end Go.Proofs.YtojgmjfcfpclbaaGreat

namespace Go.Proofs.YtojgmjfcfpclbaaGreat
open Go Go.Ev
set_option maxRecDepth 100000
set_option maxHeartbeats 8000000
theorem l_take_ok (phys reg : Int) : Ret Tryz.prog 146 ([.int .i8 phys, .int .i8 reg]) ((irD 1 0 0 0 0 0 0 0 0 reg phys 0 0)) := by
 exact (o146 (d := (irD 1 0 0 0 0 0 0 0 0 reg phys 0 0)) [] (by kernel_rfl)).to (by simp [wk, wkL, wkO])
theorem l_give_ok (reg phys : Int) : Ret Tryz.prog 182 ([.int .i8 reg, .int .i8 phys]) ((irD 2 0 0 0 0 0 0 0 0 reg phys 0 0)) := by
 exact (o182 (d := (irD 2 0 0 0 0 0 0 0 0 reg phys 0 0)) [] (by kernel_rfl)).to (by simp [wk, wkL, wkO])
theorem l_two_ok (op w dst src : Int) : Ret Tryz.prog 148 ([.int .i8 op, .int .i8 w, .int .i8 dst, .int .i8 src]) ((irD 0 op w dst src 0 0 0 0 0 0 0 0)) := by
 exact (o148 (d := (irD 0 op w dst src 0 0 0 0 0 0 0 0)) [] (by kernel_rfl)).to (by simp [wk, wkL, wkO])
theorem l_one_ok (op w dst : Int) : Ret Tryz.prog 203 ([.int .i8 op, .int .i8 w, .int .i8 dst]) ((irD 0 op w dst 0 0 0 0 0 0 0 0 0)) := by
 have c0 := @l_two_ok op w dst 0
 exact (o203 (d := (irD 0 op w dst 0 0 0 0 0 0 0 0 0)) [.ret _ _ _ c0] (by kernel_rfl)).to (by simp [wk, wkL, wkO])
theorem l_num_ok (op w dst n : Int) : Ret Tryz.prog 147 ([.int .i8 op, .int .i8 w, .int .i8 dst, .int .i64 n]) ((irD 0 op w dst 0 0 0 n 0 0 0 0 0)) := by
 exact (o147 (d := (irD 0 op w dst 0 0 0 n 0 0 0 0 0)) [] (by kernel_rfl)).to (by simp [wk, wkL, wkO])
theorem l_steps_ok (l : List D) : Ret Tryz.prog 145 ([.lst .tight 13 l]) (.lst .tight 13 l) := by
 exact (o145 (d := .lst .tight 13 l) [] (by kernel_rfl)).to (by simp [wk, wkL, wkO])
theorem l_choose_ok (w dst : Int) : Ret Tryz.prog 212 ([.int .i8 w, .int .i8 dst]) (.lst .tight 13 [(irD 0 8 w 1 1 0 0 0 0 0 0 0 0), (irD 0 25 w dst 11 0 0 0 4 0 0 0 0)]) := by
 have c0 := @l_two_ok 25 w dst 11
 have c1 := @l_two_ok 8 w 1 1
 have c2 := @l_steps_ok ([(irD 0 8 w 1 1 0 0 0 0 0 0 0 0), (irD 0 25 w dst 11 0 0 0 4 0 0 0 0)])
 exact (o212 (d := .lst .tight 13 [(irD 0 8 w 1 1 0 0 0 0 0 0 0 0), (irD 0 25 w dst 11 0 0 0 4 0 0 0 0)]) [.ret _ _ _ c0, .ret _ _ _ c1, .ret _ _ _ c2] (by kernel_rfl)).to (by simp [wk, wkL, wkO])
theorem l_short32_ok (kind op size : Int) (byReg : Bool) (dst src off imm : Int) : Ret Tryz.prog 204 ([instD kind op 32 size byReg dst src off imm]) (.lst .tight 13 [(irD 0 0 32 0 0 0 0 0 0 0 0 0 0)]) := by
 have c0 := @l_two_ok 0 32 0 0
 have c1 := @l_steps_ok ([(irD 0 0 32 0 0 0 0 0 0 0 0 0 0)])
 exact (o204 (d := .lst .tight 13 [(irD 0 0 32 0 0 0 0 0 0 0 0 0 0)]) [tT, .ret _ _ _ c0, .ret _ _ _ c1] (by kernel_rfl)).to (by simp [wk, wkL, wkO])
theorem l_short64_ok (kind op size : Int) (byReg : Bool) (dst src off imm : Int) : Ret Tryz.prog 204 ([instD kind op 64 size byReg dst src off imm]) (.lst .tight 0 []) := by
 exact (o204 (d := .lst .tight 0 []) [tF] (by kernel_rfl)).to (by simp [wk, wkL, wkO])
end Go.Proofs.YtojgmjfcfpclbaaGreat

namespace Go.Proofs.YtojgmjfcfpclbaaGreat
open Go Go.Ev
set_option maxRecDepth 100000
set_option maxHeartbeats 8000000
def tab_StepsL_0 : List D := [.int .i8 2, .int .i8 9, .int .i8 5, .int .i8 12, .int .i8 0, .int .i8 0, .int .i8 0, .int .i8 0, .int .i8 3, .int .i8 10, .int .i8 4, .int .i8 11, .int .i8 20, .int .i8 17, .int .i8 21, .int .i8 18, .int .i8 0, .int .i8 0, .int .i8 0, .int .i8 0, .int .i8 6, .int .i8 13, .int .i8 0, .int .i8 0, .int .i8 22, .int .i8 19]
theorem does_0_0_32_ok (byReg : Bool) (dst src imm : Int) (hi1 : -2147483648 ≤ imm) (hi2 : imm ≤ 2147483647) : Ret Tryz.prog 87 ([instD 0 0 32 0 byReg dst src 0 imm]) (.lst .no 13 (stepsM 0 0 32 0 byReg dst src 0 imm)) := by
 let E1 : EL := [tT, .get ([D.fn (Fn.func 138) [] [], D.fn (Fn.func 139) [] [], D.fn (Fn.func 140) [] [], D.nilf, D.nilf, D.fn (Fn.func 141) [] [], D.fn (Fn.func 142) [] []]) 0 (D.fn (Fn.func 138) [] []) rfl, tT, .inl, tT, .get ([D.fn (Fn.func 175) [] [], D.fn (Fn.func 175) [] [], D.fn (Fn.func 176) [] [], D.fn (Fn.func 180) [] [], D.fn (Fn.func 175) [] [], D.fn (Fn.func 175) [] [], D.fn (Fn.func 179) [] [], D.fn (Fn.func 179) [] [], D.fn (Fn.func 177) [] [], D.fn (Fn.func 181) [] [], D.fn (Fn.func 175) [] [], D.fn (Fn.func 178) [] [], D.fn (Fn.func 179) [] []]) 0 (D.fn (Fn.func 175) [] []) rfl, .inl, .inl, tT]
 cases byReg
 ·have c0 := @l_take_ok 0 dst
  have c1 := @l_num_ok 9 32 0 imm
  have c2 := @l_give_ok dst 0
  have c3 := @l_steps_ok ([(irD 1 0 0 0 0 0 0 0 0 dst 0 0 0), (irD 0 9 32 0 0 0 0 imm 0 0 0 0 0), (irD 2 0 0 0 0 0 0 0 0 dst 0 0 0)])
  exact (o87 (d := .lst .tight 13 [(irD 1 0 0 0 0 0 0 0 0 dst 0 0 0), (irD 0 9 32 0 0 0 0 imm 0 0 0 0 0), (irD 2 0 0 0 0 0 0 0 0 dst 0 0 0)]) (E1 ++ [.get tab_StepsL_0 0 (.int .i8 2) rfl, tT, .get tab_StepsL_0 1 (.int .i8 9) rfl, tF, .ret _ _ _ c0, .ret _ _ _ c1, .ret _ _ _ c2, .ret _ _ _ c3]) (by kernel_rfl)).to (by clear E1; (try simp only [IntKind.bits, and31, and63, and32, wrap_mod32, wrap_mod64] at *); simp [wk, wkL, wkO, stepsM, aluM, regOp, immOp, zeroImm, takeD, giveD, two, num, cmov, irD, ]; try ((try simp only [w_u64, w_i64, and32, IntKind.bits, Int.mul_one] at *); omega))
 have c4 := @l_take_ok 0 dst
 have c5 := @l_take_ok 1 src
 have c6 := @l_two_ok 2 32 0 1
 have c7 := @l_give_ok dst 0
 have c8 := @l_steps_ok ([(irD 1 0 0 0 0 0 0 0 0 dst 0 0 0), (irD 1 0 0 0 0 0 0 0 0 src 1 0 0), (irD 0 2 32 0 1 0 0 0 0 0 0 0 0), (irD 2 0 0 0 0 0 0 0 0 dst 0 0 0)])
 exact (o87 (d := .lst .tight 13 [(irD 1 0 0 0 0 0 0 0 0 dst 0 0 0), (irD 1 0 0 0 0 0 0 0 0 src 1 0 0), (irD 0 2 32 0 1 0 0 0 0 0 0 0 0), (irD 2 0 0 0 0 0 0 0 0 dst 0 0 0)]) (E1 ++ [.get tab_StepsL_0 0 (.int .i8 2) rfl, tT, .get tab_StepsL_0 1 (.int .i8 9) rfl, tT, .ret _ _ _ c4, .ret _ _ _ c5, .ret _ _ _ c6, .ret _ _ _ c7, .ret _ _ _ c8]) (by kernel_rfl)).to (by clear E1; (try simp only [IntKind.bits, and31, and63, and32, wrap_mod32, wrap_mod64] at *); simp [wk, wkL, wkO, stepsM, aluM, regOp, immOp, zeroImm, takeD, giveD, two, num, cmov, irD, ]; try ((try simp only [w_u64, w_i64, and32, IntKind.bits, Int.mul_one] at *); omega))
theorem does_0_0_64_ok (byReg : Bool) (dst src imm : Int) (hi1 : -2147483648 ≤ imm) (hi2 : imm ≤ 2147483647) : Ret Tryz.prog 87 ([instD 0 0 64 0 byReg dst src 0 imm]) (.lst .no 13 (stepsM 0 0 64 0 byReg dst src 0 imm)) := by
 let E1 : EL := [tT, .get ([D.fn (Fn.func 138) [] [], D.fn (Fn.func 139) [] [], D.fn (Fn.func 140) [] [], D.nilf, D.nilf, D.fn (Fn.func 141) [] [], D.fn (Fn.func 142) [] []]) 0 (D.fn (Fn.func 138) [] []) rfl, tT, .inl, tT, .get ([D.fn (Fn.func 175) [] [], D.fn (Fn.func 175) [] [], D.fn (Fn.func 176) [] [], D.fn (Fn.func 180) [] [], D.fn (Fn.func 175) [] [], D.fn (Fn.func 175) [] [], D.fn (Fn.func 179) [] [], D.fn (Fn.func 179) [] [], D.fn (Fn.func 177) [] [], D.fn (Fn.func 181) [] [], D.fn (Fn.func 175) [] [], D.fn (Fn.func 178) [] [], D.fn (Fn.func 179) [] []]) 0 (D.fn (Fn.func 175) [] []) rfl, .inl, .inl, tT]
 cases byReg
 ·have c0 := @l_take_ok 0 dst
  have c1 := @l_num_ok 9 64 0 imm
  have c2 := @l_give_ok dst 0
  have c3 := @l_steps_ok ([(irD 1 0 0 0 0 0 0 0 0 dst 0 0 0), (irD 0 9 64 0 0 0 0 imm 0 0 0 0 0), (irD 2 0 0 0 0 0 0 0 0 dst 0 0 0)])
  exact (o87 (d := .lst .tight 13 [(irD 1 0 0 0 0 0 0 0 0 dst 0 0 0), (irD 0 9 64 0 0 0 0 imm 0 0 0 0 0), (irD 2 0 0 0 0 0 0 0 0 dst 0 0 0)]) (E1 ++ [.get tab_StepsL_0 0 (.int .i8 2) rfl, tT, .get tab_StepsL_0 1 (.int .i8 9) rfl, tF, .ret _ _ _ c0, .ret _ _ _ c1, .ret _ _ _ c2, .ret _ _ _ c3]) (by kernel_rfl)).to (by clear E1; (try simp only [IntKind.bits, and31, and63, and32, wrap_mod32, wrap_mod64] at *); simp [wk, wkL, wkO, stepsM, aluM, regOp, immOp, zeroImm, takeD, giveD, two, num, cmov, irD, ]; try ((try simp only [w_u64, w_i64, and32, IntKind.bits, Int.mul_one] at *); omega))
 have c4 := @l_take_ok 0 dst
 have c5 := @l_take_ok 1 src
 have c6 := @l_two_ok 2 64 0 1
 have c7 := @l_give_ok dst 0
 have c8 := @l_steps_ok ([(irD 1 0 0 0 0 0 0 0 0 dst 0 0 0), (irD 1 0 0 0 0 0 0 0 0 src 1 0 0), (irD 0 2 64 0 1 0 0 0 0 0 0 0 0), (irD 2 0 0 0 0 0 0 0 0 dst 0 0 0)])
 exact (o87 (d := .lst .tight 13 [(irD 1 0 0 0 0 0 0 0 0 dst 0 0 0), (irD 1 0 0 0 0 0 0 0 0 src 1 0 0), (irD 0 2 64 0 1 0 0 0 0 0 0 0 0), (irD 2 0 0 0 0 0 0 0 0 dst 0 0 0)]) (E1 ++ [.get tab_StepsL_0 0 (.int .i8 2) rfl, tT, .get tab_StepsL_0 1 (.int .i8 9) rfl, tT, .ret _ _ _ c4, .ret _ _ _ c5, .ret _ _ _ c6, .ret _ _ _ c7, .ret _ _ _ c8]) (by kernel_rfl)).to (by clear E1; (try simp only [IntKind.bits, and31, and63, and32, wrap_mod32, wrap_mod64] at *); simp [wk, wkL, wkO, stepsM, aluM, regOp, immOp, zeroImm, takeD, giveD, two, num, cmov, irD, ]; try ((try simp only [w_u64, w_i64, and32, IntKind.bits, Int.mul_one] at *); omega))
theorem does_0_1_32_ok (byReg : Bool) (dst src imm : Int) (hi1 : -2147483648 ≤ imm) (hi2 : imm ≤ 2147483647) : Ret Tryz.prog 87 ([instD 0 1 32 0 byReg dst src 0 imm]) (.lst .no 13 (stepsM 0 1 32 0 byReg dst src 0 imm)) := by
 let E1 : EL := [tT, .get ([D.fn (Fn.func 138) [] [], D.fn (Fn.func 139) [] [], D.fn (Fn.func 140) [] [], D.nilf, D.nilf, D.fn (Fn.func 141) [] [], D.fn (Fn.func 142) [] []]) 0 (D.fn (Fn.func 138) [] []) rfl, tT, .inl, tT, .get ([D.fn (Fn.func 175) [] [], D.fn (Fn.func 175) [] [], D.fn (Fn.func 176) [] [], D.fn (Fn.func 180) [] [], D.fn (Fn.func 175) [] [], D.fn (Fn.func 175) [] [], D.fn (Fn.func 179) [] [], D.fn (Fn.func 179) [] [], D.fn (Fn.func 177) [] [], D.fn (Fn.func 181) [] [], D.fn (Fn.func 175) [] [], D.fn (Fn.func 178) [] [], D.fn (Fn.func 179) [] []]) 1 (D.fn (Fn.func 175) [] []) rfl, .inl, .inl, tT]
 cases byReg
 ·have c0 := @l_take_ok 0 dst
  have c1 := @l_num_ok 12 32 0 imm
  have c2 := @l_give_ok dst 0
  have c3 := @l_steps_ok ([(irD 1 0 0 0 0 0 0 0 0 dst 0 0 0), (irD 0 12 32 0 0 0 0 imm 0 0 0 0 0), (irD 2 0 0 0 0 0 0 0 0 dst 0 0 0)])
  exact (o87 (d := .lst .tight 13 [(irD 1 0 0 0 0 0 0 0 0 dst 0 0 0), (irD 0 12 32 0 0 0 0 imm 0 0 0 0 0), (irD 2 0 0 0 0 0 0 0 0 dst 0 0 0)]) (E1 ++ [.get tab_StepsL_0 2 (.int .i8 5) rfl, tT, .get tab_StepsL_0 3 (.int .i8 12) rfl, tF, .ret _ _ _ c0, .ret _ _ _ c1, .ret _ _ _ c2, .ret _ _ _ c3]) (by kernel_rfl)).to (by clear E1; (try simp only [IntKind.bits, and31, and63, and32, wrap_mod32, wrap_mod64] at *); simp [wk, wkL, wkO, stepsM, aluM, regOp, immOp, zeroImm, takeD, giveD, two, num, cmov, irD, ]; try ((try simp only [w_u64, w_i64, and32, IntKind.bits, Int.mul_one] at *); omega))
 have c4 := @l_take_ok 0 dst
 have c5 := @l_take_ok 1 src
 have c6 := @l_two_ok 5 32 0 1
 have c7 := @l_give_ok dst 0
 have c8 := @l_steps_ok ([(irD 1 0 0 0 0 0 0 0 0 dst 0 0 0), (irD 1 0 0 0 0 0 0 0 0 src 1 0 0), (irD 0 5 32 0 1 0 0 0 0 0 0 0 0), (irD 2 0 0 0 0 0 0 0 0 dst 0 0 0)])
 exact (o87 (d := .lst .tight 13 [(irD 1 0 0 0 0 0 0 0 0 dst 0 0 0), (irD 1 0 0 0 0 0 0 0 0 src 1 0 0), (irD 0 5 32 0 1 0 0 0 0 0 0 0 0), (irD 2 0 0 0 0 0 0 0 0 dst 0 0 0)]) (E1 ++ [.get tab_StepsL_0 2 (.int .i8 5) rfl, tT, .get tab_StepsL_0 3 (.int .i8 12) rfl, tT, .ret _ _ _ c4, .ret _ _ _ c5, .ret _ _ _ c6, .ret _ _ _ c7, .ret _ _ _ c8]) (by kernel_rfl)).to (by clear E1; (try simp only [IntKind.bits, and31, and63, and32, wrap_mod32, wrap_mod64] at *); simp [wk, wkL, wkO, stepsM, aluM, regOp, immOp, zeroImm, takeD, giveD, two, num, cmov, irD, ]; try ((try simp only [w_u64, w_i64, and32, IntKind.bits, Int.mul_one] at *); omega))
theorem does_0_1_64_ok (byReg : Bool) (dst src imm : Int) (hi1 : -2147483648 ≤ imm) (hi2 : imm ≤ 2147483647) : Ret Tryz.prog 87 ([instD 0 1 64 0 byReg dst src 0 imm]) (.lst .no 13 (stepsM 0 1 64 0 byReg dst src 0 imm)) := by
 let E1 : EL := [tT, .get ([D.fn (Fn.func 138) [] [], D.fn (Fn.func 139) [] [], D.fn (Fn.func 140) [] [], D.nilf, D.nilf, D.fn (Fn.func 141) [] [], D.fn (Fn.func 142) [] []]) 0 (D.fn (Fn.func 138) [] []) rfl, tT, .inl, tT, .get ([D.fn (Fn.func 175) [] [], D.fn (Fn.func 175) [] [], D.fn (Fn.func 176) [] [], D.fn (Fn.func 180) [] [], D.fn (Fn.func 175) [] [], D.fn (Fn.func 175) [] [], D.fn (Fn.func 179) [] [], D.fn (Fn.func 179) [] [], D.fn (Fn.func 177) [] [], D.fn (Fn.func 181) [] [], D.fn (Fn.func 175) [] [], D.fn (Fn.func 178) [] [], D.fn (Fn.func 179) [] []]) 1 (D.fn (Fn.func 175) [] []) rfl, .inl, .inl, tT]
 cases byReg
 ·have c0 := @l_take_ok 0 dst
  have c1 := @l_num_ok 12 64 0 imm
  have c2 := @l_give_ok dst 0
  have c3 := @l_steps_ok ([(irD 1 0 0 0 0 0 0 0 0 dst 0 0 0), (irD 0 12 64 0 0 0 0 imm 0 0 0 0 0), (irD 2 0 0 0 0 0 0 0 0 dst 0 0 0)])
  exact (o87 (d := .lst .tight 13 [(irD 1 0 0 0 0 0 0 0 0 dst 0 0 0), (irD 0 12 64 0 0 0 0 imm 0 0 0 0 0), (irD 2 0 0 0 0 0 0 0 0 dst 0 0 0)]) (E1 ++ [.get tab_StepsL_0 2 (.int .i8 5) rfl, tT, .get tab_StepsL_0 3 (.int .i8 12) rfl, tF, .ret _ _ _ c0, .ret _ _ _ c1, .ret _ _ _ c2, .ret _ _ _ c3]) (by kernel_rfl)).to (by clear E1; (try simp only [IntKind.bits, and31, and63, and32, wrap_mod32, wrap_mod64] at *); simp [wk, wkL, wkO, stepsM, aluM, regOp, immOp, zeroImm, takeD, giveD, two, num, cmov, irD, ]; try ((try simp only [w_u64, w_i64, and32, IntKind.bits, Int.mul_one] at *); omega))
 have c4 := @l_take_ok 0 dst
 have c5 := @l_take_ok 1 src
 have c6 := @l_two_ok 5 64 0 1
 have c7 := @l_give_ok dst 0
 have c8 := @l_steps_ok ([(irD 1 0 0 0 0 0 0 0 0 dst 0 0 0), (irD 1 0 0 0 0 0 0 0 0 src 1 0 0), (irD 0 5 64 0 1 0 0 0 0 0 0 0 0), (irD 2 0 0 0 0 0 0 0 0 dst 0 0 0)])
 exact (o87 (d := .lst .tight 13 [(irD 1 0 0 0 0 0 0 0 0 dst 0 0 0), (irD 1 0 0 0 0 0 0 0 0 src 1 0 0), (irD 0 5 64 0 1 0 0 0 0 0 0 0 0), (irD 2 0 0 0 0 0 0 0 0 dst 0 0 0)]) (E1 ++ [.get tab_StepsL_0 2 (.int .i8 5) rfl, tT, .get tab_StepsL_0 3 (.int .i8 12) rfl, tT, .ret _ _ _ c4, .ret _ _ _ c5, .ret _ _ _ c6, .ret _ _ _ c7, .ret _ _ _ c8]) (by kernel_rfl)).to (by clear E1; (try simp only [IntKind.bits, and31, and63, and32, wrap_mod32, wrap_mod64] at *); simp [wk, wkL, wkO, stepsM, aluM, regOp, immOp, zeroImm, takeD, giveD, two, num, cmov, irD, ]; try ((try simp only [w_u64, w_i64, and32, IntKind.bits, Int.mul_one] at *); omega))
theorem does_0_2_32_ok (byReg : Bool) (dst src imm : Int) (hi1 : -2147483648 ≤ imm) (hi2 : imm ≤ 2147483647) : Ret Tryz.prog 87 ([instD 0 2 32 0 byReg dst src 0 imm]) (.lst .no 13 (stepsM 0 2 32 0 byReg dst src 0 imm)) := by
 have c0 := @l_num_ok 1 32 1 imm
 let E1 : EL := [tT, .get ([D.fn (Fn.func 138) [] [], D.fn (Fn.func 139) [] [], D.fn (Fn.func 140) [] [], D.nilf, D.nilf, D.fn (Fn.func 141) [] [], D.fn (Fn.func 142) [] []]) 0 (D.fn (Fn.func 138) [] []) rfl, tT, .inl, tT, .get ([D.fn (Fn.func 175) [] [], D.fn (Fn.func 175) [] [], D.fn (Fn.func 176) [] [], D.fn (Fn.func 180) [] [], D.fn (Fn.func 175) [] [], D.fn (Fn.func 175) [] [], D.fn (Fn.func 179) [] [], D.fn (Fn.func 179) [] [], D.fn (Fn.func 177) [] [], D.fn (Fn.func 181) [] [], D.fn (Fn.func 175) [] [], D.fn (Fn.func 178) [] [], D.fn (Fn.func 179) [] []]) 2 (D.fn (Fn.func 176) [] []) rfl, .inl, .ret _ _ _ c0]
 cases byReg
 ·have c1 := @l_take_ok 0 dst
  have c2 := @l_two_ok 16 32 0 1
  have c3 := @l_give_ok dst 0
  have c4 := @l_steps_ok ([(irD 1 0 0 0 0 0 0 0 0 dst 0 0 0), (irD 0 1 32 1 0 0 0 imm 0 0 0 0 0), (irD 0 16 32 0 1 0 0 0 0 0 0 0 0), (irD 2 0 0 0 0 0 0 0 0 dst 0 0 0)])
  exact (o87 (d := .lst .tight 13 [(irD 1 0 0 0 0 0 0 0 0 dst 0 0 0), (irD 0 1 32 1 0 0 0 imm 0 0 0 0 0), (irD 0 16 32 0 1 0 0 0 0 0 0 0 0), (irD 2 0 0 0 0 0 0 0 0 dst 0 0 0)]) (E1 ++ [tF, .ret _ _ _ c1, .ret _ _ _ c2, .ret _ _ _ c3, .ret _ _ _ c4]) (by kernel_rfl)).to (by clear E1; (try simp only [IntKind.bits, and31, and63, and32, wrap_mod32, wrap_mod64] at *); simp [wk, wkL, wkO, stepsM, aluM, regOp, immOp, zeroImm, takeD, giveD, two, num, cmov, irD, ]; try ((try simp only [w_u64, w_i64, and32, IntKind.bits, Int.mul_one] at *); omega))
 have c5 := @l_take_ok 1 src
 have c6 := @l_take_ok 0 dst
 have c7 := @l_two_ok 16 32 0 1
 have c8 := @l_give_ok dst 0
 have c9 := @l_steps_ok ([(irD 1 0 0 0 0 0 0 0 0 dst 0 0 0), (irD 1 0 0 0 0 0 0 0 0 src 1 0 0), (irD 0 16 32 0 1 0 0 0 0 0 0 0 0), (irD 2 0 0 0 0 0 0 0 0 dst 0 0 0)])
 exact (o87 (d := .lst .tight 13 [(irD 1 0 0 0 0 0 0 0 0 dst 0 0 0), (irD 1 0 0 0 0 0 0 0 0 src 1 0 0), (irD 0 16 32 0 1 0 0 0 0 0 0 0 0), (irD 2 0 0 0 0 0 0 0 0 dst 0 0 0)]) (E1 ++ [tT, .ret _ _ _ c5, .ret _ _ _ c6, .ret _ _ _ c7, .ret _ _ _ c8, .ret _ _ _ c9]) (by kernel_rfl)).to (by clear E1; (try simp only [IntKind.bits, and31, and63, and32, wrap_mod32, wrap_mod64] at *); simp [wk, wkL, wkO, stepsM, aluM, regOp, immOp, zeroImm, takeD, giveD, two, num, cmov, irD, ]; try ((try simp only [w_u64, w_i64, and32, IntKind.bits, Int.mul_one] at *); omega))
theorem does_0_2_64_ok (byReg : Bool) (dst src imm : Int) (hi1 : -2147483648 ≤ imm) (hi2 : imm ≤ 2147483647) : Ret Tryz.prog 87 ([instD 0 2 64 0 byReg dst src 0 imm]) (.lst .no 13 (stepsM 0 2 64 0 byReg dst src 0 imm)) := by
 have c0 := @l_num_ok 1 64 1 imm
 let E1 : EL := [tT, .get ([D.fn (Fn.func 138) [] [], D.fn (Fn.func 139) [] [], D.fn (Fn.func 140) [] [], D.nilf, D.nilf, D.fn (Fn.func 141) [] [], D.fn (Fn.func 142) [] []]) 0 (D.fn (Fn.func 138) [] []) rfl, tT, .inl, tT, .get ([D.fn (Fn.func 175) [] [], D.fn (Fn.func 175) [] [], D.fn (Fn.func 176) [] [], D.fn (Fn.func 180) [] [], D.fn (Fn.func 175) [] [], D.fn (Fn.func 175) [] [], D.fn (Fn.func 179) [] [], D.fn (Fn.func 179) [] [], D.fn (Fn.func 177) [] [], D.fn (Fn.func 181) [] [], D.fn (Fn.func 175) [] [], D.fn (Fn.func 178) [] [], D.fn (Fn.func 179) [] []]) 2 (D.fn (Fn.func 176) [] []) rfl, .inl, .ret _ _ _ c0]
 cases byReg
 ·have c1 := @l_take_ok 0 dst
  have c2 := @l_two_ok 16 64 0 1
  have c3 := @l_give_ok dst 0
  have c4 := @l_steps_ok ([(irD 1 0 0 0 0 0 0 0 0 dst 0 0 0), (irD 0 1 64 1 0 0 0 imm 0 0 0 0 0), (irD 0 16 64 0 1 0 0 0 0 0 0 0 0), (irD 2 0 0 0 0 0 0 0 0 dst 0 0 0)])
  exact (o87 (d := .lst .tight 13 [(irD 1 0 0 0 0 0 0 0 0 dst 0 0 0), (irD 0 1 64 1 0 0 0 imm 0 0 0 0 0), (irD 0 16 64 0 1 0 0 0 0 0 0 0 0), (irD 2 0 0 0 0 0 0 0 0 dst 0 0 0)]) (E1 ++ [tF, .ret _ _ _ c1, .ret _ _ _ c2, .ret _ _ _ c3, .ret _ _ _ c4]) (by kernel_rfl)).to (by clear E1; (try simp only [IntKind.bits, and31, and63, and32, wrap_mod32, wrap_mod64] at *); simp [wk, wkL, wkO, stepsM, aluM, regOp, immOp, zeroImm, takeD, giveD, two, num, cmov, irD, ]; try ((try simp only [w_u64, w_i64, and32, IntKind.bits, Int.mul_one] at *); omega))
 have c5 := @l_take_ok 1 src
 have c6 := @l_take_ok 0 dst
 have c7 := @l_two_ok 16 64 0 1
 have c8 := @l_give_ok dst 0
 have c9 := @l_steps_ok ([(irD 1 0 0 0 0 0 0 0 0 dst 0 0 0), (irD 1 0 0 0 0 0 0 0 0 src 1 0 0), (irD 0 16 64 0 1 0 0 0 0 0 0 0 0), (irD 2 0 0 0 0 0 0 0 0 dst 0 0 0)])
 exact (o87 (d := .lst .tight 13 [(irD 1 0 0 0 0 0 0 0 0 dst 0 0 0), (irD 1 0 0 0 0 0 0 0 0 src 1 0 0), (irD 0 16 64 0 1 0 0 0 0 0 0 0 0), (irD 2 0 0 0 0 0 0 0 0 dst 0 0 0)]) (E1 ++ [tT, .ret _ _ _ c5, .ret _ _ _ c6, .ret _ _ _ c7, .ret _ _ _ c8, .ret _ _ _ c9]) (by kernel_rfl)).to (by clear E1; (try simp only [IntKind.bits, and31, and63, and32, wrap_mod32, wrap_mod64] at *); simp [wk, wkL, wkO, stepsM, aluM, regOp, immOp, zeroImm, takeD, giveD, two, num, cmov, irD, ]; try ((try simp only [w_u64, w_i64, and32, IntKind.bits, Int.mul_one] at *); omega))
theorem does_0_3_32_ok (byReg : Bool) (dst src imm : Int) (hi1 : -2147483648 ≤ imm) (hi2 : imm ≤ 2147483647) : Ret Tryz.prog 87 ([instD 0 3 32 0 byReg dst src 0 imm]) (.lst .no 13 (stepsM 0 3 32 0 byReg dst src 0 imm)) := by
 let E1 : EL := [tT, .get ([D.fn (Fn.func 138) [] [], D.fn (Fn.func 139) [] [], D.fn (Fn.func 140) [] [], D.nilf, D.nilf, D.fn (Fn.func 141) [] [], D.fn (Fn.func 142) [] []]) 0 (D.fn (Fn.func 138) [] []) rfl, tT, .inl, tT, .get ([D.fn (Fn.func 175) [] [], D.fn (Fn.func 175) [] [], D.fn (Fn.func 176) [] [], D.fn (Fn.func 180) [] [], D.fn (Fn.func 175) [] [], D.fn (Fn.func 175) [] [], D.fn (Fn.func 179) [] [], D.fn (Fn.func 179) [] [], D.fn (Fn.func 177) [] [], D.fn (Fn.func 181) [] [], D.fn (Fn.func 175) [] [], D.fn (Fn.func 178) [] [], D.fn (Fn.func 179) [] []]) 3 (D.fn (Fn.func 180) [] []) rfl, .inl, .inl]
 cases byReg
 ·by_cases h0 : IntKind.wrap IntKind.u64 (IntKind.wrap IntKind.u64 imm * 4294967296) = 0
  ·have c1 := @l_num_ok 1 32 0 0
   have c2 := @l_give_ok dst 0
   have c3 := @l_steps_ok ([(irD 0 1 32 0 0 0 0 0 0 0 0 0 0), (irD 2 0 0 0 0 0 0 0 0 dst 0 0 0)])
   exact (o87 (d := .lst .tight 13 [(irD 0 1 32 0 0 0 0 0 0 0 0 0 0), (irD 2 0 0 0 0 0 0 0 0 dst 0 0 0)]) (E1 ++ List.replicate 11 tT ++ [tC (eqI 0 true h0), .ret _ _ _ c1, .ret _ _ _ c2, .ret _ _ _ c3]) (by kernel_rfl)).to (by clear E1; (try simp only [IntKind.bits, and31, and63, and32, wrap_mod32, wrap_mod64] at *); simp [wk, wkL, wkO, stepsM, aluM, regOp, immOp, zeroImm, takeD, giveD, two, num, cmov, irD, h0]; try ((try simp only [w_u64, w_i64, and32, IntKind.bits, Int.mul_one] at *); omega))
  have c4 := @l_num_ok 1 32 11 0
  have c5 := @l_give_ok dst 0
  have c6 := @l_take_ok 0 dst
  have c7 := @l_steps_ok ([(irD 1 0 0 0 0 0 0 0 0 dst 0 0 0)])
  have c8 := @l_num_ok 1 32 1 imm
  have c9 := @l_num_ok 1 32 2 0
  have c10 := @l_one_ok 24 32 1
  exact (o87 (d := .lst (.fresh 13) 13 [(irD 1 0 0 0 0 0 0 0 0 dst 0 0 0), (irD 0 1 32 1 0 0 0 imm 0 0 0 0 0), (irD 0 1 32 2 0 0 0 0 0 0 0 0 0), (irD 0 24 32 1 0 0 0 0 0 0 0 0 0), (irD 2 0 0 0 0 0 0 0 0 dst 0 0 0)]) (E1 ++ List.replicate 11 tT ++ [tC (neOf h0), .ret _ _ _ c4, .inl, .ret _ _ _ c5, .ret _ _ _ c6, .ret _ _ _ c7, tT, .ret _ _ _ c8, .ret _ _ _ c9, .ret _ _ _ c10, .len 5 2147483648 (by decide)]) (by kernel_rfl)).to (by clear E1; (try simp only [IntKind.bits, and31, and63, and32, wrap_mod32, wrap_mod64] at *); simp [wk, wkL, wkO, stepsM, aluM, regOp, immOp, zeroImm, takeD, giveD, two, num, cmov, irD, h0]; try ((try simp only [w_u64, w_i64, and32, IntKind.bits, Int.mul_one] at *); omega))
 have c11 := @l_num_ok 1 32 11 0
 have c12 := @l_give_ok dst 0
 have c13 := @l_take_ok 0 dst
 have c14 := @l_steps_ok ([(irD 1 0 0 0 0 0 0 0 0 dst 0 0 0)])
 have c15 := @l_take_ok 1 src
 have c16 := @l_num_ok 1 32 2 0
 have c17 := @l_num_ok 1 32 11 1
 have c18 := @l_choose_ok 32 1
 have c19 := @l_one_ok 24 32 1
 have c20 := @l_take_ok 1 src
 have c21 := @l_choose_ok 32 0
 exact (o87 (d := .lst (.fresh 13) 13 [(irD 1 0 0 0 0 0 0 0 0 dst 0 0 0), (irD 1 0 0 0 0 0 0 0 0 src 1 0 0), (irD 0 1 32 2 0 0 0 0 0 0 0 0 0), (irD 0 1 32 11 0 0 0 1 0 0 0 0 0), (irD 0 8 32 1 1 0 0 0 0 0 0 0 0), (irD 0 25 32 1 11 0 0 0 4 0 0 0 0), (irD 0 24 32 1 0 0 0 0 0 0 0 0 0), (irD 1 0 0 0 0 0 0 0 0 src 1 0 0), (irD 0 1 32 11 0 0 0 0 0 0 0 0 0), (irD 0 8 32 1 1 0 0 0 0 0 0 0 0), (irD 0 25 32 0 11 0 0 0 4 0 0 0 0), (irD 2 0 0 0 0 0 0 0 0 dst 0 0 0)]) (E1 ++ List.replicate 11 tF ++ [.ret _ _ _ c11, .inl, .ret _ _ _ c12, .ret _ _ _ c13, .ret _ _ _ c14, tF, .ret _ _ _ c15, .ret _ _ _ c16, .ret _ _ _ c17, .len 4 2147483648 (by decide), .ret _ _ _ c18, .len 6 2147483648 (by decide), .ret _ _ _ c19, .ret _ _ _ c20, .len 9 2147483648 (by decide), .ret _ _ _ c21, .len 11 2147483648 (by decide), .len 12 2147483648 (by decide)]) (by kernel_rfl)).to (by clear E1; (try simp only [IntKind.bits, and31, and63, and32, wrap_mod32, wrap_mod64] at *); simp [wk, wkL, wkO, stepsM, aluM, regOp, immOp, zeroImm, takeD, giveD, two, num, cmov, irD, ]; try ((try simp only [w_u64, w_i64, and32, IntKind.bits, Int.mul_one] at *); omega))
theorem does_0_3_64_ok (byReg : Bool) (dst src imm : Int) (hi1 : -2147483648 ≤ imm) (hi2 : imm ≤ 2147483647) : Ret Tryz.prog 87 ([instD 0 3 64 0 byReg dst src 0 imm]) (.lst .no 13 (stepsM 0 3 64 0 byReg dst src 0 imm)) := by
 let E1 : EL := [tT, .get ([D.fn (Fn.func 138) [] [], D.fn (Fn.func 139) [] [], D.fn (Fn.func 140) [] [], D.nilf, D.nilf, D.fn (Fn.func 141) [] [], D.fn (Fn.func 142) [] []]) 0 (D.fn (Fn.func 138) [] []) rfl, tT, .inl, tT, .get ([D.fn (Fn.func 175) [] [], D.fn (Fn.func 175) [] [], D.fn (Fn.func 176) [] [], D.fn (Fn.func 180) [] [], D.fn (Fn.func 175) [] [], D.fn (Fn.func 175) [] [], D.fn (Fn.func 179) [] [], D.fn (Fn.func 179) [] [], D.fn (Fn.func 177) [] [], D.fn (Fn.func 181) [] [], D.fn (Fn.func 175) [] [], D.fn (Fn.func 178) [] [], D.fn (Fn.func 179) [] []]) 3 (D.fn (Fn.func 180) [] []) rfl, .inl, .inl]
 cases byReg
 ·by_cases h0 : IntKind.wrap IntKind.u64 (IntKind.wrap IntKind.u64 imm * 1) = 0
  ·have c1 := @l_num_ok 1 64 0 0
   have c2 := @l_give_ok dst 0
   have c3 := @l_steps_ok ([(irD 0 1 64 0 0 0 0 0 0 0 0 0 0), (irD 2 0 0 0 0 0 0 0 0 dst 0 0 0)])
   exact (o87 (d := .lst .tight 13 [(irD 0 1 64 0 0 0 0 0 0 0 0 0 0), (irD 2 0 0 0 0 0 0 0 0 dst 0 0 0)]) (E1 ++ List.replicate 11 tT ++ [tC (eqI 0 true h0), .ret _ _ _ c1, .ret _ _ _ c2, .ret _ _ _ c3]) (by kernel_rfl)).to (by clear E1; (try simp only [IntKind.bits, and31, and63, and32, wrap_mod32, wrap_mod64] at *); simp [wk, wkL, wkO, stepsM, aluM, regOp, immOp, zeroImm, takeD, giveD, two, num, cmov, irD, h0]; try ((try simp only [w_u64, w_i64, and32, IntKind.bits, Int.mul_one] at *); omega))
  have c4 := @l_num_ok 1 32 11 0
  have c5 := @l_give_ok dst 0
  have c6 := @l_take_ok 0 dst
  have c7 := @l_steps_ok ([(irD 1 0 0 0 0 0 0 0 0 dst 0 0 0)])
  have c8 := @l_num_ok 1 64 1 imm
  have c9 := @l_num_ok 1 32 2 0
  have c10 := @l_one_ok 24 64 1
  exact (o87 (d := .lst (.fresh 13) 13 [(irD 1 0 0 0 0 0 0 0 0 dst 0 0 0), (irD 0 1 64 1 0 0 0 imm 0 0 0 0 0), (irD 0 1 32 2 0 0 0 0 0 0 0 0 0), (irD 0 24 64 1 0 0 0 0 0 0 0 0 0), (irD 2 0 0 0 0 0 0 0 0 dst 0 0 0)]) (E1 ++ List.replicate 11 tT ++ [tC (neOf h0), .ret _ _ _ c4, .inl, .ret _ _ _ c5, .ret _ _ _ c6, .ret _ _ _ c7, tT, .ret _ _ _ c8, .ret _ _ _ c9, .ret _ _ _ c10, .len 5 2147483648 (by decide)]) (by kernel_rfl)).to (by clear E1; (try simp only [IntKind.bits, and31, and63, and32, wrap_mod32, wrap_mod64] at *); simp [wk, wkL, wkO, stepsM, aluM, regOp, immOp, zeroImm, takeD, giveD, two, num, cmov, irD, h0]; try ((try simp only [w_u64, w_i64, and32, IntKind.bits, Int.mul_one] at *); omega))
 have c11 := @l_num_ok 1 32 11 0
 have c12 := @l_give_ok dst 0
 have c13 := @l_take_ok 0 dst
 have c14 := @l_steps_ok ([(irD 1 0 0 0 0 0 0 0 0 dst 0 0 0)])
 have c15 := @l_take_ok 1 src
 have c16 := @l_num_ok 1 32 2 0
 have c17 := @l_num_ok 1 32 11 1
 have c18 := @l_choose_ok 64 1
 have c19 := @l_one_ok 24 64 1
 have c20 := @l_take_ok 1 src
 have c21 := @l_choose_ok 64 0
 exact (o87 (d := .lst (.fresh 13) 13 [(irD 1 0 0 0 0 0 0 0 0 dst 0 0 0), (irD 1 0 0 0 0 0 0 0 0 src 1 0 0), (irD 0 1 32 2 0 0 0 0 0 0 0 0 0), (irD 0 1 32 11 0 0 0 1 0 0 0 0 0), (irD 0 8 64 1 1 0 0 0 0 0 0 0 0), (irD 0 25 64 1 11 0 0 0 4 0 0 0 0), (irD 0 24 64 1 0 0 0 0 0 0 0 0 0), (irD 1 0 0 0 0 0 0 0 0 src 1 0 0), (irD 0 1 32 11 0 0 0 0 0 0 0 0 0), (irD 0 8 64 1 1 0 0 0 0 0 0 0 0), (irD 0 25 64 0 11 0 0 0 4 0 0 0 0), (irD 2 0 0 0 0 0 0 0 0 dst 0 0 0)]) (E1 ++ List.replicate 11 tF ++ [.ret _ _ _ c11, .inl, .ret _ _ _ c12, .ret _ _ _ c13, .ret _ _ _ c14, tF, .ret _ _ _ c15, .ret _ _ _ c16, .ret _ _ _ c17, .len 4 2147483648 (by decide), .ret _ _ _ c18, .len 6 2147483648 (by decide), .ret _ _ _ c19, .ret _ _ _ c20, .len 9 2147483648 (by decide), .ret _ _ _ c21, .len 11 2147483648 (by decide), .len 12 2147483648 (by decide)]) (by kernel_rfl)).to (by clear E1; (try simp only [IntKind.bits, and31, and63, and32, wrap_mod32, wrap_mod64] at *); simp [wk, wkL, wkO, stepsM, aluM, regOp, immOp, zeroImm, takeD, giveD, two, num, cmov, irD, ]; try ((try simp only [w_u64, w_i64, and32, IntKind.bits, Int.mul_one] at *); omega))
theorem does_0_4_32_ok (byReg : Bool) (dst src imm : Int) (hi1 : -2147483648 ≤ imm) (hi2 : imm ≤ 2147483647) : Ret Tryz.prog 87 ([instD 0 4 32 0 byReg dst src 0 imm]) (.lst .no 13 (stepsM 0 4 32 0 byReg dst src 0 imm)) := by
 let E1 : EL := [tT, .get ([D.fn (Fn.func 138) [] [], D.fn (Fn.func 139) [] [], D.fn (Fn.func 140) [] [], D.nilf, D.nilf, D.fn (Fn.func 141) [] [], D.fn (Fn.func 142) [] []]) 0 (D.fn (Fn.func 138) [] []) rfl, tT, .inl, tT, .get ([D.fn (Fn.func 175) [] [], D.fn (Fn.func 175) [] [], D.fn (Fn.func 176) [] [], D.fn (Fn.func 180) [] [], D.fn (Fn.func 175) [] [], D.fn (Fn.func 175) [] [], D.fn (Fn.func 179) [] [], D.fn (Fn.func 179) [] [], D.fn (Fn.func 177) [] [], D.fn (Fn.func 181) [] [], D.fn (Fn.func 175) [] [], D.fn (Fn.func 178) [] [], D.fn (Fn.func 179) [] []]) 4 (D.fn (Fn.func 175) [] []) rfl, .inl, .inl, tT]
 cases byReg
 ·have c0 := @l_take_ok 0 dst
  have c1 := @l_num_ok 10 32 0 imm
  have c2 := @l_give_ok dst 0
  have c3 := @l_steps_ok ([(irD 1 0 0 0 0 0 0 0 0 dst 0 0 0), (irD 0 10 32 0 0 0 0 imm 0 0 0 0 0), (irD 2 0 0 0 0 0 0 0 0 dst 0 0 0)])
  exact (o87 (d := .lst .tight 13 [(irD 1 0 0 0 0 0 0 0 0 dst 0 0 0), (irD 0 10 32 0 0 0 0 imm 0 0 0 0 0), (irD 2 0 0 0 0 0 0 0 0 dst 0 0 0)]) (E1 ++ [.get tab_StepsL_0 8 (.int .i8 3) rfl, tT, .get tab_StepsL_0 9 (.int .i8 10) rfl, tF, .ret _ _ _ c0, .ret _ _ _ c1, .ret _ _ _ c2, .ret _ _ _ c3]) (by kernel_rfl)).to (by clear E1; (try simp only [IntKind.bits, and31, and63, and32, wrap_mod32, wrap_mod64] at *); simp [wk, wkL, wkO, stepsM, aluM, regOp, immOp, zeroImm, takeD, giveD, two, num, cmov, irD, ]; try ((try simp only [w_u64, w_i64, and32, IntKind.bits, Int.mul_one] at *); omega))
 have c4 := @l_take_ok 0 dst
 have c5 := @l_take_ok 1 src
 have c6 := @l_two_ok 3 32 0 1
 have c7 := @l_give_ok dst 0
 have c8 := @l_steps_ok ([(irD 1 0 0 0 0 0 0 0 0 dst 0 0 0), (irD 1 0 0 0 0 0 0 0 0 src 1 0 0), (irD 0 3 32 0 1 0 0 0 0 0 0 0 0), (irD 2 0 0 0 0 0 0 0 0 dst 0 0 0)])
 exact (o87 (d := .lst .tight 13 [(irD 1 0 0 0 0 0 0 0 0 dst 0 0 0), (irD 1 0 0 0 0 0 0 0 0 src 1 0 0), (irD 0 3 32 0 1 0 0 0 0 0 0 0 0), (irD 2 0 0 0 0 0 0 0 0 dst 0 0 0)]) (E1 ++ [.get tab_StepsL_0 8 (.int .i8 3) rfl, tT, .get tab_StepsL_0 9 (.int .i8 10) rfl, tT, .ret _ _ _ c4, .ret _ _ _ c5, .ret _ _ _ c6, .ret _ _ _ c7, .ret _ _ _ c8]) (by kernel_rfl)).to (by clear E1; (try simp only [IntKind.bits, and31, and63, and32, wrap_mod32, wrap_mod64] at *); simp [wk, wkL, wkO, stepsM, aluM, regOp, immOp, zeroImm, takeD, giveD, two, num, cmov, irD, ]; try ((try simp only [w_u64, w_i64, and32, IntKind.bits, Int.mul_one] at *); omega))
theorem does_0_4_64_ok (byReg : Bool) (dst src imm : Int) (hi1 : -2147483648 ≤ imm) (hi2 : imm ≤ 2147483647) : Ret Tryz.prog 87 ([instD 0 4 64 0 byReg dst src 0 imm]) (.lst .no 13 (stepsM 0 4 64 0 byReg dst src 0 imm)) := by
 let E1 : EL := [tT, .get ([D.fn (Fn.func 138) [] [], D.fn (Fn.func 139) [] [], D.fn (Fn.func 140) [] [], D.nilf, D.nilf, D.fn (Fn.func 141) [] [], D.fn (Fn.func 142) [] []]) 0 (D.fn (Fn.func 138) [] []) rfl, tT, .inl, tT, .get ([D.fn (Fn.func 175) [] [], D.fn (Fn.func 175) [] [], D.fn (Fn.func 176) [] [], D.fn (Fn.func 180) [] [], D.fn (Fn.func 175) [] [], D.fn (Fn.func 175) [] [], D.fn (Fn.func 179) [] [], D.fn (Fn.func 179) [] [], D.fn (Fn.func 177) [] [], D.fn (Fn.func 181) [] [], D.fn (Fn.func 175) [] [], D.fn (Fn.func 178) [] [], D.fn (Fn.func 179) [] []]) 4 (D.fn (Fn.func 175) [] []) rfl, .inl, .inl, tT]
 cases byReg
 ·have c0 := @l_take_ok 0 dst
  have c1 := @l_num_ok 10 64 0 imm
  have c2 := @l_give_ok dst 0
  have c3 := @l_steps_ok ([(irD 1 0 0 0 0 0 0 0 0 dst 0 0 0), (irD 0 10 64 0 0 0 0 imm 0 0 0 0 0), (irD 2 0 0 0 0 0 0 0 0 dst 0 0 0)])
  exact (o87 (d := .lst .tight 13 [(irD 1 0 0 0 0 0 0 0 0 dst 0 0 0), (irD 0 10 64 0 0 0 0 imm 0 0 0 0 0), (irD 2 0 0 0 0 0 0 0 0 dst 0 0 0)]) (E1 ++ [.get tab_StepsL_0 8 (.int .i8 3) rfl, tT, .get tab_StepsL_0 9 (.int .i8 10) rfl, tF, .ret _ _ _ c0, .ret _ _ _ c1, .ret _ _ _ c2, .ret _ _ _ c3]) (by kernel_rfl)).to (by clear E1; (try simp only [IntKind.bits, and31, and63, and32, wrap_mod32, wrap_mod64] at *); simp [wk, wkL, wkO, stepsM, aluM, regOp, immOp, zeroImm, takeD, giveD, two, num, cmov, irD, ]; try ((try simp only [w_u64, w_i64, and32, IntKind.bits, Int.mul_one] at *); omega))
 have c4 := @l_take_ok 0 dst
 have c5 := @l_take_ok 1 src
 have c6 := @l_two_ok 3 64 0 1
 have c7 := @l_give_ok dst 0
 have c8 := @l_steps_ok ([(irD 1 0 0 0 0 0 0 0 0 dst 0 0 0), (irD 1 0 0 0 0 0 0 0 0 src 1 0 0), (irD 0 3 64 0 1 0 0 0 0 0 0 0 0), (irD 2 0 0 0 0 0 0 0 0 dst 0 0 0)])
 exact (o87 (d := .lst .tight 13 [(irD 1 0 0 0 0 0 0 0 0 dst 0 0 0), (irD 1 0 0 0 0 0 0 0 0 src 1 0 0), (irD 0 3 64 0 1 0 0 0 0 0 0 0 0), (irD 2 0 0 0 0 0 0 0 0 dst 0 0 0)]) (E1 ++ [.get tab_StepsL_0 8 (.int .i8 3) rfl, tT, .get tab_StepsL_0 9 (.int .i8 10) rfl, tT, .ret _ _ _ c4, .ret _ _ _ c5, .ret _ _ _ c6, .ret _ _ _ c7, .ret _ _ _ c8]) (by kernel_rfl)).to (by clear E1; (try simp only [IntKind.bits, and31, and63, and32, wrap_mod32, wrap_mod64] at *); simp [wk, wkL, wkO, stepsM, aluM, regOp, immOp, zeroImm, takeD, giveD, two, num, cmov, irD, ]; try ((try simp only [w_u64, w_i64, and32, IntKind.bits, Int.mul_one] at *); omega))
theorem does_0_5_32_ok (byReg : Bool) (dst src imm : Int) (hi1 : -2147483648 ≤ imm) (hi2 : imm ≤ 2147483647) : Ret Tryz.prog 87 ([instD 0 5 32 0 byReg dst src 0 imm]) (.lst .no 13 (stepsM 0 5 32 0 byReg dst src 0 imm)) := by
 let E1 : EL := [tT, .get ([D.fn (Fn.func 138) [] [], D.fn (Fn.func 139) [] [], D.fn (Fn.func 140) [] [], D.nilf, D.nilf, D.fn (Fn.func 141) [] [], D.fn (Fn.func 142) [] []]) 0 (D.fn (Fn.func 138) [] []) rfl, tT, .inl, tT, .get ([D.fn (Fn.func 175) [] [], D.fn (Fn.func 175) [] [], D.fn (Fn.func 176) [] [], D.fn (Fn.func 180) [] [], D.fn (Fn.func 175) [] [], D.fn (Fn.func 175) [] [], D.fn (Fn.func 179) [] [], D.fn (Fn.func 179) [] [], D.fn (Fn.func 177) [] [], D.fn (Fn.func 181) [] [], D.fn (Fn.func 175) [] [], D.fn (Fn.func 178) [] [], D.fn (Fn.func 179) [] []]) 5 (D.fn (Fn.func 175) [] []) rfl, .inl, .inl, tT]
 cases byReg
 ·have c0 := @l_take_ok 0 dst
  have c1 := @l_num_ok 11 32 0 imm
  have c2 := @l_give_ok dst 0
  have c3 := @l_steps_ok ([(irD 1 0 0 0 0 0 0 0 0 dst 0 0 0), (irD 0 11 32 0 0 0 0 imm 0 0 0 0 0), (irD 2 0 0 0 0 0 0 0 0 dst 0 0 0)])
  exact (o87 (d := .lst .tight 13 [(irD 1 0 0 0 0 0 0 0 0 dst 0 0 0), (irD 0 11 32 0 0 0 0 imm 0 0 0 0 0), (irD 2 0 0 0 0 0 0 0 0 dst 0 0 0)]) (E1 ++ [.get tab_StepsL_0 10 (.int .i8 4) rfl, tT, .get tab_StepsL_0 11 (.int .i8 11) rfl, tF, .ret _ _ _ c0, .ret _ _ _ c1, .ret _ _ _ c2, .ret _ _ _ c3]) (by kernel_rfl)).to (by clear E1; (try simp only [IntKind.bits, and31, and63, and32, wrap_mod32, wrap_mod64] at *); simp [wk, wkL, wkO, stepsM, aluM, regOp, immOp, zeroImm, takeD, giveD, two, num, cmov, irD, ]; try ((try simp only [w_u64, w_i64, and32, IntKind.bits, Int.mul_one] at *); omega))
 have c4 := @l_take_ok 0 dst
 have c5 := @l_take_ok 1 src
 have c6 := @l_two_ok 4 32 0 1
 have c7 := @l_give_ok dst 0
 have c8 := @l_steps_ok ([(irD 1 0 0 0 0 0 0 0 0 dst 0 0 0), (irD 1 0 0 0 0 0 0 0 0 src 1 0 0), (irD 0 4 32 0 1 0 0 0 0 0 0 0 0), (irD 2 0 0 0 0 0 0 0 0 dst 0 0 0)])
 exact (o87 (d := .lst .tight 13 [(irD 1 0 0 0 0 0 0 0 0 dst 0 0 0), (irD 1 0 0 0 0 0 0 0 0 src 1 0 0), (irD 0 4 32 0 1 0 0 0 0 0 0 0 0), (irD 2 0 0 0 0 0 0 0 0 dst 0 0 0)]) (E1 ++ [.get tab_StepsL_0 10 (.int .i8 4) rfl, tT, .get tab_StepsL_0 11 (.int .i8 11) rfl, tT, .ret _ _ _ c4, .ret _ _ _ c5, .ret _ _ _ c6, .ret _ _ _ c7, .ret _ _ _ c8]) (by kernel_rfl)).to (by clear E1; (try simp only [IntKind.bits, and31, and63, and32, wrap_mod32, wrap_mod64] at *); simp [wk, wkL, wkO, stepsM, aluM, regOp, immOp, zeroImm, takeD, giveD, two, num, cmov, irD, ]; try ((try simp only [w_u64, w_i64, and32, IntKind.bits, Int.mul_one] at *); omega))
theorem does_0_5_64_ok (byReg : Bool) (dst src imm : Int) (hi1 : -2147483648 ≤ imm) (hi2 : imm ≤ 2147483647) : Ret Tryz.prog 87 ([instD 0 5 64 0 byReg dst src 0 imm]) (.lst .no 13 (stepsM 0 5 64 0 byReg dst src 0 imm)) := by
 let E1 : EL := [tT, .get ([D.fn (Fn.func 138) [] [], D.fn (Fn.func 139) [] [], D.fn (Fn.func 140) [] [], D.nilf, D.nilf, D.fn (Fn.func 141) [] [], D.fn (Fn.func 142) [] []]) 0 (D.fn (Fn.func 138) [] []) rfl, tT, .inl, tT, .get ([D.fn (Fn.func 175) [] [], D.fn (Fn.func 175) [] [], D.fn (Fn.func 176) [] [], D.fn (Fn.func 180) [] [], D.fn (Fn.func 175) [] [], D.fn (Fn.func 175) [] [], D.fn (Fn.func 179) [] [], D.fn (Fn.func 179) [] [], D.fn (Fn.func 177) [] [], D.fn (Fn.func 181) [] [], D.fn (Fn.func 175) [] [], D.fn (Fn.func 178) [] [], D.fn (Fn.func 179) [] []]) 5 (D.fn (Fn.func 175) [] []) rfl, .inl, .inl, tT]
 cases byReg
 ·have c0 := @l_take_ok 0 dst
  have c1 := @l_num_ok 11 64 0 imm
  have c2 := @l_give_ok dst 0
  have c3 := @l_steps_ok ([(irD 1 0 0 0 0 0 0 0 0 dst 0 0 0), (irD 0 11 64 0 0 0 0 imm 0 0 0 0 0), (irD 2 0 0 0 0 0 0 0 0 dst 0 0 0)])
  exact (o87 (d := .lst .tight 13 [(irD 1 0 0 0 0 0 0 0 0 dst 0 0 0), (irD 0 11 64 0 0 0 0 imm 0 0 0 0 0), (irD 2 0 0 0 0 0 0 0 0 dst 0 0 0)]) (E1 ++ [.get tab_StepsL_0 10 (.int .i8 4) rfl, tT, .get tab_StepsL_0 11 (.int .i8 11) rfl, tF, .ret _ _ _ c0, .ret _ _ _ c1, .ret _ _ _ c2, .ret _ _ _ c3]) (by kernel_rfl)).to (by clear E1; (try simp only [IntKind.bits, and31, and63, and32, wrap_mod32, wrap_mod64] at *); simp [wk, wkL, wkO, stepsM, aluM, regOp, immOp, zeroImm, takeD, giveD, two, num, cmov, irD, ]; try ((try simp only [w_u64, w_i64, and32, IntKind.bits, Int.mul_one] at *); omega))
 have c4 := @l_take_ok 0 dst
 have c5 := @l_take_ok 1 src
 have c6 := @l_two_ok 4 64 0 1
 have c7 := @l_give_ok dst 0
 have c8 := @l_steps_ok ([(irD 1 0 0 0 0 0 0 0 0 dst 0 0 0), (irD 1 0 0 0 0 0 0 0 0 src 1 0 0), (irD 0 4 64 0 1 0 0 0 0 0 0 0 0), (irD 2 0 0 0 0 0 0 0 0 dst 0 0 0)])
 exact (o87 (d := .lst .tight 13 [(irD 1 0 0 0 0 0 0 0 0 dst 0 0 0), (irD 1 0 0 0 0 0 0 0 0 src 1 0 0), (irD 0 4 64 0 1 0 0 0 0 0 0 0 0), (irD 2 0 0 0 0 0 0 0 0 dst 0 0 0)]) (E1 ++ [.get tab_StepsL_0 10 (.int .i8 4) rfl, tT, .get tab_StepsL_0 11 (.int .i8 11) rfl, tT, .ret _ _ _ c4, .ret _ _ _ c5, .ret _ _ _ c6, .ret _ _ _ c7, .ret _ _ _ c8]) (by kernel_rfl)).to (by clear E1; (try simp only [IntKind.bits, and31, and63, and32, wrap_mod32, wrap_mod64] at *); simp [wk, wkL, wkO, stepsM, aluM, regOp, immOp, zeroImm, takeD, giveD, two, num, cmov, irD, ]; try ((try simp only [w_u64, w_i64, and32, IntKind.bits, Int.mul_one] at *); omega))
theorem does_0_6_32_ok (byReg : Bool) (dst src imm : Int) (hi1 : -2147483648 ≤ imm) (hi2 : imm ≤ 2147483647) : Ret Tryz.prog 87 ([instD 0 6 32 0 byReg dst src 0 imm]) (.lst .no 13 (stepsM 0 6 32 0 byReg dst src 0 imm)) := by
 let E1 : EL := [tT, .get ([D.fn (Fn.func 138) [] [], D.fn (Fn.func 139) [] [], D.fn (Fn.func 140) [] [], D.nilf, D.nilf, D.fn (Fn.func 141) [] [], D.fn (Fn.func 142) [] []]) 0 (D.fn (Fn.func 138) [] []) rfl, tT, .inl, tT, .get ([D.fn (Fn.func 175) [] [], D.fn (Fn.func 175) [] [], D.fn (Fn.func 176) [] [], D.fn (Fn.func 180) [] [], D.fn (Fn.func 175) [] [], D.fn (Fn.func 175) [] [], D.fn (Fn.func 179) [] [], D.fn (Fn.func 179) [] [], D.fn (Fn.func 177) [] [], D.fn (Fn.func 181) [] [], D.fn (Fn.func 175) [] [], D.fn (Fn.func 178) [] [], D.fn (Fn.func 179) [] []]) 6 (D.fn (Fn.func 179) [] []) rfl, .inl, .inl, tT]
 cases byReg
 ·have c0 := @l_take_ok 0 dst
  have c1 := @l_num_ok 17 32 0 (IntKind.wrap IntKind.i64 (↑(BitVec.toNat (BitVec.ofInt (64 : Nat) imm &&& BitVec.ofInt (64 : Nat) 31)) : Int))
  have c2 := @l_give_ok dst 0
  have c3 := @l_steps_ok ([(irD 1 0 0 0 0 0 0 0 0 dst 0 0 0), (irD 0 17 32 0 0 0 0 (IntKind.wrap IntKind.i64 (↑(BitVec.toNat (BitVec.ofInt (64 : Nat) imm &&& BitVec.ofInt (64 : Nat) 31)) : Int)) 0 0 0 0 0), (irD 2 0 0 0 0 0 0 0 0 dst 0 0 0)])
  exact (o87 (d := .lst .tight 13 [(irD 1 0 0 0 0 0 0 0 0 dst 0 0 0), (irD 0 17 32 0 0 0 0 (IntKind.wrap IntKind.i64 (↑(BitVec.toNat (BitVec.ofInt (64 : Nat) imm &&& BitVec.ofInt (64 : Nat) 31)) : Int)) 0 0 0 0 0), (irD 2 0 0 0 0 0 0 0 0 dst 0 0 0)]) (E1 ++ [.get tab_StepsL_0 12 (.int .i8 20) rfl, tT, .get tab_StepsL_0 13 (.int .i8 17) rfl, tF, .ret _ _ _ c0, .ret _ _ _ c1, .ret _ _ _ c2, .ret _ _ _ c3]) (by kernel_rfl)).to (by clear E1; (try simp only [IntKind.bits, and31, and63, and32, wrap_mod32, wrap_mod64] at *); simp [wk, wkL, wkO, stepsM, aluM, regOp, immOp, zeroImm, takeD, giveD, two, num, cmov, irD, ]; try ((try simp only [w_u64, w_i64, and32, IntKind.bits, Int.mul_one] at *); omega))
 have c4 := @l_take_ok 0 dst
 have c5 := @l_take_ok 1 src
 have c6 := @l_one_ok 20 32 0
 have c7 := @l_give_ok dst 0
 have c8 := @l_steps_ok ([(irD 1 0 0 0 0 0 0 0 0 dst 0 0 0), (irD 1 0 0 0 0 0 0 0 0 src 1 0 0), (irD 0 20 32 0 0 0 0 0 0 0 0 0 0), (irD 2 0 0 0 0 0 0 0 0 dst 0 0 0)])
 exact (o87 (d := .lst .tight 13 [(irD 1 0 0 0 0 0 0 0 0 dst 0 0 0), (irD 1 0 0 0 0 0 0 0 0 src 1 0 0), (irD 0 20 32 0 0 0 0 0 0 0 0 0 0), (irD 2 0 0 0 0 0 0 0 0 dst 0 0 0)]) (E1 ++ [.get tab_StepsL_0 12 (.int .i8 20) rfl, tT, .get tab_StepsL_0 13 (.int .i8 17) rfl, tT, .ret _ _ _ c4, .ret _ _ _ c5, .ret _ _ _ c6, .ret _ _ _ c7, .ret _ _ _ c8]) (by kernel_rfl)).to (by clear E1; (try simp only [IntKind.bits, and31, and63, and32, wrap_mod32, wrap_mod64] at *); simp [wk, wkL, wkO, stepsM, aluM, regOp, immOp, zeroImm, takeD, giveD, two, num, cmov, irD, ]; try ((try simp only [w_u64, w_i64, and32, IntKind.bits, Int.mul_one] at *); omega))
theorem does_0_6_64_ok (byReg : Bool) (dst src imm : Int) (hi1 : -2147483648 ≤ imm) (hi2 : imm ≤ 2147483647) : Ret Tryz.prog 87 ([instD 0 6 64 0 byReg dst src 0 imm]) (.lst .no 13 (stepsM 0 6 64 0 byReg dst src 0 imm)) := by
 let E1 : EL := [tT, .get ([D.fn (Fn.func 138) [] [], D.fn (Fn.func 139) [] [], D.fn (Fn.func 140) [] [], D.nilf, D.nilf, D.fn (Fn.func 141) [] [], D.fn (Fn.func 142) [] []]) 0 (D.fn (Fn.func 138) [] []) rfl, tT, .inl, tT, .get ([D.fn (Fn.func 175) [] [], D.fn (Fn.func 175) [] [], D.fn (Fn.func 176) [] [], D.fn (Fn.func 180) [] [], D.fn (Fn.func 175) [] [], D.fn (Fn.func 175) [] [], D.fn (Fn.func 179) [] [], D.fn (Fn.func 179) [] [], D.fn (Fn.func 177) [] [], D.fn (Fn.func 181) [] [], D.fn (Fn.func 175) [] [], D.fn (Fn.func 178) [] [], D.fn (Fn.func 179) [] []]) 6 (D.fn (Fn.func 179) [] []) rfl, .inl, .inl, tT]
 cases byReg
 ·have c0 := @l_take_ok 0 dst
  have c1 := @l_num_ok 17 64 0 (IntKind.wrap IntKind.i64 (↑(BitVec.toNat (BitVec.ofInt (64 : Nat) imm &&& BitVec.ofInt (64 : Nat) 63)) : Int))
  have c2 := @l_give_ok dst 0
  have c3 := @l_steps_ok ([(irD 1 0 0 0 0 0 0 0 0 dst 0 0 0), (irD 0 17 64 0 0 0 0 (IntKind.wrap IntKind.i64 (↑(BitVec.toNat (BitVec.ofInt (64 : Nat) imm &&& BitVec.ofInt (64 : Nat) 63)) : Int)) 0 0 0 0 0), (irD 2 0 0 0 0 0 0 0 0 dst 0 0 0)])
  exact (o87 (d := .lst .tight 13 [(irD 1 0 0 0 0 0 0 0 0 dst 0 0 0), (irD 0 17 64 0 0 0 0 (IntKind.wrap IntKind.i64 (↑(BitVec.toNat (BitVec.ofInt (64 : Nat) imm &&& BitVec.ofInt (64 : Nat) 63)) : Int)) 0 0 0 0 0), (irD 2 0 0 0 0 0 0 0 0 dst 0 0 0)]) (E1 ++ [.get tab_StepsL_0 12 (.int .i8 20) rfl, tT, .get tab_StepsL_0 13 (.int .i8 17) rfl, tF, .ret _ _ _ c0, .ret _ _ _ c1, .ret _ _ _ c2, .ret _ _ _ c3]) (by kernel_rfl)).to (by clear E1; (try simp only [IntKind.bits, and31, and63, and32, wrap_mod32, wrap_mod64] at *); simp [wk, wkL, wkO, stepsM, aluM, regOp, immOp, zeroImm, takeD, giveD, two, num, cmov, irD, ]; try ((try simp only [w_u64, w_i64, and32, IntKind.bits, Int.mul_one] at *); omega))
 have c4 := @l_take_ok 0 dst
 have c5 := @l_take_ok 1 src
 have c6 := @l_one_ok 20 64 0
 have c7 := @l_give_ok dst 0
 have c8 := @l_steps_ok ([(irD 1 0 0 0 0 0 0 0 0 dst 0 0 0), (irD 1 0 0 0 0 0 0 0 0 src 1 0 0), (irD 0 20 64 0 0 0 0 0 0 0 0 0 0), (irD 2 0 0 0 0 0 0 0 0 dst 0 0 0)])
 exact (o87 (d := .lst .tight 13 [(irD 1 0 0 0 0 0 0 0 0 dst 0 0 0), (irD 1 0 0 0 0 0 0 0 0 src 1 0 0), (irD 0 20 64 0 0 0 0 0 0 0 0 0 0), (irD 2 0 0 0 0 0 0 0 0 dst 0 0 0)]) (E1 ++ [.get tab_StepsL_0 12 (.int .i8 20) rfl, tT, .get tab_StepsL_0 13 (.int .i8 17) rfl, tT, .ret _ _ _ c4, .ret _ _ _ c5, .ret _ _ _ c6, .ret _ _ _ c7, .ret _ _ _ c8]) (by kernel_rfl)).to (by clear E1; (try simp only [IntKind.bits, and31, and63, and32, wrap_mod32, wrap_mod64] at *); simp [wk, wkL, wkO, stepsM, aluM, regOp, immOp, zeroImm, takeD, giveD, two, num, cmov, irD, ]; try ((try simp only [w_u64, w_i64, and32, IntKind.bits, Int.mul_one] at *); omega))
theorem does_0_7_32_ok (byReg : Bool) (dst src imm : Int) (hi1 : -2147483648 ≤ imm) (hi2 : imm ≤ 2147483647) : Ret Tryz.prog 87 ([instD 0 7 32 0 byReg dst src 0 imm]) (.lst .no 13 (stepsM 0 7 32 0 byReg dst src 0 imm)) := by
 let E1 : EL := [tT, .get ([D.fn (Fn.func 138) [] [], D.fn (Fn.func 139) [] [], D.fn (Fn.func 140) [] [], D.nilf, D.nilf, D.fn (Fn.func 141) [] [], D.fn (Fn.func 142) [] []]) 0 (D.fn (Fn.func 138) [] []) rfl, tT, .inl, tT, .get ([D.fn (Fn.func 175) [] [], D.fn (Fn.func 175) [] [], D.fn (Fn.func 176) [] [], D.fn (Fn.func 180) [] [], D.fn (Fn.func 175) [] [], D.fn (Fn.func 175) [] [], D.fn (Fn.func 179) [] [], D.fn (Fn.func 179) [] [], D.fn (Fn.func 177) [] [], D.fn (Fn.func 181) [] [], D.fn (Fn.func 175) [] [], D.fn (Fn.func 178) [] [], D.fn (Fn.func 179) [] []]) 7 (D.fn (Fn.func 179) [] []) rfl, .inl, .inl, tT]
 cases byReg
 ·have c0 := @l_take_ok 0 dst
  have c1 := @l_num_ok 18 32 0 (IntKind.wrap IntKind.i64 (↑(BitVec.toNat (BitVec.ofInt (64 : Nat) imm &&& BitVec.ofInt (64 : Nat) 31)) : Int))
  have c2 := @l_give_ok dst 0
  have c3 := @l_steps_ok ([(irD 1 0 0 0 0 0 0 0 0 dst 0 0 0), (irD 0 18 32 0 0 0 0 (IntKind.wrap IntKind.i64 (↑(BitVec.toNat (BitVec.ofInt (64 : Nat) imm &&& BitVec.ofInt (64 : Nat) 31)) : Int)) 0 0 0 0 0), (irD 2 0 0 0 0 0 0 0 0 dst 0 0 0)])
  exact (o87 (d := .lst .tight 13 [(irD 1 0 0 0 0 0 0 0 0 dst 0 0 0), (irD 0 18 32 0 0 0 0 (IntKind.wrap IntKind.i64 (↑(BitVec.toNat (BitVec.ofInt (64 : Nat) imm &&& BitVec.ofInt (64 : Nat) 31)) : Int)) 0 0 0 0 0), (irD 2 0 0 0 0 0 0 0 0 dst 0 0 0)]) (E1 ++ [.get tab_StepsL_0 14 (.int .i8 21) rfl, tT, .get tab_StepsL_0 15 (.int .i8 18) rfl, tF, .ret _ _ _ c0, .ret _ _ _ c1, .ret _ _ _ c2, .ret _ _ _ c3]) (by kernel_rfl)).to (by clear E1; (try simp only [IntKind.bits, and31, and63, and32, wrap_mod32, wrap_mod64] at *); simp [wk, wkL, wkO, stepsM, aluM, regOp, immOp, zeroImm, takeD, giveD, two, num, cmov, irD, ]; try ((try simp only [w_u64, w_i64, and32, IntKind.bits, Int.mul_one] at *); omega))
 have c4 := @l_take_ok 0 dst
 have c5 := @l_take_ok 1 src
 have c6 := @l_one_ok 21 32 0
 have c7 := @l_give_ok dst 0
 have c8 := @l_steps_ok ([(irD 1 0 0 0 0 0 0 0 0 dst 0 0 0), (irD 1 0 0 0 0 0 0 0 0 src 1 0 0), (irD 0 21 32 0 0 0 0 0 0 0 0 0 0), (irD 2 0 0 0 0 0 0 0 0 dst 0 0 0)])
 exact (o87 (d := .lst .tight 13 [(irD 1 0 0 0 0 0 0 0 0 dst 0 0 0), (irD 1 0 0 0 0 0 0 0 0 src 1 0 0), (irD 0 21 32 0 0 0 0 0 0 0 0 0 0), (irD 2 0 0 0 0 0 0 0 0 dst 0 0 0)]) (E1 ++ [.get tab_StepsL_0 14 (.int .i8 21) rfl, tT, .get tab_StepsL_0 15 (.int .i8 18) rfl, tT, .ret _ _ _ c4, .ret _ _ _ c5, .ret _ _ _ c6, .ret _ _ _ c7, .ret _ _ _ c8]) (by kernel_rfl)).to (by clear E1; (try simp only [IntKind.bits, and31, and63, and32, wrap_mod32, wrap_mod64] at *); simp [wk, wkL, wkO, stepsM, aluM, regOp, immOp, zeroImm, takeD, giveD, two, num, cmov, irD, ]; try ((try simp only [w_u64, w_i64, and32, IntKind.bits, Int.mul_one] at *); omega))
theorem does_0_7_64_ok (byReg : Bool) (dst src imm : Int) (hi1 : -2147483648 ≤ imm) (hi2 : imm ≤ 2147483647) : Ret Tryz.prog 87 ([instD 0 7 64 0 byReg dst src 0 imm]) (.lst .no 13 (stepsM 0 7 64 0 byReg dst src 0 imm)) := by
 let E1 : EL := [tT, .get ([D.fn (Fn.func 138) [] [], D.fn (Fn.func 139) [] [], D.fn (Fn.func 140) [] [], D.nilf, D.nilf, D.fn (Fn.func 141) [] [], D.fn (Fn.func 142) [] []]) 0 (D.fn (Fn.func 138) [] []) rfl, tT, .inl, tT, .get ([D.fn (Fn.func 175) [] [], D.fn (Fn.func 175) [] [], D.fn (Fn.func 176) [] [], D.fn (Fn.func 180) [] [], D.fn (Fn.func 175) [] [], D.fn (Fn.func 175) [] [], D.fn (Fn.func 179) [] [], D.fn (Fn.func 179) [] [], D.fn (Fn.func 177) [] [], D.fn (Fn.func 181) [] [], D.fn (Fn.func 175) [] [], D.fn (Fn.func 178) [] [], D.fn (Fn.func 179) [] []]) 7 (D.fn (Fn.func 179) [] []) rfl, .inl, .inl, tT]
 cases byReg
 ·have c0 := @l_take_ok 0 dst
  have c1 := @l_num_ok 18 64 0 (IntKind.wrap IntKind.i64 (↑(BitVec.toNat (BitVec.ofInt (64 : Nat) imm &&& BitVec.ofInt (64 : Nat) 63)) : Int))
  have c2 := @l_give_ok dst 0
  have c3 := @l_steps_ok ([(irD 1 0 0 0 0 0 0 0 0 dst 0 0 0), (irD 0 18 64 0 0 0 0 (IntKind.wrap IntKind.i64 (↑(BitVec.toNat (BitVec.ofInt (64 : Nat) imm &&& BitVec.ofInt (64 : Nat) 63)) : Int)) 0 0 0 0 0), (irD 2 0 0 0 0 0 0 0 0 dst 0 0 0)])
  exact (o87 (d := .lst .tight 13 [(irD 1 0 0 0 0 0 0 0 0 dst 0 0 0), (irD 0 18 64 0 0 0 0 (IntKind.wrap IntKind.i64 (↑(BitVec.toNat (BitVec.ofInt (64 : Nat) imm &&& BitVec.ofInt (64 : Nat) 63)) : Int)) 0 0 0 0 0), (irD 2 0 0 0 0 0 0 0 0 dst 0 0 0)]) (E1 ++ [.get tab_StepsL_0 14 (.int .i8 21) rfl, tT, .get tab_StepsL_0 15 (.int .i8 18) rfl, tF, .ret _ _ _ c0, .ret _ _ _ c1, .ret _ _ _ c2, .ret _ _ _ c3]) (by kernel_rfl)).to (by clear E1; (try simp only [IntKind.bits, and31, and63, and32, wrap_mod32, wrap_mod64] at *); simp [wk, wkL, wkO, stepsM, aluM, regOp, immOp, zeroImm, takeD, giveD, two, num, cmov, irD, ]; try ((try simp only [w_u64, w_i64, and32, IntKind.bits, Int.mul_one] at *); omega))
 have c4 := @l_take_ok 0 dst
 have c5 := @l_take_ok 1 src
 have c6 := @l_one_ok 21 64 0
 have c7 := @l_give_ok dst 0
 have c8 := @l_steps_ok ([(irD 1 0 0 0 0 0 0 0 0 dst 0 0 0), (irD 1 0 0 0 0 0 0 0 0 src 1 0 0), (irD 0 21 64 0 0 0 0 0 0 0 0 0 0), (irD 2 0 0 0 0 0 0 0 0 dst 0 0 0)])
 exact (o87 (d := .lst .tight 13 [(irD 1 0 0 0 0 0 0 0 0 dst 0 0 0), (irD 1 0 0 0 0 0 0 0 0 src 1 0 0), (irD 0 21 64 0 0 0 0 0 0 0 0 0 0), (irD 2 0 0 0 0 0 0 0 0 dst 0 0 0)]) (E1 ++ [.get tab_StepsL_0 14 (.int .i8 21) rfl, tT, .get tab_StepsL_0 15 (.int .i8 18) rfl, tT, .ret _ _ _ c4, .ret _ _ _ c5, .ret _ _ _ c6, .ret _ _ _ c7, .ret _ _ _ c8]) (by kernel_rfl)).to (by clear E1; (try simp only [IntKind.bits, and31, and63, and32, wrap_mod32, wrap_mod64] at *); simp [wk, wkL, wkO, stepsM, aluM, regOp, immOp, zeroImm, takeD, giveD, two, num, cmov, irD, ]; try ((try simp only [w_u64, w_i64, and32, IntKind.bits, Int.mul_one] at *); omega))
theorem does_0_8_32_ok (byReg : Bool) (dst src imm : Int) (hi1 : -2147483648 ≤ imm) (hi2 : imm ≤ 2147483647) (h : byReg = false) : Ret Tryz.prog 87 ([instD 0 8 32 0 byReg dst src 0 imm]) (.lst .no 13 (stepsM 0 8 32 0 byReg dst src 0 imm)) := by
 have c0 := @l_take_ok 0 dst
 have c1 := @l_one_ok 23 32 0
 have c2 := @l_give_ok dst 0
 have c3 := @l_steps_ok ([(irD 1 0 0 0 0 0 0 0 0 dst 0 0 0), (irD 0 23 32 0 0 0 0 0 0 0 0 0 0), (irD 2 0 0 0 0 0 0 0 0 dst 0 0 0)])
 exact (o87 (d := .lst .tight 13 [(irD 1 0 0 0 0 0 0 0 0 dst 0 0 0), (irD 0 23 32 0 0 0 0 0 0 0 0 0 0), (irD 2 0 0 0 0 0 0 0 0 dst 0 0 0)]) [tT, .get ([D.fn (Fn.func 138) [] [], D.fn (Fn.func 139) [] [], D.fn (Fn.func 140) [] [], D.nilf, D.nilf, D.fn (Fn.func 141) [] [], D.fn (Fn.func 142) [] []]) 0 (D.fn (Fn.func 138) [] []) rfl, tT, .inl, tT, .get ([D.fn (Fn.func 175) [] [], D.fn (Fn.func 175) [] [], D.fn (Fn.func 176) [] [], D.fn (Fn.func 180) [] [], D.fn (Fn.func 175) [] [], D.fn (Fn.func 175) [] [], D.fn (Fn.func 179) [] [], D.fn (Fn.func 179) [] [], D.fn (Fn.func 177) [] [], D.fn (Fn.func 181) [] [], D.fn (Fn.func 175) [] [], D.fn (Fn.func 178) [] [], D.fn (Fn.func 179) [] []]) 8 (D.fn (Fn.func 177) [] []) rfl, .inl, .ret _ _ _ c0, .ret _ _ _ c1, .ret _ _ _ c2, .ret _ _ _ c3] (by kernel_rfl)).to (by (try simp only [IntKind.bits, and31, and63, and32, wrap_mod32, wrap_mod64] at *); simp [wk, wkL, wkO, stepsM, aluM, regOp, immOp, zeroImm, takeD, giveD, two, num, cmov, irD, ]; try ((try simp only [w_u64, w_i64, and32, IntKind.bits, Int.mul_one] at *); omega))
theorem does_0_8_64_ok (byReg : Bool) (dst src imm : Int) (hi1 : -2147483648 ≤ imm) (hi2 : imm ≤ 2147483647) (h : byReg = false) : Ret Tryz.prog 87 ([instD 0 8 64 0 byReg dst src 0 imm]) (.lst .no 13 (stepsM 0 8 64 0 byReg dst src 0 imm)) := by
 have c0 := @l_take_ok 0 dst
 have c1 := @l_one_ok 23 64 0
 have c2 := @l_give_ok dst 0
 have c3 := @l_steps_ok ([(irD 1 0 0 0 0 0 0 0 0 dst 0 0 0), (irD 0 23 64 0 0 0 0 0 0 0 0 0 0), (irD 2 0 0 0 0 0 0 0 0 dst 0 0 0)])
 exact (o87 (d := .lst .tight 13 [(irD 1 0 0 0 0 0 0 0 0 dst 0 0 0), (irD 0 23 64 0 0 0 0 0 0 0 0 0 0), (irD 2 0 0 0 0 0 0 0 0 dst 0 0 0)]) [tT, .get ([D.fn (Fn.func 138) [] [], D.fn (Fn.func 139) [] [], D.fn (Fn.func 140) [] [], D.nilf, D.nilf, D.fn (Fn.func 141) [] [], D.fn (Fn.func 142) [] []]) 0 (D.fn (Fn.func 138) [] []) rfl, tT, .inl, tT, .get ([D.fn (Fn.func 175) [] [], D.fn (Fn.func 175) [] [], D.fn (Fn.func 176) [] [], D.fn (Fn.func 180) [] [], D.fn (Fn.func 175) [] [], D.fn (Fn.func 175) [] [], D.fn (Fn.func 179) [] [], D.fn (Fn.func 179) [] [], D.fn (Fn.func 177) [] [], D.fn (Fn.func 181) [] [], D.fn (Fn.func 175) [] [], D.fn (Fn.func 178) [] [], D.fn (Fn.func 179) [] []]) 8 (D.fn (Fn.func 177) [] []) rfl, .inl, .ret _ _ _ c0, .ret _ _ _ c1, .ret _ _ _ c2, .ret _ _ _ c3] (by kernel_rfl)).to (by (try simp only [IntKind.bits, and31, and63, and32, wrap_mod32, wrap_mod64] at *); simp [wk, wkL, wkO, stepsM, aluM, regOp, immOp, zeroImm, takeD, giveD, two, num, cmov, irD, ]; try ((try simp only [w_u64, w_i64, and32, IntKind.bits, Int.mul_one] at *); omega))
theorem does_0_9_32_ok (byReg : Bool) (dst src imm : Int) (hi1 : -2147483648 ≤ imm) (hi2 : imm ≤ 2147483647) : Ret Tryz.prog 87 ([instD 0 9 32 0 byReg dst src 0 imm]) (.lst .no 13 (stepsM 0 9 32 0 byReg dst src 0 imm)) := by
 let E1 : EL := [tT, .get ([D.fn (Fn.func 138) [] [], D.fn (Fn.func 139) [] [], D.fn (Fn.func 140) [] [], D.nilf, D.nilf, D.fn (Fn.func 141) [] [], D.fn (Fn.func 142) [] []]) 0 (D.fn (Fn.func 138) [] []) rfl, tT, .inl, tT, .get ([D.fn (Fn.func 175) [] [], D.fn (Fn.func 175) [] [], D.fn (Fn.func 176) [] [], D.fn (Fn.func 180) [] [], D.fn (Fn.func 175) [] [], D.fn (Fn.func 175) [] [], D.fn (Fn.func 179) [] [], D.fn (Fn.func 179) [] [], D.fn (Fn.func 177) [] [], D.fn (Fn.func 181) [] [], D.fn (Fn.func 175) [] [], D.fn (Fn.func 178) [] [], D.fn (Fn.func 179) [] []]) 9 (D.fn (Fn.func 181) [] []) rfl, .inl, .inl]
 cases byReg
 ·by_cases h0 : IntKind.wrap IntKind.u64 (IntKind.wrap IntKind.u64 imm * 4294967296) = 0
  ·have c1 := @l_take_ok 0 dst
   have c2 := @l_steps_ok ([(irD 1 0 0 0 0 0 0 0 0 dst 0 0 0)])
   have c3 := @l_short32_ok 0 9 0 false dst src 0 imm
   have c4 := @l_give_ok dst 0
   exact (o87 (d := .lst (.fresh 13) 13 [(irD 1 0 0 0 0 0 0 0 0 dst 0 0 0), (irD 0 0 32 0 0 0 0 0 0 0 0 0 0), (irD 2 0 0 0 0 0 0 0 0 dst 0 0 0)]) (E1 ++ List.replicate 11 tT ++ [tC (eqI 0 true h0), .ret _ _ _ c1, .ret _ _ _ c2, .ret _ _ _ c3, .len 2 2147483648 (by decide), .ret _ _ _ c4, .len 3 2147483648 (by decide)]) (by kernel_rfl)).to (by clear E1; (try simp only [IntKind.bits, and31, and63, and32, wrap_mod32, wrap_mod64] at *); simp [wk, wkL, wkO, stepsM, aluM, regOp, immOp, zeroImm, takeD, giveD, two, num, cmov, irD, h0]; try ((try simp only [w_u64, w_i64, and32, IntKind.bits, Int.mul_one] at *); omega))
  have c5 := @l_take_ok 11 dst
  have c6 := @l_give_ok dst 2
  have c7 := @l_take_ok 0 dst
  have c8 := @l_steps_ok ([(irD 1 0 0 0 0 0 0 0 0 dst 0 0 0)])
  have c9 := @l_num_ok 1 32 1 imm
  have c10 := @l_num_ok 1 32 2 0
  have c11 := @l_one_ok 24 32 1
  exact (o87 (d := .lst (.fresh 13) 13 [(irD 1 0 0 0 0 0 0 0 0 dst 0 0 0), (irD 0 1 32 1 0 0 0 imm 0 0 0 0 0), (irD 0 1 32 2 0 0 0 0 0 0 0 0 0), (irD 0 24 32 1 0 0 0 0 0 0 0 0 0), (irD 2 0 0 0 0 0 0 0 0 dst 2 0 0)]) (E1 ++ List.replicate 11 tT ++ [tC (neOf h0), .ret _ _ _ c5, .inl, .ret _ _ _ c6, .ret _ _ _ c7, .ret _ _ _ c8, tT, .ret _ _ _ c9, .ret _ _ _ c10, .ret _ _ _ c11, .len 5 2147483648 (by decide)]) (by kernel_rfl)).to (by clear E1; (try simp only [IntKind.bits, and31, and63, and32, wrap_mod32, wrap_mod64] at *); simp [wk, wkL, wkO, stepsM, aluM, regOp, immOp, zeroImm, takeD, giveD, two, num, cmov, irD, h0]; try ((try simp only [w_u64, w_i64, and32, IntKind.bits, Int.mul_one] at *); omega))
 have c12 := @l_take_ok 11 dst
 have c13 := @l_give_ok dst 2
 have c14 := @l_take_ok 0 dst
 have c15 := @l_steps_ok ([(irD 1 0 0 0 0 0 0 0 0 dst 0 0 0)])
 have c16 := @l_take_ok 1 src
 have c17 := @l_num_ok 1 32 2 0
 have c18 := @l_num_ok 1 32 11 1
 have c19 := @l_choose_ok 32 1
 have c20 := @l_one_ok 24 32 1
 have c21 := @l_take_ok 1 src
 have c22 := @l_choose_ok 32 2
 exact (o87 (d := .lst (.fresh 13) 13 [(irD 1 0 0 0 0 0 0 0 0 dst 0 0 0), (irD 1 0 0 0 0 0 0 0 0 src 1 0 0), (irD 0 1 32 2 0 0 0 0 0 0 0 0 0), (irD 0 1 32 11 0 0 0 1 0 0 0 0 0), (irD 0 8 32 1 1 0 0 0 0 0 0 0 0), (irD 0 25 32 1 11 0 0 0 4 0 0 0 0), (irD 0 24 32 1 0 0 0 0 0 0 0 0 0), (irD 1 0 0 0 0 0 0 0 0 src 1 0 0), (irD 1 0 0 0 0 0 0 0 0 dst 11 0 0), (irD 0 8 32 1 1 0 0 0 0 0 0 0 0), (irD 0 25 32 2 11 0 0 0 4 0 0 0 0), (irD 2 0 0 0 0 0 0 0 0 dst 2 0 0)]) (E1 ++ List.replicate 11 tF ++ [.ret _ _ _ c12, .inl, .ret _ _ _ c13, .ret _ _ _ c14, .ret _ _ _ c15, tF, .ret _ _ _ c16, .ret _ _ _ c17, .ret _ _ _ c18, .len 4 2147483648 (by decide), .ret _ _ _ c19, .len 6 2147483648 (by decide), .ret _ _ _ c20, .ret _ _ _ c21, .len 9 2147483648 (by decide), .ret _ _ _ c22, .len 11 2147483648 (by decide), .len 12 2147483648 (by decide)]) (by kernel_rfl)).to (by clear E1; (try simp only [IntKind.bits, and31, and63, and32, wrap_mod32, wrap_mod64] at *); simp [wk, wkL, wkO, stepsM, aluM, regOp, immOp, zeroImm, takeD, giveD, two, num, cmov, irD, ]; try ((try simp only [w_u64, w_i64, and32, IntKind.bits, Int.mul_one] at *); omega))
theorem does_0_9_64_ok (byReg : Bool) (dst src imm : Int) (hi1 : -2147483648 ≤ imm) (hi2 : imm ≤ 2147483647) : Ret Tryz.prog 87 ([instD 0 9 64 0 byReg dst src 0 imm]) (.lst .no 13 (stepsM 0 9 64 0 byReg dst src 0 imm)) := by
 let E1 : EL := [tT, .get ([D.fn (Fn.func 138) [] [], D.fn (Fn.func 139) [] [], D.fn (Fn.func 140) [] [], D.nilf, D.nilf, D.fn (Fn.func 141) [] [], D.fn (Fn.func 142) [] []]) 0 (D.fn (Fn.func 138) [] []) rfl, tT, .inl, tT, .get ([D.fn (Fn.func 175) [] [], D.fn (Fn.func 175) [] [], D.fn (Fn.func 176) [] [], D.fn (Fn.func 180) [] [], D.fn (Fn.func 175) [] [], D.fn (Fn.func 175) [] [], D.fn (Fn.func 179) [] [], D.fn (Fn.func 179) [] [], D.fn (Fn.func 177) [] [], D.fn (Fn.func 181) [] [], D.fn (Fn.func 175) [] [], D.fn (Fn.func 178) [] [], D.fn (Fn.func 179) [] []]) 9 (D.fn (Fn.func 181) [] []) rfl, .inl, .inl]
 cases byReg
 ·by_cases h0 : IntKind.wrap IntKind.u64 (IntKind.wrap IntKind.u64 imm * 1) = 0
  ·have c1 := @l_take_ok 0 dst
   have c2 := @l_steps_ok ([(irD 1 0 0 0 0 0 0 0 0 dst 0 0 0)])
   have c3 := @l_short64_ok 0 9 0 false dst src 0 imm
   have c4 := @l_give_ok dst 0
   exact (o87 (d := .lst (.fresh 13) 13 [(irD 1 0 0 0 0 0 0 0 0 dst 0 0 0), (irD 2 0 0 0 0 0 0 0 0 dst 0 0 0)]) (E1 ++ List.replicate 11 tT ++ [tC (eqI 0 true h0), .ret _ _ _ c1, .ret _ _ _ c2, .ret _ _ _ c3, .len 1 2147483648 (by decide), .ret _ _ _ c4, .len 2 2147483648 (by decide)]) (by kernel_rfl)).to (by clear E1; (try simp only [IntKind.bits, and31, and63, and32, wrap_mod32, wrap_mod64] at *); simp [wk, wkL, wkO, stepsM, aluM, regOp, immOp, zeroImm, takeD, giveD, two, num, cmov, irD, h0]; try ((try simp only [w_u64, w_i64, and32, IntKind.bits, Int.mul_one] at *); omega))
  have c5 := @l_take_ok 11 dst
  have c6 := @l_give_ok dst 2
  have c7 := @l_take_ok 0 dst
  have c8 := @l_steps_ok ([(irD 1 0 0 0 0 0 0 0 0 dst 0 0 0)])
  have c9 := @l_num_ok 1 64 1 imm
  have c10 := @l_num_ok 1 32 2 0
  have c11 := @l_one_ok 24 64 1
  exact (o87 (d := .lst (.fresh 13) 13 [(irD 1 0 0 0 0 0 0 0 0 dst 0 0 0), (irD 0 1 64 1 0 0 0 imm 0 0 0 0 0), (irD 0 1 32 2 0 0 0 0 0 0 0 0 0), (irD 0 24 64 1 0 0 0 0 0 0 0 0 0), (irD 2 0 0 0 0 0 0 0 0 dst 2 0 0)]) (E1 ++ List.replicate 11 tT ++ [tC (neOf h0), .ret _ _ _ c5, .inl, .ret _ _ _ c6, .ret _ _ _ c7, .ret _ _ _ c8, tT, .ret _ _ _ c9, .ret _ _ _ c10, .ret _ _ _ c11, .len 5 2147483648 (by decide)]) (by kernel_rfl)).to (by clear E1; (try simp only [IntKind.bits, and31, and63, and32, wrap_mod32, wrap_mod64] at *); simp [wk, wkL, wkO, stepsM, aluM, regOp, immOp, zeroImm, takeD, giveD, two, num, cmov, irD, h0]; try ((try simp only [w_u64, w_i64, and32, IntKind.bits, Int.mul_one] at *); omega))
 have c12 := @l_take_ok 11 dst
 have c13 := @l_give_ok dst 2
 have c14 := @l_take_ok 0 dst
 have c15 := @l_steps_ok ([(irD 1 0 0 0 0 0 0 0 0 dst 0 0 0)])
 have c16 := @l_take_ok 1 src
 have c17 := @l_num_ok 1 32 2 0
 have c18 := @l_num_ok 1 32 11 1
 have c19 := @l_choose_ok 64 1
 have c20 := @l_one_ok 24 64 1
 have c21 := @l_take_ok 1 src
 have c22 := @l_choose_ok 64 2
 exact (o87 (d := .lst (.fresh 13) 13 [(irD 1 0 0 0 0 0 0 0 0 dst 0 0 0), (irD 1 0 0 0 0 0 0 0 0 src 1 0 0), (irD 0 1 32 2 0 0 0 0 0 0 0 0 0), (irD 0 1 32 11 0 0 0 1 0 0 0 0 0), (irD 0 8 64 1 1 0 0 0 0 0 0 0 0), (irD 0 25 64 1 11 0 0 0 4 0 0 0 0), (irD 0 24 64 1 0 0 0 0 0 0 0 0 0), (irD 1 0 0 0 0 0 0 0 0 src 1 0 0), (irD 1 0 0 0 0 0 0 0 0 dst 11 0 0), (irD 0 8 64 1 1 0 0 0 0 0 0 0 0), (irD 0 25 64 2 11 0 0 0 4 0 0 0 0), (irD 2 0 0 0 0 0 0 0 0 dst 2 0 0)]) (E1 ++ List.replicate 11 tF ++ [.ret _ _ _ c12, .inl, .ret _ _ _ c13, .ret _ _ _ c14, .ret _ _ _ c15, tF, .ret _ _ _ c16, .ret _ _ _ c17, .ret _ _ _ c18, .len 4 2147483648 (by decide), .ret _ _ _ c19, .len 6 2147483648 (by decide), .ret _ _ _ c20, .ret _ _ _ c21, .len 9 2147483648 (by decide), .ret _ _ _ c22, .len 11 2147483648 (by decide), .len 12 2147483648 (by decide)]) (by kernel_rfl)).to (by clear E1; (try simp only [IntKind.bits, and31, and63, and32, wrap_mod32, wrap_mod64] at *); simp [wk, wkL, wkO, stepsM, aluM, regOp, immOp, zeroImm, takeD, giveD, two, num, cmov, irD, ]; try ((try simp only [w_u64, w_i64, and32, IntKind.bits, Int.mul_one] at *); omega))
theorem does_0_10_32_ok (byReg : Bool) (dst src imm : Int) (hi1 : -2147483648 ≤ imm) (hi2 : imm ≤ 2147483647) : Ret Tryz.prog 87 ([instD 0 10 32 0 byReg dst src 0 imm]) (.lst .no 13 (stepsM 0 10 32 0 byReg dst src 0 imm)) := by
 let E1 : EL := [tT, .get ([D.fn (Fn.func 138) [] [], D.fn (Fn.func 139) [] [], D.fn (Fn.func 140) [] [], D.nilf, D.nilf, D.fn (Fn.func 141) [] [], D.fn (Fn.func 142) [] []]) 0 (D.fn (Fn.func 138) [] []) rfl, tT, .inl, tT, .get ([D.fn (Fn.func 175) [] [], D.fn (Fn.func 175) [] [], D.fn (Fn.func 176) [] [], D.fn (Fn.func 180) [] [], D.fn (Fn.func 175) [] [], D.fn (Fn.func 175) [] [], D.fn (Fn.func 179) [] [], D.fn (Fn.func 179) [] [], D.fn (Fn.func 177) [] [], D.fn (Fn.func 181) [] [], D.fn (Fn.func 175) [] [], D.fn (Fn.func 178) [] [], D.fn (Fn.func 179) [] []]) 10 (D.fn (Fn.func 175) [] []) rfl, .inl, .inl, tT]
 cases byReg
 ·have c0 := @l_take_ok 0 dst
  have c1 := @l_num_ok 13 32 0 imm
  have c2 := @l_give_ok dst 0
  have c3 := @l_steps_ok ([(irD 1 0 0 0 0 0 0 0 0 dst 0 0 0), (irD 0 13 32 0 0 0 0 imm 0 0 0 0 0), (irD 2 0 0 0 0 0 0 0 0 dst 0 0 0)])
  exact (o87 (d := .lst .tight 13 [(irD 1 0 0 0 0 0 0 0 0 dst 0 0 0), (irD 0 13 32 0 0 0 0 imm 0 0 0 0 0), (irD 2 0 0 0 0 0 0 0 0 dst 0 0 0)]) (E1 ++ [.get tab_StepsL_0 20 (.int .i8 6) rfl, tT, .get tab_StepsL_0 21 (.int .i8 13) rfl, tF, .ret _ _ _ c0, .ret _ _ _ c1, .ret _ _ _ c2, .ret _ _ _ c3]) (by kernel_rfl)).to (by clear E1; (try simp only [IntKind.bits, and31, and63, and32, wrap_mod32, wrap_mod64] at *); simp [wk, wkL, wkO, stepsM, aluM, regOp, immOp, zeroImm, takeD, giveD, two, num, cmov, irD, ]; try ((try simp only [w_u64, w_i64, and32, IntKind.bits, Int.mul_one] at *); omega))
 have c4 := @l_take_ok 0 dst
 have c5 := @l_take_ok 1 src
 have c6 := @l_two_ok 6 32 0 1
 have c7 := @l_give_ok dst 0
 have c8 := @l_steps_ok ([(irD 1 0 0 0 0 0 0 0 0 dst 0 0 0), (irD 1 0 0 0 0 0 0 0 0 src 1 0 0), (irD 0 6 32 0 1 0 0 0 0 0 0 0 0), (irD 2 0 0 0 0 0 0 0 0 dst 0 0 0)])
 exact (o87 (d := .lst .tight 13 [(irD 1 0 0 0 0 0 0 0 0 dst 0 0 0), (irD 1 0 0 0 0 0 0 0 0 src 1 0 0), (irD 0 6 32 0 1 0 0 0 0 0 0 0 0), (irD 2 0 0 0 0 0 0 0 0 dst 0 0 0)]) (E1 ++ [.get tab_StepsL_0 20 (.int .i8 6) rfl, tT, .get tab_StepsL_0 21 (.int .i8 13) rfl, tT, .ret _ _ _ c4, .ret _ _ _ c5, .ret _ _ _ c6, .ret _ _ _ c7, .ret _ _ _ c8]) (by kernel_rfl)).to (by clear E1; (try simp only [IntKind.bits, and31, and63, and32, wrap_mod32, wrap_mod64] at *); simp [wk, wkL, wkO, stepsM, aluM, regOp, immOp, zeroImm, takeD, giveD, two, num, cmov, irD, ]; try ((try simp only [w_u64, w_i64, and32, IntKind.bits, Int.mul_one] at *); omega))
theorem does_0_10_64_ok (byReg : Bool) (dst src imm : Int) (hi1 : -2147483648 ≤ imm) (hi2 : imm ≤ 2147483647) : Ret Tryz.prog 87 ([instD 0 10 64 0 byReg dst src 0 imm]) (.lst .no 13 (stepsM 0 10 64 0 byReg dst src 0 imm)) := by
 let E1 : EL := [tT, .get ([D.fn (Fn.func 138) [] [], D.fn (Fn.func 139) [] [], D.fn (Fn.func 140) [] [], D.nilf, D.nilf, D.fn (Fn.func 141) [] [], D.fn (Fn.func 142) [] []]) 0 (D.fn (Fn.func 138) [] []) rfl, tT, .inl, tT, .get ([D.fn (Fn.func 175) [] [], D.fn (Fn.func 175) [] [], D.fn (Fn.func 176) [] [], D.fn (Fn.func 180) [] [], D.fn (Fn.func 175) [] [], D.fn (Fn.func 175) [] [], D.fn (Fn.func 179) [] [], D.fn (Fn.func 179) [] [], D.fn (Fn.func 177) [] [], D.fn (Fn.func 181) [] [], D.fn (Fn.func 175) [] [], D.fn (Fn.func 178) [] [], D.fn (Fn.func 179) [] []]) 10 (D.fn (Fn.func 175) [] []) rfl, .inl, .inl, tT]
 cases byReg
 ·have c0 := @l_take_ok 0 dst
  have c1 := @l_num_ok 13 64 0 imm
  have c2 := @l_give_ok dst 0
  have c3 := @l_steps_ok ([(irD 1 0 0 0 0 0 0 0 0 dst 0 0 0), (irD 0 13 64 0 0 0 0 imm 0 0 0 0 0), (irD 2 0 0 0 0 0 0 0 0 dst 0 0 0)])
  exact (o87 (d := .lst .tight 13 [(irD 1 0 0 0 0 0 0 0 0 dst 0 0 0), (irD 0 13 64 0 0 0 0 imm 0 0 0 0 0), (irD 2 0 0 0 0 0 0 0 0 dst 0 0 0)]) (E1 ++ [.get tab_StepsL_0 20 (.int .i8 6) rfl, tT, .get tab_StepsL_0 21 (.int .i8 13) rfl, tF, .ret _ _ _ c0, .ret _ _ _ c1, .ret _ _ _ c2, .ret _ _ _ c3]) (by kernel_rfl)).to (by clear E1; (try simp only [IntKind.bits, and31, and63, and32, wrap_mod32, wrap_mod64] at *); simp [wk, wkL, wkO, stepsM, aluM, regOp, immOp, zeroImm, takeD, giveD, two, num, cmov, irD, ]; try ((try simp only [w_u64, w_i64, and32, IntKind.bits, Int.mul_one] at *); omega))
 have c4 := @l_take_ok 0 dst
 have c5 := @l_take_ok 1 src
 have c6 := @l_two_ok 6 64 0 1
 have c7 := @l_give_ok dst 0
 have c8 := @l_steps_ok ([(irD 1 0 0 0 0 0 0 0 0 dst 0 0 0), (irD 1 0 0 0 0 0 0 0 0 src 1 0 0), (irD 0 6 64 0 1 0 0 0 0 0 0 0 0), (irD 2 0 0 0 0 0 0 0 0 dst 0 0 0)])
 exact (o87 (d := .lst .tight 13 [(irD 1 0 0 0 0 0 0 0 0 dst 0 0 0), (irD 1 0 0 0 0 0 0 0 0 src 1 0 0), (irD 0 6 64 0 1 0 0 0 0 0 0 0 0), (irD 2 0 0 0 0 0 0 0 0 dst 0 0 0)]) (E1 ++ [.get tab_StepsL_0 20 (.int .i8 6) rfl, tT, .get tab_StepsL_0 21 (.int .i8 13) rfl, tT, .ret _ _ _ c4, .ret _ _ _ c5, .ret _ _ _ c6, .ret _ _ _ c7, .ret _ _ _ c8]) (by kernel_rfl)).to (by clear E1; (try simp only [IntKind.bits, and31, and63, and32, wrap_mod32, wrap_mod64] at *); simp [wk, wkL, wkO, stepsM, aluM, regOp, immOp, zeroImm, takeD, giveD, two, num, cmov, irD, ]; try ((try simp only [w_u64, w_i64, and32, IntKind.bits, Int.mul_one] at *); omega))
theorem does_0_11_32_ok (byReg : Bool) (dst src imm : Int) (hi1 : -2147483648 ≤ imm) (hi2 : imm ≤ 2147483647) : Ret Tryz.prog 87 ([instD 0 11 32 0 byReg dst src 0 imm]) (.lst .no 13 (stepsM 0 11 32 0 byReg dst src 0 imm)) := by
 let E1 : EL := [tT, .get ([D.fn (Fn.func 138) [] [], D.fn (Fn.func 139) [] [], D.fn (Fn.func 140) [] [], D.nilf, D.nilf, D.fn (Fn.func 141) [] [], D.fn (Fn.func 142) [] []]) 0 (D.fn (Fn.func 138) [] []) rfl, tT, .inl, tT, .get ([D.fn (Fn.func 175) [] [], D.fn (Fn.func 175) [] [], D.fn (Fn.func 176) [] [], D.fn (Fn.func 180) [] [], D.fn (Fn.func 175) [] [], D.fn (Fn.func 175) [] [], D.fn (Fn.func 179) [] [], D.fn (Fn.func 179) [] [], D.fn (Fn.func 177) [] [], D.fn (Fn.func 181) [] [], D.fn (Fn.func 175) [] [], D.fn (Fn.func 178) [] [], D.fn (Fn.func 179) [] []]) 11 (D.fn (Fn.func 178) [] []) rfl, .inl]
 cases byReg
 ·have c0 := @l_num_ok 1 32 0 imm
  have c1 := @l_give_ok dst 0
  have c2 := @l_steps_ok ([(irD 0 1 32 0 0 0 0 imm 0 0 0 0 0), (irD 2 0 0 0 0 0 0 0 0 dst 0 0 0)])
  exact (o87 (d := .lst .tight 13 [(irD 0 1 32 0 0 0 0 imm 0 0 0 0 0), (irD 2 0 0 0 0 0 0 0 0 dst 0 0 0)]) (E1 ++ [tT, .ret _ _ _ c0, .ret _ _ _ c1, .ret _ _ _ c2]) (by kernel_rfl)).to (by clear E1; (try simp only [IntKind.bits, and31, and63, and32, wrap_mod32, wrap_mod64] at *); simp [wk, wkL, wkO, stepsM, aluM, regOp, immOp, zeroImm, takeD, giveD, two, num, cmov, irD, ]; try ((try simp only [w_u64, w_i64, and32, IntKind.bits, Int.mul_one] at *); omega))
 have c3 := @l_take_ok 0 src
 have c4 := @l_steps_ok ([(irD 1 0 0 0 0 0 0 0 0 src 0 0 0)])
 have c5 := @l_short32_ok 0 11 0 true dst src 0 imm
 have c6 := @l_give_ok dst 0
 exact (o87 (d := .lst (.fresh 13) 13 [(irD 1 0 0 0 0 0 0 0 0 src 0 0 0), (irD 0 0 32 0 0 0 0 0 0 0 0 0 0), (irD 2 0 0 0 0 0 0 0 0 dst 0 0 0)]) (E1 ++ [tF, .ret _ _ _ c3, .ret _ _ _ c4, .ret _ _ _ c5, .len 2 2147483648 (by decide), .ret _ _ _ c6, .len 3 2147483648 (by decide)]) (by kernel_rfl)).to (by clear E1; (try simp only [IntKind.bits, and31, and63, and32, wrap_mod32, wrap_mod64] at *); simp [wk, wkL, wkO, stepsM, aluM, regOp, immOp, zeroImm, takeD, giveD, two, num, cmov, irD, ]; try ((try simp only [w_u64, w_i64, and32, IntKind.bits, Int.mul_one] at *); omega))
theorem does_0_11_64_ok (byReg : Bool) (dst src imm : Int) (hi1 : -2147483648 ≤ imm) (hi2 : imm ≤ 2147483647) : Ret Tryz.prog 87 ([instD 0 11 64 0 byReg dst src 0 imm]) (.lst .no 13 (stepsM 0 11 64 0 byReg dst src 0 imm)) := by
 let E1 : EL := [tT, .get ([D.fn (Fn.func 138) [] [], D.fn (Fn.func 139) [] [], D.fn (Fn.func 140) [] [], D.nilf, D.nilf, D.fn (Fn.func 141) [] [], D.fn (Fn.func 142) [] []]) 0 (D.fn (Fn.func 138) [] []) rfl, tT, .inl, tT, .get ([D.fn (Fn.func 175) [] [], D.fn (Fn.func 175) [] [], D.fn (Fn.func 176) [] [], D.fn (Fn.func 180) [] [], D.fn (Fn.func 175) [] [], D.fn (Fn.func 175) [] [], D.fn (Fn.func 179) [] [], D.fn (Fn.func 179) [] [], D.fn (Fn.func 177) [] [], D.fn (Fn.func 181) [] [], D.fn (Fn.func 175) [] [], D.fn (Fn.func 178) [] [], D.fn (Fn.func 179) [] []]) 11 (D.fn (Fn.func 178) [] []) rfl, .inl]
 cases byReg
 ·have c0 := @l_num_ok 1 64 0 imm
  have c1 := @l_give_ok dst 0
  have c2 := @l_steps_ok ([(irD 0 1 64 0 0 0 0 imm 0 0 0 0 0), (irD 2 0 0 0 0 0 0 0 0 dst 0 0 0)])
  exact (o87 (d := .lst .tight 13 [(irD 0 1 64 0 0 0 0 imm 0 0 0 0 0), (irD 2 0 0 0 0 0 0 0 0 dst 0 0 0)]) (E1 ++ [tT, .ret _ _ _ c0, .ret _ _ _ c1, .ret _ _ _ c2]) (by kernel_rfl)).to (by clear E1; (try simp only [IntKind.bits, and31, and63, and32, wrap_mod32, wrap_mod64] at *); simp [wk, wkL, wkO, stepsM, aluM, regOp, immOp, zeroImm, takeD, giveD, two, num, cmov, irD, ]; try ((try simp only [w_u64, w_i64, and32, IntKind.bits, Int.mul_one] at *); omega))
 have c3 := @l_take_ok 0 src
 have c4 := @l_steps_ok ([(irD 1 0 0 0 0 0 0 0 0 src 0 0 0)])
 have c5 := @l_short64_ok 0 11 0 true dst src 0 imm
 have c6 := @l_give_ok dst 0
 exact (o87 (d := .lst (.fresh 13) 13 [(irD 1 0 0 0 0 0 0 0 0 src 0 0 0), (irD 2 0 0 0 0 0 0 0 0 dst 0 0 0)]) (E1 ++ [tF, .ret _ _ _ c3, .ret _ _ _ c4, .ret _ _ _ c5, .len 1 2147483648 (by decide), .ret _ _ _ c6, .len 2 2147483648 (by decide)]) (by kernel_rfl)).to (by clear E1; (try simp only [IntKind.bits, and31, and63, and32, wrap_mod32, wrap_mod64] at *); simp [wk, wkL, wkO, stepsM, aluM, regOp, immOp, zeroImm, takeD, giveD, two, num, cmov, irD, ]; try ((try simp only [w_u64, w_i64, and32, IntKind.bits, Int.mul_one] at *); omega))
theorem does_0_12_32_ok (byReg : Bool) (dst src imm : Int) (hi1 : -2147483648 ≤ imm) (hi2 : imm ≤ 2147483647) : Ret Tryz.prog 87 ([instD 0 12 32 0 byReg dst src 0 imm]) (.lst .no 13 (stepsM 0 12 32 0 byReg dst src 0 imm)) := by
 let E1 : EL := [tT, .get ([D.fn (Fn.func 138) [] [], D.fn (Fn.func 139) [] [], D.fn (Fn.func 140) [] [], D.nilf, D.nilf, D.fn (Fn.func 141) [] [], D.fn (Fn.func 142) [] []]) 0 (D.fn (Fn.func 138) [] []) rfl, tT, .inl, tT, .get ([D.fn (Fn.func 175) [] [], D.fn (Fn.func 175) [] [], D.fn (Fn.func 176) [] [], D.fn (Fn.func 180) [] [], D.fn (Fn.func 175) [] [], D.fn (Fn.func 175) [] [], D.fn (Fn.func 179) [] [], D.fn (Fn.func 179) [] [], D.fn (Fn.func 177) [] [], D.fn (Fn.func 181) [] [], D.fn (Fn.func 175) [] [], D.fn (Fn.func 178) [] [], D.fn (Fn.func 179) [] []]) 12 (D.fn (Fn.func 179) [] []) rfl, .inl, .inl, tT]
 cases byReg
 ·have c0 := @l_take_ok 0 dst
  have c1 := @l_num_ok 19 32 0 (IntKind.wrap IntKind.i64 (↑(BitVec.toNat (BitVec.ofInt (64 : Nat) imm &&& BitVec.ofInt (64 : Nat) 31)) : Int))
  have c2 := @l_give_ok dst 0
  have c3 := @l_steps_ok ([(irD 1 0 0 0 0 0 0 0 0 dst 0 0 0), (irD 0 19 32 0 0 0 0 (IntKind.wrap IntKind.i64 (↑(BitVec.toNat (BitVec.ofInt (64 : Nat) imm &&& BitVec.ofInt (64 : Nat) 31)) : Int)) 0 0 0 0 0), (irD 2 0 0 0 0 0 0 0 0 dst 0 0 0)])
  exact (o87 (d := .lst .tight 13 [(irD 1 0 0 0 0 0 0 0 0 dst 0 0 0), (irD 0 19 32 0 0 0 0 (IntKind.wrap IntKind.i64 (↑(BitVec.toNat (BitVec.ofInt (64 : Nat) imm &&& BitVec.ofInt (64 : Nat) 31)) : Int)) 0 0 0 0 0), (irD 2 0 0 0 0 0 0 0 0 dst 0 0 0)]) (E1 ++ [.get tab_StepsL_0 24 (.int .i8 22) rfl, tT, .get tab_StepsL_0 25 (.int .i8 19) rfl, tF, .ret _ _ _ c0, .ret _ _ _ c1, .ret _ _ _ c2, .ret _ _ _ c3]) (by kernel_rfl)).to (by clear E1; (try simp only [IntKind.bits, and31, and63, and32, wrap_mod32, wrap_mod64] at *); simp [wk, wkL, wkO, stepsM, aluM, regOp, immOp, zeroImm, takeD, giveD, two, num, cmov, irD, ]; try ((try simp only [w_u64, w_i64, and32, IntKind.bits, Int.mul_one] at *); omega))
 have c4 := @l_take_ok 0 dst
 have c5 := @l_take_ok 1 src
 have c6 := @l_one_ok 22 32 0
 have c7 := @l_give_ok dst 0
 have c8 := @l_steps_ok ([(irD 1 0 0 0 0 0 0 0 0 dst 0 0 0), (irD 1 0 0 0 0 0 0 0 0 src 1 0 0), (irD 0 22 32 0 0 0 0 0 0 0 0 0 0), (irD 2 0 0 0 0 0 0 0 0 dst 0 0 0)])
 exact (o87 (d := .lst .tight 13 [(irD 1 0 0 0 0 0 0 0 0 dst 0 0 0), (irD 1 0 0 0 0 0 0 0 0 src 1 0 0), (irD 0 22 32 0 0 0 0 0 0 0 0 0 0), (irD 2 0 0 0 0 0 0 0 0 dst 0 0 0)]) (E1 ++ [.get tab_StepsL_0 24 (.int .i8 22) rfl, tT, .get tab_StepsL_0 25 (.int .i8 19) rfl, tT, .ret _ _ _ c4, .ret _ _ _ c5, .ret _ _ _ c6, .ret _ _ _ c7, .ret _ _ _ c8]) (by kernel_rfl)).to (by clear E1; (try simp only [IntKind.bits, and31, and63, and32, wrap_mod32, wrap_mod64] at *); simp [wk, wkL, wkO, stepsM, aluM, regOp, immOp, zeroImm, takeD, giveD, two, num, cmov, irD, ]; try ((try simp only [w_u64, w_i64, and32, IntKind.bits, Int.mul_one] at *); omega))
theorem does_0_12_64_ok (byReg : Bool) (dst src imm : Int) (hi1 : -2147483648 ≤ imm) (hi2 : imm ≤ 2147483647) : Ret Tryz.prog 87 ([instD 0 12 64 0 byReg dst src 0 imm]) (.lst .no 13 (stepsM 0 12 64 0 byReg dst src 0 imm)) := by
 let E1 : EL := [tT, .get ([D.fn (Fn.func 138) [] [], D.fn (Fn.func 139) [] [], D.fn (Fn.func 140) [] [], D.nilf, D.nilf, D.fn (Fn.func 141) [] [], D.fn (Fn.func 142) [] []]) 0 (D.fn (Fn.func 138) [] []) rfl, tT, .inl, tT, .get ([D.fn (Fn.func 175) [] [], D.fn (Fn.func 175) [] [], D.fn (Fn.func 176) [] [], D.fn (Fn.func 180) [] [], D.fn (Fn.func 175) [] [], D.fn (Fn.func 175) [] [], D.fn (Fn.func 179) [] [], D.fn (Fn.func 179) [] [], D.fn (Fn.func 177) [] [], D.fn (Fn.func 181) [] [], D.fn (Fn.func 175) [] [], D.fn (Fn.func 178) [] [], D.fn (Fn.func 179) [] []]) 12 (D.fn (Fn.func 179) [] []) rfl, .inl, .inl, tT]
 cases byReg
 ·have c0 := @l_take_ok 0 dst
  have c1 := @l_num_ok 19 64 0 (IntKind.wrap IntKind.i64 (↑(BitVec.toNat (BitVec.ofInt (64 : Nat) imm &&& BitVec.ofInt (64 : Nat) 63)) : Int))
  have c2 := @l_give_ok dst 0
  have c3 := @l_steps_ok ([(irD 1 0 0 0 0 0 0 0 0 dst 0 0 0), (irD 0 19 64 0 0 0 0 (IntKind.wrap IntKind.i64 (↑(BitVec.toNat (BitVec.ofInt (64 : Nat) imm &&& BitVec.ofInt (64 : Nat) 63)) : Int)) 0 0 0 0 0), (irD 2 0 0 0 0 0 0 0 0 dst 0 0 0)])
  exact (o87 (d := .lst .tight 13 [(irD 1 0 0 0 0 0 0 0 0 dst 0 0 0), (irD 0 19 64 0 0 0 0 (IntKind.wrap IntKind.i64 (↑(BitVec.toNat (BitVec.ofInt (64 : Nat) imm &&& BitVec.ofInt (64 : Nat) 63)) : Int)) 0 0 0 0 0), (irD 2 0 0 0 0 0 0 0 0 dst 0 0 0)]) (E1 ++ [.get tab_StepsL_0 24 (.int .i8 22) rfl, tT, .get tab_StepsL_0 25 (.int .i8 19) rfl, tF, .ret _ _ _ c0, .ret _ _ _ c1, .ret _ _ _ c2, .ret _ _ _ c3]) (by kernel_rfl)).to (by clear E1; (try simp only [IntKind.bits, and31, and63, and32, wrap_mod32, wrap_mod64] at *); simp [wk, wkL, wkO, stepsM, aluM, regOp, immOp, zeroImm, takeD, giveD, two, num, cmov, irD, ]; try ((try simp only [w_u64, w_i64, and32, IntKind.bits, Int.mul_one] at *); omega))
 have c4 := @l_take_ok 0 dst
 have c5 := @l_take_ok 1 src
 have c6 := @l_one_ok 22 64 0
 have c7 := @l_give_ok dst 0
 have c8 := @l_steps_ok ([(irD 1 0 0 0 0 0 0 0 0 dst 0 0 0), (irD 1 0 0 0 0 0 0 0 0 src 1 0 0), (irD 0 22 64 0 0 0 0 0 0 0 0 0 0), (irD 2 0 0 0 0 0 0 0 0 dst 0 0 0)])
 exact (o87 (d := .lst .tight 13 [(irD 1 0 0 0 0 0 0 0 0 dst 0 0 0), (irD 1 0 0 0 0 0 0 0 0 src 1 0 0), (irD 0 22 64 0 0 0 0 0 0 0 0 0 0), (irD 2 0 0 0 0 0 0 0 0 dst 0 0 0)]) (E1 ++ [.get tab_StepsL_0 24 (.int .i8 22) rfl, tT, .get tab_StepsL_0 25 (.int .i8 19) rfl, tT, .ret _ _ _ c4, .ret _ _ _ c5, .ret _ _ _ c6, .ret _ _ _ c7, .ret _ _ _ c8]) (by kernel_rfl)).to (by clear E1; (try simp only [IntKind.bits, and31, and63, and32, wrap_mod32, wrap_mod64] at *); simp [wk, wkL, wkO, stepsM, aluM, regOp, immOp, zeroImm, takeD, giveD, two, num, cmov, irD, ]; try ((try simp only [w_u64, w_i64, and32, IntKind.bits, Int.mul_one] at *); omega))
end Go.Proofs.YtojgmjfcfpclbaaGreat
