/- Contracts and plain laws that a statement's proof leans on (texts merged: May, MayR, Steps0, MdW, MdF2, MdE, MdP, MdS, ZJ1, ZJ1A). -/
import Derived.Test.YtojgmjfcfpclbaaGreatU04
set_option linter.unusedVariables false
set_option linter.unusedSimpArgs false
namespace Go.Proofs.YtojgmjfcfpclbaaGreat
open Go Go.Ev
set_option maxRecDepth 100000
set_option maxHeartbeats 8000000
theorem within64_ok (n a b : Int) : Ret Tryz.prog 125 ([.int .i64 n, .int .i64 a, .int .i64 b]) (.bool (decide (a ≤ n) && decide (n ≤ b))) := by
 rcases bft (decide (n ≥ a)) with h0 | h0
 ·exact (o125 (d := .bool (decide (n ≤ b))) [tC (eT h0), tC (eT h0), tC (eT h0), tC h0] (by kernel_rfl)).to (by (try simp only [sl0, wk, wkL, wkO, eqCells, eqCell] at *); simp [wk, wkL, wkO, eqCells, eqCell, *]; done)
 exact (o125 (d := .bool false) [tC (eT h0), tC (eT h0), tC (eT h0), tC h0] (by kernel_rfl)).to (by (try simp only [sl0, wk, wkL, wkO, eqCells, eqCell] at *); simp [wk, wkL, wkO, eqCells, eqCell, *]; done)
theorem instrMay_ok (kind op width size : Int) (byReg : Bool) (dst src off imm : Int) : Ret Tryz.prog 86 ([instD kind op width size byReg dst src off imm]) (.bool (mayM kind op width size byReg dst src off imm)) := by
 let E1 : EL := [.inl]
 rcases bft (decide (dst < 0)) with h0 | h0
 ·exact (o86 (d := .bool false) (E1 ++ List.replicate 3 (tC (eT (leL 0 h0))) ++ [tC (leL 0 h0), tF, tF, tF, tF, tT, tF, tF, tF, tF, tT, tF, tF, tF, tF, tT, tT]) (by kernel_rfl)).to (by clear E1; (try simp only [sl0, wk, wkL, wkO, eqCells, eqCell, mayM, mayRange, mayKind, sizedM] at *); simp [wk, wkL, wkO, eqCells, eqCell, mayM, mayRange, mayKind, sizedM, *]; omega)
 let E2 : EL := E1 ++ List.replicate 3 (tC (eT (leL 0 h0))) ++ [tC (leL 0 h0)]
 rcases bft (decide (dst < 11)) with h1 | h1
 ·let E3 : EL := E2 ++ List.replicate 3 (tC (eF (nt (leC 10 h1)))) ++ [.inl]
  rcases bft (decide (src < 0)) with h2 | h2
  ·exact (o86 (d := .bool false) (E3 ++ List.replicate 3 (tC (eT (leL 0 h2))) ++ [tC (leL 0 h2), tC (eF (nt (leC 10 h1))), tC (nt (leC 10 h1)), tF, tF, tF, tF, tT, tF, tF, tF, tF, tT, tT]) (by kernel_rfl)).to (by clear E1 E2 E3; (try simp only [sl0, wk, wkL, wkO, eqCells, eqCell, mayM, mayRange, mayKind, sizedM] at *); simp [wk, wkL, wkO, eqCells, eqCell, mayM, mayRange, mayKind, sizedM, *]; omega)
  let E4 : EL := E3 ++ List.replicate 3 (tC (eT (leL 0 h2))) ++ [tC (leL 0 h2), tC (eF (nt (leC 10 h1))), tC (nt (leC 10 h1))]
  rcases bft (decide (src < 11)) with h3 | h3
  ·let E5 : EL := E4 ++ List.replicate 3 (tC (eF (nt (leC 10 h3)))) ++ [.inl]
   rcases bft (decide (off < (-32768))) with h4 | h4
   ·exact (o86 (d := .bool false) (E5 ++ List.replicate 3 (tC (eT (leL (-32768) h4))) ++ [tC (leL (-32768) h4), tC (eF (nt (leC 10 h3))), tC (nt (leC 10 h3)), tF, tF, tF, tF, tT, tT]) (by kernel_rfl)).to (by clear E1 E2 E3 E4 E5; (try simp only [sl0, wk, wkL, wkO, eqCells, eqCell, mayM, mayRange, mayKind, sizedM] at *); simp [wk, wkL, wkO, eqCells, eqCell, mayM, mayRange, mayKind, sizedM, *]; omega)
   let E6 : EL := E5 ++ List.replicate 3 (tC (eT (leL (-32768) h4))) ++ [tC (leL (-32768) h4), tC (eF (nt (leC 10 h3))), tC (nt (leC 10 h3))]
   rcases bft (decide (off < 32768)) with h5 | h5
   ·let E7 : EL := E6 ++ List.replicate 3 (tC (eF (nt (leC 32767 h5)))) ++ [.inl]
    rcases bft (decide (imm < (-2147483648))) with h6 | h6
    ·exact (o86 (d := .bool false) (E7 ++ List.replicate 3 (tC (eT (leL (-2147483648) h6))) ++ [tC (leL (-2147483648) h6), tC (eF (nt (leC 32767 h5))), tC (nt (leC 32767 h5)), tT]) (by kernel_rfl)).to (by clear E1 E2 E3 E4 E5 E6 E7; (try simp only [sl0, wk, wkL, wkO, eqCells, eqCell, mayM, mayRange, mayKind, sizedM] at *); simp [wk, wkL, wkO, eqCells, eqCell, mayM, mayRange, mayKind, sizedM, *]; omega)
    let E8 : EL := E7 ++ List.replicate 3 (tC (eT (leL (-2147483648) h6))) ++ [tC (leL (-2147483648) h6), tC (eF (nt (leC 32767 h5))), tC (nt (leC 32767 h5))]
    rcases bft (decide (imm < 2147483648)) with h7 | h7
    ·let E9 : EL := E8 ++ [tC (nt (leC 2147483647 h7)), .inl]
     by_cases h8 : kind = 0
     ·subst h8
      let E10 : EL := E9 ++ [tT, .inl]
      rcases bft (decide (op < 0)) with h9 | h9
      ·let E11 : EL := E10 ++ List.replicate 3 (tC (eT (leL 0 h9))) ++ [tC (leL 0 h9)] ++ List.replicate 16 tF ++ [.inl]
       cases byReg
       ·exact (o86 (d := .bool false) (E11 ++ [tF, tF, tF, tF, tF, tF, tF]) (by kernel_rfl)).to (by clear E1 E2 E3 E4 E5 E6 E7 E8 E9 E10 E11; (try simp only [sl0, wk, wkL, wkO, eqCells, eqCell, mayM, mayRange, mayKind, sizedM] at *); simp [wk, wkL, wkO, eqCells, eqCell, mayM, mayRange, mayKind, sizedM, *]; omega)
       exact (o86 (d := .bool false) (E11 ++ [tT, tF, tF, tF, tF, tF, tF]) (by kernel_rfl)).to (by clear E1 E2 E3 E4 E5 E6 E7 E8 E9 E10 E11; (try simp only [sl0, wk, wkL, wkO, eqCells, eqCell, mayM, mayRange, mayKind, sizedM] at *); simp [wk, wkL, wkO, eqCells, eqCell, mayM, mayRange, mayKind, sizedM, *]; omega)
      let E12 : EL := E10 ++ List.replicate 3 (tC (eT (leL 0 h9))) ++ [tC (leL 0 h9)]
      rcases bft (decide (op < 13)) with h10 | h10
      ·let E13 : EL := E12 ++ List.replicate 4 (tC (eT (leC 12 h10)))
       by_cases h11 : width = 32
       ·subst h11
        let E14 : EL := E13 ++ [tF, tF, tF, tC (eT (leC 12 h10)), tT, tC (leC 12 h10), tT, tT, tT, tT]
        rcases bft (decide (dst < 10)) with h12 | h12
        ·let E15 : EL := E14 ++ List.replicate 4 (tC (eT h12))
         by_cases h13 : op = 8
         ·subst h13
          cases byReg
          ·by_cases h14 : imm = 0
           ·subst h14
            exact (o86 (d := .bool (eqCells [.int .i8 0, .int .i8 0, .int .i8 0, .int .i8 size, .bool false, .int .i8 0, .int .i8 src, .int .i64 off, .int .i64 0] [.int .i8 0, .int .i8 0, .int .i8 0, .int .i8 0, .bool false, .int .i8 0, .int .i8 0, .int .i64 0, .int .i64 0])) (E15 ++ List.replicate 9 tT ++ [tC (eT h12), tF, tC h12, .inl, tF, tT, tT, tT, tT, tT, .flat _ _ flat_Instr, tT]) (by kernel_rfl)).to (by clear E1 E2 E3 E4 E5 E6 E7 E8 E9 E10 E12 E13 E14 E15; (try simp only [sl0, wk, wkL, wkO, eqCells, eqCell, mayM, mayRange, mayKind, sizedM] at *); rw [Bool.eq_iff_iff]; simp [wk, wkL, wkO, eqCells, eqCell, mayM, mayRange, mayKind, sizedM, *]; omega)
           exact (o86 (d := .bool false) (E15 ++ List.replicate 9 tT ++ [tC (eT h12), tF, tC h12, .inl, tF] ++ List.replicate 5 (tC (eT (neOf h14))) ++ [tC (neOf h14)]) (by kernel_rfl)).to (by clear E1 E2 E3 E4 E5 E6 E7 E8 E9 E10 E12 E13 E14 E15; (try simp only [sl0, wk, wkL, wkO, eqCells, eqCell, mayM, mayRange, mayKind, sizedM] at *); simp [wk, wkL, wkO, eqCells, eqCell, mayM, mayRange, mayKind, sizedM, *]; done)
          exact (o86 (d := .bool false) (E15 ++ [tT, tT, tT, tT, tF, tF, tF, tT, tF, tC (eT h12), tF, tC h12, .inl, tT, tF, tF, tF, tF, tF, tF]) (by kernel_rfl)).to (by clear E1 E2 E3 E4 E5 E6 E7 E8 E9 E10 E12 E13 E14 E15; (try simp only [sl0, wk, wkL, wkO, eqCells, eqCell, mayM, mayRange, mayKind, sizedM] at *); simp [wk, wkL, wkO, eqCells, eqCell, mayM, mayRange, mayKind, sizedM, *]; done)
         let E16 : EL := E15 ++ List.replicate 5 (tC (eF (nt (neOf h13)))) ++ [tC (eT h12), tC (nt (neOf h13)), tC h12, .inl]
         cases byReg
         ·exact (o86 (d := .bool (eqCells [.int .i8 0, .int .i8 0, .int .i8 0, .int .i8 size, .bool false, .int .i8 0, .int .i8 src, .int .i64 off, .int .i64 0] [.int .i8 0, .int .i8 0, .int .i8 0, .int .i8 0, .bool false, .int .i8 0, .int .i8 0, .int .i64 0, .int .i64 0])) (E16 ++ [tF, tT, tT, tT, tT, tT, .flat _ _ flat_Instr, tT]) (by kernel_rfl)).to (by clear E1 E2 E3 E4 E5 E6 E7 E8 E9 E10 E12 E13 E14 E15 E16; (try simp only [sl0, wk, wkL, wkO, eqCells, eqCell, mayM, mayRange, mayKind, sizedM] at *); rw [Bool.eq_iff_iff]; simp [wk, wkL, wkO, eqCells, eqCell, mayM, mayRange, mayKind, sizedM, *]; omega)
         exact (o86 (d := .bool (eqCells [.int .i8 0, .int .i8 0, .int .i8 0, .int .i8 size, .bool false, .int .i8 0, .int .i8 0, .int .i64 off, .int .i64 imm] [.int .i8 0, .int .i8 0, .int .i8 0, .int .i8 0, .bool false, .int .i8 0, .int .i8 0, .int .i64 0, .int .i64 0])) (E16 ++ [tT, tT, tT, tT, tT, tT, .flat _ _ flat_Instr, tT]) (by kernel_rfl)).to (by clear E1 E2 E3 E4 E5 E6 E7 E8 E9 E10 E12 E13 E14 E15 E16; (try simp only [sl0, wk, wkL, wkO, eqCells, eqCell, mayM, mayRange, mayKind, sizedM] at *); rw [Bool.eq_iff_iff]; simp [wk, wkL, wkO, eqCells, eqCell, mayM, mayRange, mayKind, sizedM, *]; omega)
        cases byReg
        ·exact (o86 (d := .bool false) (E14 ++ List.replicate 5 (tC (eT h12)) ++ [tC h12, .inl, tF, tF, tF, tF, tF, tF, tF]) (by kernel_rfl)).to (by clear E1 E2 E3 E4 E5 E6 E7 E8 E9 E10 E12 E13 E14; (try simp only [sl0, wk, wkL, wkO, eqCells, eqCell, mayM, mayRange, mayKind, sizedM] at *); simp [wk, wkL, wkO, eqCells, eqCell, mayM, mayRange, mayKind, sizedM, *]; done)
        exact (o86 (d := .bool false) (E14 ++ List.replicate 5 (tC (eT h12)) ++ [tC h12, .inl, tT, tF, tF, tF, tF, tF, tF]) (by kernel_rfl)).to (by clear E1 E2 E3 E4 E5 E6 E7 E8 E9 E10 E12 E13 E14; (try simp only [sl0, wk, wkL, wkO, eqCells, eqCell, mayM, mayRange, mayKind, sizedM] at *); simp [wk, wkL, wkO, eqCells, eqCell, mayM, mayRange, mayKind, sizedM, *]; done)
       let E17 : EL := E13 ++ List.replicate 3 (tC (eF (neOf h11))) ++ [tC (eT (leC 12 h10)), tC (neOf h11), tC (leC 12 h10)]
       by_cases h15 : width = 64
       ·subst h15
        let E18 : EL := E17 ++ [tT, tT, tT, tT]
        rcases bft (decide (dst < 10)) with h16 | h16
        ·let E19 : EL := E18 ++ List.replicate 4 (tC (eT h16))
         by_cases h17 : op = 8
         ·subst h17
          cases byReg
          ·by_cases h18 : imm = 0
           ·subst h18
            exact (o86 (d := .bool (eqCells [.int .i8 0, .int .i8 0, .int .i8 0, .int .i8 size, .bool false, .int .i8 0, .int .i8 src, .int .i64 off, .int .i64 0] [.int .i8 0, .int .i8 0, .int .i8 0, .int .i8 0, .bool false, .int .i8 0, .int .i8 0, .int .i64 0, .int .i64 0])) (E19 ++ List.replicate 9 tT ++ [tC (eT h16), tF, tC h16, .inl, tF, tT, tT, tT, tT, tT, .flat _ _ flat_Instr, tT]) (by kernel_rfl)).to (by clear E1 E2 E3 E4 E5 E6 E7 E8 E9 E10 E12 E13 E17 E18 E19; (try simp only [sl0, wk, wkL, wkO, eqCells, eqCell, mayM, mayRange, mayKind, sizedM] at *); rw [Bool.eq_iff_iff]; simp [wk, wkL, wkO, eqCells, eqCell, mayM, mayRange, mayKind, sizedM, *]; omega)
           exact (o86 (d := .bool false) (E19 ++ List.replicate 9 tT ++ [tC (eT h16), tF, tC h16, .inl, tF] ++ List.replicate 5 (tC (eT (neOf h18))) ++ [tC (neOf h18)]) (by kernel_rfl)).to (by clear E1 E2 E3 E4 E5 E6 E7 E8 E9 E10 E12 E13 E17 E18 E19; (try simp only [sl0, wk, wkL, wkO, eqCells, eqCell, mayM, mayRange, mayKind, sizedM] at *); simp [wk, wkL, wkO, eqCells, eqCell, mayM, mayRange, mayKind, sizedM, *]; done)
          exact (o86 (d := .bool false) (E19 ++ [tT, tT, tT, tT, tF, tF, tF, tT, tF, tC (eT h16), tF, tC h16, .inl, tT, tF, tF, tF, tF, tF, tF]) (by kernel_rfl)).to (by clear E1 E2 E3 E4 E5 E6 E7 E8 E9 E10 E12 E13 E17 E18 E19; (try simp only [sl0, wk, wkL, wkO, eqCells, eqCell, mayM, mayRange, mayKind, sizedM] at *); simp [wk, wkL, wkO, eqCells, eqCell, mayM, mayRange, mayKind, sizedM, *]; done)
         let E20 : EL := E19 ++ List.replicate 5 (tC (eF (nt (neOf h17)))) ++ [tC (eT h16), tC (nt (neOf h17)), tC h16, .inl]
         cases byReg
         ·exact (o86 (d := .bool (eqCells [.int .i8 0, .int .i8 0, .int .i8 0, .int .i8 size, .bool false, .int .i8 0, .int .i8 src, .int .i64 off, .int .i64 0] [.int .i8 0, .int .i8 0, .int .i8 0, .int .i8 0, .bool false, .int .i8 0, .int .i8 0, .int .i64 0, .int .i64 0])) (E20 ++ [tF, tT, tT, tT, tT, tT, .flat _ _ flat_Instr, tT]) (by kernel_rfl)).to (by clear E1 E2 E3 E4 E5 E6 E7 E8 E9 E10 E12 E13 E17 E18 E19 E20; (try simp only [sl0, wk, wkL, wkO, eqCells, eqCell, mayM, mayRange, mayKind, sizedM] at *); rw [Bool.eq_iff_iff]; simp [wk, wkL, wkO, eqCells, eqCell, mayM, mayRange, mayKind, sizedM, *]; omega)
         exact (o86 (d := .bool (eqCells [.int .i8 0, .int .i8 0, .int .i8 0, .int .i8 size, .bool false, .int .i8 0, .int .i8 0, .int .i64 off, .int .i64 imm] [.int .i8 0, .int .i8 0, .int .i8 0, .int .i8 0, .bool false, .int .i8 0, .int .i8 0, .int .i64 0, .int .i64 0])) (E20 ++ [tT, tT, tT, tT, tT, tT, .flat _ _ flat_Instr, tT]) (by kernel_rfl)).to (by clear E1 E2 E3 E4 E5 E6 E7 E8 E9 E10 E12 E13 E17 E18 E19 E20; (try simp only [sl0, wk, wkL, wkO, eqCells, eqCell, mayM, mayRange, mayKind, sizedM] at *); rw [Bool.eq_iff_iff]; simp [wk, wkL, wkO, eqCells, eqCell, mayM, mayRange, mayKind, sizedM, *]; omega)
        cases byReg
        ·exact (o86 (d := .bool false) (E18 ++ List.replicate 5 (tC (eT h16)) ++ [tC h16, .inl, tF, tF, tF, tF, tF, tF, tF]) (by kernel_rfl)).to (by clear E1 E2 E3 E4 E5 E6 E7 E8 E9 E10 E12 E13 E17 E18; (try simp only [sl0, wk, wkL, wkO, eqCells, eqCell, mayM, mayRange, mayKind, sizedM] at *); simp [wk, wkL, wkO, eqCells, eqCell, mayM, mayRange, mayKind, sizedM, *]; done)
        exact (o86 (d := .bool false) (E18 ++ List.replicate 5 (tC (eT h16)) ++ [tC h16, .inl, tT, tF, tF, tF, tF, tF, tF]) (by kernel_rfl)).to (by clear E1 E2 E3 E4 E5 E6 E7 E8 E9 E10 E12 E13 E17 E18; (try simp only [sl0, wk, wkL, wkO, eqCells, eqCell, mayM, mayRange, mayKind, sizedM] at *); simp [wk, wkL, wkO, eqCells, eqCell, mayM, mayRange, mayKind, sizedM, *]; done)
       let E21 : EL := E17 ++ List.replicate 3 (tC (eT (neOf h15))) ++ [tC (neOf h15), tF, tF, tF, tF, tF, tF, .inl]
       cases byReg
       ·exact (o86 (d := .bool false) (E21 ++ [tF, tF, tF, tF, tF, tF, tF]) (by kernel_rfl)).to (by clear E1 E2 E3 E4 E5 E6 E7 E8 E9 E10 E12 E13 E17 E21; (try simp only [sl0, wk, wkL, wkO, eqCells, eqCell, mayM, mayRange, mayKind, sizedM] at *); simp [wk, wkL, wkO, eqCells, eqCell, mayM, mayRange, mayKind, sizedM, *]; done)
       exact (o86 (d := .bool false) (E21 ++ [tT, tF, tF, tF, tF, tF, tF]) (by kernel_rfl)).to (by clear E1 E2 E3 E4 E5 E6 E7 E8 E9 E10 E12 E13 E17 E21; (try simp only [sl0, wk, wkL, wkO, eqCells, eqCell, mayM, mayRange, mayKind, sizedM] at *); simp [wk, wkL, wkO, eqCells, eqCell, mayM, mayRange, mayKind, sizedM, *]; done)
      let E22 : EL := E12 ++ List.replicate 5 (tC (eT (leC 12 h10))) ++ [tC (leC 12 h10)] ++ List.replicate 10 tF ++ [.inl]
      cases byReg
      ·exact (o86 (d := .bool false) (E22 ++ [tF, tF, tF, tF, tF, tF, tF]) (by kernel_rfl)).to (by clear E1 E2 E3 E4 E5 E6 E7 E8 E9 E10 E12 E22; (try simp only [sl0, wk, wkL, wkO, eqCells, eqCell, mayM, mayRange, mayKind, sizedM] at *); simp [wk, wkL, wkO, eqCells, eqCell, mayM, mayRange, mayKind, sizedM, *]; omega)
      exact (o86 (d := .bool false) (E22 ++ [tT, tF, tF, tF, tF, tF, tF]) (by kernel_rfl)).to (by clear E1 E2 E3 E4 E5 E6 E7 E8 E9 E10 E12 E22; (try simp only [sl0, wk, wkL, wkO, eqCells, eqCell, mayM, mayRange, mayKind, sizedM] at *); simp [wk, wkL, wkO, eqCells, eqCell, mayM, mayRange, mayKind, sizedM, *]; omega)
     let E23 : EL := E9 ++ [tC (neOf h8)]
     by_cases h19 : kind = 1
     ·subst h19
      let E24 : EL := E23 ++ [tT, .inl]
      by_cases h20 : size = 1
      ·subst h20
       rcases bft (decide (dst < 10)) with h21 | h21
       ·exact (o86 (d := .bool (eqCells [.int .i8 1, .int .i8 op, .int .i8 width, .int .i8 0, .bool byReg, .int .i8 0, .int .i8 0, .int .i64 0, .int .i64 imm] [.int .i8 1, .int .i8 0, .int .i8 0, .int .i8 0, .bool false, .int .i8 0, .int .i8 0, .int .i64 0, .int .i64 0])) (E24 ++ [tF, tF, tT, tF, tF, tT, tF, tF, tT, tT, tT, tT, tT] ++ List.replicate 5 (tC (eT h21)) ++ [.flat _ _ flat_Instr, tC h21]) (by kernel_rfl)).to (by clear E1 E2 E3 E4 E5 E6 E7 E8 E9 E23 E24; (try simp only [sl0, wk, wkL, wkO, eqCells, eqCell, mayM, mayRange, mayKind, sizedM] at *); rw [Bool.eq_iff_iff]; simp [wk, wkL, wkO, eqCells, eqCell, mayM, mayRange, mayKind, sizedM, *]; grind)
       exact (o86 (d := .bool false) (E24 ++ [tF, tF, tT, tF, tF, tT, tF, tF, tT, tT, tT, tT, tT] ++ List.replicate 5 (tC (eT h21)) ++ [tC h21]) (by kernel_rfl)).to (by clear E1 E2 E3 E4 E5 E6 E7 E8 E9 E23 E24; (try simp only [sl0, wk, wkL, wkO, eqCells, eqCell, mayM, mayRange, mayKind, sizedM] at *); simp [wk, wkL, wkO, eqCells, eqCell, mayM, mayRange, mayKind, sizedM, *]; done)
      let E25 : EL := E24 ++ [tC (eF (neOf h20)), tC (eF (neOf h20)), tC (neOf h20)]
      by_cases h22 : size = 2
      ·subst h22
       rcases bft (decide (dst < 10)) with h23 | h23
       ·exact (o86 (d := .bool (eqCells [.int .i8 1, .int .i8 op, .int .i8 width, .int .i8 0, .bool byReg, .int .i8 0, .int .i8 0, .int .i64 0, .int .i64 imm] [.int .i8 1, .int .i8 0, .int .i8 0, .int .i8 0, .bool false, .int .i8 0, .int .i8 0, .int .i64 0, .int .i64 0])) (E25 ++ [tF, tF, tT, tF, tF, tT, tT, tT, tT, tT] ++ List.replicate 5 (tC (eT h23)) ++ [.flat _ _ flat_Instr, tC h23]) (by kernel_rfl)).to (by clear E1 E2 E3 E4 E5 E6 E7 E8 E9 E23 E24 E25; (try simp only [sl0, wk, wkL, wkO, eqCells, eqCell, mayM, mayRange, mayKind, sizedM] at *); rw [Bool.eq_iff_iff]; simp [wk, wkL, wkO, eqCells, eqCell, mayM, mayRange, mayKind, sizedM, *]; grind)
       exact (o86 (d := .bool false) (E25 ++ [tF, tF, tT, tF, tF, tT, tT, tT, tT, tT] ++ List.replicate 5 (tC (eT h23)) ++ [tC h23]) (by kernel_rfl)).to (by clear E1 E2 E3 E4 E5 E6 E7 E8 E9 E23 E24 E25; (try simp only [sl0, wk, wkL, wkO, eqCells, eqCell, mayM, mayRange, mayKind, sizedM] at *); simp [wk, wkL, wkO, eqCells, eqCell, mayM, mayRange, mayKind, sizedM, *]; done)
      let E26 : EL := E25 ++ [tC (eF (neOf h22)), tC (eF (neOf h22)), tC (neOf h22)]
      by_cases h24 : size = 4
      ·subst h24
       rcases bft (decide (dst < 10)) with h25 | h25
       ·exact (o86 (d := .bool (eqCells [.int .i8 1, .int .i8 op, .int .i8 width, .int .i8 0, .bool byReg, .int .i8 0, .int .i8 0, .int .i64 0, .int .i64 imm] [.int .i8 1, .int .i8 0, .int .i8 0, .int .i8 0, .bool false, .int .i8 0, .int .i8 0, .int .i64 0, .int .i64 0])) (E26 ++ [tF, tF, tT, tT, tT, tT, tT] ++ List.replicate 5 (tC (eT h25)) ++ [.flat _ _ flat_Instr, tC h25]) (by kernel_rfl)).to (by clear E1 E2 E3 E4 E5 E6 E7 E8 E9 E23 E24 E25 E26; (try simp only [sl0, wk, wkL, wkO, eqCells, eqCell, mayM, mayRange, mayKind, sizedM] at *); rw [Bool.eq_iff_iff]; simp [wk, wkL, wkO, eqCells, eqCell, mayM, mayRange, mayKind, sizedM, *]; grind)
       exact (o86 (d := .bool false) (E26 ++ [tF, tF, tT, tT, tT, tT, tT] ++ List.replicate 5 (tC (eT h25)) ++ [tC h25]) (by kernel_rfl)).to (by clear E1 E2 E3 E4 E5 E6 E7 E8 E9 E23 E24 E25 E26; (try simp only [sl0, wk, wkL, wkO, eqCells, eqCell, mayM, mayRange, mayKind, sizedM] at *); simp [wk, wkL, wkO, eqCells, eqCell, mayM, mayRange, mayKind, sizedM, *]; done)
      let E27 : EL := E26 ++ [tC (eF (neOf h24)), tC (eF (neOf h24)), tC (neOf h24)]
      by_cases h26 : size = 8
      ·subst h26
       rcases bft (decide (dst < 10)) with h27 | h27
       ·exact (o86 (d := .bool (eqCells [.int .i8 1, .int .i8 op, .int .i8 width, .int .i8 0, .bool byReg, .int .i8 0, .int .i8 0, .int .i64 0, .int .i64 imm] [.int .i8 1, .int .i8 0, .int .i8 0, .int .i8 0, .bool false, .int .i8 0, .int .i8 0, .int .i64 0, .int .i64 0])) (E27 ++ [tT, tT, tT, tT] ++ List.replicate 5 (tC (eT h27)) ++ [.flat _ _ flat_Instr, tC h27]) (by kernel_rfl)).to (by clear E1 E2 E3 E4 E5 E6 E7 E8 E9 E23 E24 E25 E26 E27; (try simp only [sl0, wk, wkL, wkO, eqCells, eqCell, mayM, mayRange, mayKind, sizedM] at *); rw [Bool.eq_iff_iff]; simp [wk, wkL, wkO, eqCells, eqCell, mayM, mayRange, mayKind, sizedM, *]; grind)
       exact (o86 (d := .bool false) (E27 ++ [tT, tT, tT, tT] ++ List.replicate 5 (tC (eT h27)) ++ [tC h27]) (by kernel_rfl)).to (by clear E1 E2 E3 E4 E5 E6 E7 E8 E9 E23 E24 E25 E26 E27; (try simp only [sl0, wk, wkL, wkO, eqCells, eqCell, mayM, mayRange, mayKind, sizedM] at *); simp [wk, wkL, wkO, eqCells, eqCell, mayM, mayRange, mayKind, sizedM, *]; done)
      exact (o86 (d := .bool false) (E27 ++ List.replicate 3 (tC (eT (neOf h26))) ++ [tC (neOf h26), tF, tF, tF, tF, tF, tF]) (by kernel_rfl)).to (by clear E1 E2 E3 E4 E5 E6 E7 E8 E9 E23 E24 E25 E26 E27; (try simp only [sl0, wk, wkL, wkO, eqCells, eqCell, mayM, mayRange, mayKind, sizedM] at *); simp [wk, wkL, wkO, eqCells, eqCell, mayM, mayRange, mayKind, sizedM, *]; done)
     let E28 : EL := E23 ++ [tC (neOf h19)]
     by_cases h28 : kind = 2
     ·subst h28
      by_cases h29 : size = 1
      ·subst h29
       exact (o86 (d := .bool (eqCells [.int .i8 2, .int .i8 op, .int .i8 width, .int .i8 0, .bool byReg, .int .i8 0, .int .i8 0, .int .i64 0, .int .i64 imm] [.int .i8 2, .int .i8 0, .int .i8 0, .int .i8 0, .bool false, .int .i8 0, .int .i8 0, .int .i64 0, .int .i64 0])) (E28 ++ [tT, .inl, tF, tF, tT, tF, tF, tT, tF, tF, tT, tT, tT, tT, tT, tT, .flat _ _ flat_Instr, tT]) (by kernel_rfl)).to (by clear E1 E2 E3 E4 E5 E6 E7 E8 E9 E23 E28; (try simp only [sl0, wk, wkL, wkO, eqCells, eqCell, mayM, mayRange, mayKind, sizedM] at *); rw [Bool.eq_iff_iff]; simp [wk, wkL, wkO, eqCells, eqCell, mayM, mayRange, mayKind, sizedM, *]; grind)
      let E29 : EL := E28 ++ [tT, .inl, tC (eF (neOf h29)), tC (eF (neOf h29)), tC (neOf h29)]
      by_cases h30 : size = 2
      ·subst h30
       exact (o86 (d := .bool (eqCells [.int .i8 2, .int .i8 op, .int .i8 width, .int .i8 0, .bool byReg, .int .i8 0, .int .i8 0, .int .i64 0, .int .i64 imm] [.int .i8 2, .int .i8 0, .int .i8 0, .int .i8 0, .bool false, .int .i8 0, .int .i8 0, .int .i64 0, .int .i64 0])) (E29 ++ [tF, tF, tT, tF, tF, tT, tT, tT, tT, tT, tT, .flat _ _ flat_Instr, tT]) (by kernel_rfl)).to (by clear E1 E2 E3 E4 E5 E6 E7 E8 E9 E23 E28 E29; (try simp only [sl0, wk, wkL, wkO, eqCells, eqCell, mayM, mayRange, mayKind, sizedM] at *); rw [Bool.eq_iff_iff]; simp [wk, wkL, wkO, eqCells, eqCell, mayM, mayRange, mayKind, sizedM, *]; grind)
      let E30 : EL := E29 ++ [tC (eF (neOf h30)), tC (eF (neOf h30)), tC (neOf h30)]
      by_cases h31 : size = 4
      ·subst h31
       exact (o86 (d := .bool (eqCells [.int .i8 2, .int .i8 op, .int .i8 width, .int .i8 0, .bool byReg, .int .i8 0, .int .i8 0, .int .i64 0, .int .i64 imm] [.int .i8 2, .int .i8 0, .int .i8 0, .int .i8 0, .bool false, .int .i8 0, .int .i8 0, .int .i64 0, .int .i64 0])) (E30 ++ [tF, tF, tT, tT, tT, tT, tT, tT, .flat _ _ flat_Instr, tT]) (by kernel_rfl)).to (by clear E1 E2 E3 E4 E5 E6 E7 E8 E9 E23 E28 E29 E30; (try simp only [sl0, wk, wkL, wkO, eqCells, eqCell, mayM, mayRange, mayKind, sizedM] at *); rw [Bool.eq_iff_iff]; simp [wk, wkL, wkO, eqCells, eqCell, mayM, mayRange, mayKind, sizedM, *]; grind)
      by_cases h32 : size = 8
      ·subst h32
       exact (o86 (d := .bool (eqCells [.int .i8 2, .int .i8 op, .int .i8 width, .int .i8 0, .bool byReg, .int .i8 0, .int .i8 0, .int .i64 0, .int .i64 imm] [.int .i8 2, .int .i8 0, .int .i8 0, .int .i8 0, .bool false, .int .i8 0, .int .i8 0, .int .i64 0, .int .i64 0])) (E30 ++ [tC (eF (neOf h31)), tC (eF (neOf h31)), tC (neOf h31), tT, tT, tT, tT, tT, .flat _ _ flat_Instr, tT]) (by kernel_rfl)).to (by clear E1 E2 E3 E4 E5 E6 E7 E8 E9 E23 E28 E29 E30; (try simp only [sl0, wk, wkL, wkO, eqCells, eqCell, mayM, mayRange, mayKind, sizedM] at *); rw [Bool.eq_iff_iff]; simp [wk, wkL, wkO, eqCells, eqCell, mayM, mayRange, mayKind, sizedM, *]; grind)
      exact (o86 (d := .bool false) (E30 ++ [tC (eF (neOf h31)), tC (eF (neOf h31)), tC (neOf h31)] ++ List.replicate 5 (tC (eT (neOf h32))) ++ [tC (neOf h32)]) (by kernel_rfl)).to (by clear E1 E2 E3 E4 E5 E6 E7 E8 E9 E23 E28 E29 E30; (try simp only [sl0, wk, wkL, wkO, eqCells, eqCell, mayM, mayRange, mayKind, sizedM] at *); simp [wk, wkL, wkO, eqCells, eqCell, mayM, mayRange, mayKind, sizedM, *]; done)
     let E31 : EL := E28 ++ [tC (neOf h28)]
     by_cases h33 : kind = 3
     ·subst h33
      rcases bft (decide (op < 0)) with h34 | h34
      ·let E32 : EL := E31 ++ [tT, .inl] ++ List.replicate 3 (tC (eT (leL 0 h34))) ++ [tC (leL 0 h34), .inl]
       cases byReg
       ·exact (o86 (d := .bool false) (E32 ++ [tF, tF, tF, tF, tF, tF, tF]) (by kernel_rfl)).to (by clear E1 E2 E3 E4 E5 E6 E7 E8 E9 E23 E28 E31 E32; (try simp only [sl0, wk, wkL, wkO, eqCells, eqCell, mayM, mayRange, mayKind, sizedM] at *); simp [wk, wkL, wkO, eqCells, eqCell, mayM, mayRange, mayKind, sizedM, *]; omega)
       exact (o86 (d := .bool false) (E32 ++ [tT, tF, tF, tF, tF, tF, tF]) (by kernel_rfl)).to (by clear E1 E2 E3 E4 E5 E6 E7 E8 E9 E23 E28 E31 E32; (try simp only [sl0, wk, wkL, wkO, eqCells, eqCell, mayM, mayRange, mayKind, sizedM] at *); simp [wk, wkL, wkO, eqCells, eqCell, mayM, mayRange, mayKind, sizedM, *]; omega)
      let E33 : EL := E31 ++ [tT, .inl] ++ List.replicate 3 (tC (eT (leL 0 h34))) ++ [tC (leL 0 h34), .inl]
      cases byReg
      ·rcases bft (decide (op < 11)) with h35 | h35
       ·exact (o86 (d := .bool (eqCells [.int .i8 3, .int .i8 0, .int .i8 width, .int .i8 size, .bool false, .int .i8 0, .int .i8 src, .int .i64 0, .int .i64 0] [.int .i8 3, .int .i8 0, .int .i8 0, .int .i8 0, .bool false, .int .i8 0, .int .i8 0, .int .i64 0, .int .i64 0])) (E33 ++ [tF] ++ List.replicate 5 (tC (eT (leC 10 h35))) ++ [.flat _ _ flat_Instr, tC (leC 10 h35)]) (by kernel_rfl)).to (by clear E1 E2 E3 E4 E5 E6 E7 E8 E9 E23 E28 E31 E33; (try simp only [sl0, wk, wkL, wkO, eqCells, eqCell, mayM, mayRange, mayKind, sizedM] at *); rw [Bool.eq_iff_iff]; simp [wk, wkL, wkO, eqCells, eqCell, mayM, mayRange, mayKind, sizedM, *]; omega)
       exact (o86 (d := .bool false) (E33 ++ [tF] ++ List.replicate 5 (tC (eT (leC 10 h35))) ++ [tC (leC 10 h35)]) (by kernel_rfl)).to (by clear E1 E2 E3 E4 E5 E6 E7 E8 E9 E23 E28 E31 E33; (try simp only [sl0, wk, wkL, wkO, eqCells, eqCell, mayM, mayRange, mayKind, sizedM] at *); simp [wk, wkL, wkO, eqCells, eqCell, mayM, mayRange, mayKind, sizedM, *]; omega)
      rcases bft (decide (op < 11)) with h36 | h36
      ·exact (o86 (d := .bool (eqCells [.int .i8 3, .int .i8 0, .int .i8 width, .int .i8 size, .bool false, .int .i8 0, .int .i8 0, .int .i64 0, .int .i64 imm] [.int .i8 3, .int .i8 0, .int .i8 0, .int .i8 0, .bool false, .int .i8 0, .int .i8 0, .int .i64 0, .int .i64 0])) (E33 ++ [tT] ++ List.replicate 5 (tC (eT (leC 10 h36))) ++ [.flat _ _ flat_Instr, tC (leC 10 h36)]) (by kernel_rfl)).to (by clear E1 E2 E3 E4 E5 E6 E7 E8 E9 E23 E28 E31 E33; (try simp only [sl0, wk, wkL, wkO, eqCells, eqCell, mayM, mayRange, mayKind, sizedM] at *); rw [Bool.eq_iff_iff]; simp [wk, wkL, wkO, eqCells, eqCell, mayM, mayRange, mayKind, sizedM, *]; omega)
      exact (o86 (d := .bool false) (E33 ++ [tT] ++ List.replicate 5 (tC (eT (leC 10 h36))) ++ [tC (leC 10 h36)]) (by kernel_rfl)).to (by clear E1 E2 E3 E4 E5 E6 E7 E8 E9 E23 E28 E31 E33; (try simp only [sl0, wk, wkL, wkO, eqCells, eqCell, mayM, mayRange, mayKind, sizedM] at *); simp [wk, wkL, wkO, eqCells, eqCell, mayM, mayRange, mayKind, sizedM, *]; omega)
     by_cases h37 : kind = 4
     ·subst h37
      exact (o86 (d := .bool (eqCells [.int .i8 4, .int .i8 op, .int .i8 width, .int .i8 size, .bool byReg, .int .i8 dst, .int .i8 src, .int .i64 0, .int .i64 imm] [.int .i8 4, .int .i8 0, .int .i8 0, .int .i8 0, .bool false, .int .i8 0, .int .i8 0, .int .i64 0, .int .i64 0])) (E31 ++ [tC (neOf h33), tT, tT, tT, tT, tT, tT, .flat _ _ flat_Instr, tT]) (by kernel_rfl)).to (by clear E1 E2 E3 E4 E5 E6 E7 E8 E9 E23 E28 E31; (try simp only [sl0, wk, wkL, wkO, eqCells, eqCell, mayM, mayRange, mayKind, sizedM] at *); rw [Bool.eq_iff_iff]; simp [wk, wkL, wkO, eqCells, eqCell, mayM, mayRange, mayKind, sizedM, *]; grind)
     let E34 : EL := E31 ++ [tC (neOf h33), tC (neOf h37)]
     by_cases h38 : kind = 5
     ·subst h38
      rcases bft (decide (imm < 0)) with h39 | h39
      ·exact (o86 (d := .bool false) (E34 ++ [tT, .inl] ++ List.replicate 3 (tC (eT (leL 0 h39))) ++ [tC (leL 0 h39), tF, tF, tF, tF, tF, tF]) (by kernel_rfl)).to (by clear E1 E2 E3 E4 E5 E6 E7 E8 E9 E23 E28 E31 E34; (try simp only [sl0, wk, wkL, wkO, eqCells, eqCell, mayM, mayRange, mayKind, sizedM] at *); simp [wk, wkL, wkO, eqCells, eqCell, mayM, mayRange, mayKind, sizedM, *]; omega)
      rcases bft (decide (imm < 16)) with h40 | h40
      ·exact (o86 (d := .bool (eqCells [.int .i8 5, .int .i8 op, .int .i8 width, .int .i8 size, .bool byReg, .int .i8 dst, .int .i8 src, .int .i64 off, .int .i64 0] [.int .i8 5, .int .i8 0, .int .i8 0, .int .i8 0, .bool false, .int .i8 0, .int .i8 0, .int .i64 0, .int .i64 0])) (E34 ++ [tT, .inl] ++ List.replicate 3 (tC (eT (leL 0 h39))) ++ [tC (leL 0 h39)] ++ List.replicate 5 (tC (eT (leC 15 h40))) ++ [.flat _ _ flat_Instr, tC (leC 15 h40)]) (by kernel_rfl)).to (by clear E1 E2 E3 E4 E5 E6 E7 E8 E9 E23 E28 E31 E34; (try simp only [sl0, wk, wkL, wkO, eqCells, eqCell, mayM, mayRange, mayKind, sizedM] at *); rw [Bool.eq_iff_iff]; simp [wk, wkL, wkO, eqCells, eqCell, mayM, mayRange, mayKind, sizedM, *]; grind)
      exact (o86 (d := .bool false) (E34 ++ [tT, .inl] ++ List.replicate 3 (tC (eT (leL 0 h39))) ++ [tC (leL 0 h39)] ++ List.replicate 5 (tC (eT (leC 15 h40))) ++ [tC (leC 15 h40)]) (by kernel_rfl)).to (by clear E1 E2 E3 E4 E5 E6 E7 E8 E9 E23 E28 E31 E34; (try simp only [sl0, wk, wkL, wkO, eqCells, eqCell, mayM, mayRange, mayKind, sizedM] at *); simp [wk, wkL, wkO, eqCells, eqCell, mayM, mayRange, mayKind, sizedM, *]; omega)
     by_cases h41 : kind = 6
     ·subst h41
      exact (o86 (d := .bool (eqCells [.int .i8 6, .int .i8 op, .int .i8 width, .int .i8 size, .bool byReg, .int .i8 dst, .int .i8 src, .int .i64 off, .int .i64 imm] [.int .i8 6, .int .i8 0, .int .i8 0, .int .i8 0, .bool false, .int .i8 0, .int .i8 0, .int .i64 0, .int .i64 0])) (E34 ++ [tC (neOf h38), tT, tT, tT, tT, tT, tT, .flat _ _ flat_Instr, tT]) (by kernel_rfl)).to (by clear E1 E2 E3 E4 E5 E6 E7 E8 E9 E23 E28 E31 E34; (try simp only [sl0, wk, wkL, wkO, eqCells, eqCell, mayM, mayRange, mayKind, sizedM] at *); rw [Bool.eq_iff_iff]; simp [wk, wkL, wkO, eqCells, eqCell, mayM, mayRange, mayKind, sizedM, *]; grind)
     exact (o86 (d := .bool false) (E34 ++ [tC (neOf h38), tC (neOf h41), tF, tF, tF, tF, tF, tF]) (by kernel_rfl)).to (by clear E1 E2 E3 E4 E5 E6 E7 E8 E9 E23 E28 E31 E34; (try simp only [sl0, wk, wkL, wkO, eqCells, eqCell, mayM, mayRange, mayKind, sizedM] at *); simp [wk, wkL, wkO, eqCells, eqCell, mayM, mayRange, mayKind, sizedM, *]; done)
    exact (o86 (d := .bool false) (E8 ++ [tC (nt (leC 2147483647 h7))]) (by kernel_rfl)).to (by clear E1 E2 E3 E4 E5 E6 E7 E8; (try simp only [sl0, wk, wkL, wkO, eqCells, eqCell, mayM, mayRange, mayKind, sizedM] at *); simp [wk, wkL, wkO, eqCells, eqCell, mayM, mayRange, mayKind, sizedM, *]; omega)
   exact (o86 (d := .bool false) (E6 ++ List.replicate 4 (tC (eF (nt (leC 32767 h5)))) ++ [tC (nt (leC 32767 h5)), tT]) (by kernel_rfl)).to (by clear E1 E2 E3 E4 E5 E6; (try simp only [sl0, wk, wkL, wkO, eqCells, eqCell, mayM, mayRange, mayKind, sizedM] at *); simp [wk, wkL, wkO, eqCells, eqCell, mayM, mayRange, mayKind, sizedM, *]; omega)
  exact (o86 (d := .bool false) (E4 ++ List.replicate 4 (tC (eF (nt (leC 10 h3)))) ++ [tC (nt (leC 10 h3)), tF, tF, tF, tF, tT, tT]) (by kernel_rfl)).to (by clear E1 E2 E3 E4; (try simp only [sl0, wk, wkL, wkO, eqCells, eqCell, mayM, mayRange, mayKind, sizedM] at *); simp [wk, wkL, wkO, eqCells, eqCell, mayM, mayRange, mayKind, sizedM, *]; omega)
 exact (o86 (d := .bool false) (E2 ++ List.replicate 4 (tC (eF (nt (leC 10 h1)))) ++ [tC (nt (leC 10 h1)), tF, tF, tF, tF, tT, tF, tF, tF, tF, tT, tT]) (by kernel_rfl)).to (by clear E1 E2; (try simp only [sl0, wk, wkL, wkO, eqCells, eqCell, mayM, mayRange, mayKind, sizedM] at *); simp [wk, wkL, wkO, eqCells, eqCell, mayM, mayRange, mayKind, sizedM, *]; omega)
end Go.Proofs.YtojgmjfcfpclbaaGreat

namespace Go.Proofs.YtojgmjfcfpclbaaGreat
open Go Go.Ev
set_option maxRecDepth 100000
set_option maxHeartbeats 8000000
theorem fields3_ok (kind op width size : Int) (byReg : Bool) (dst src off imm : Int) : Ret Tryz.prog 84 ([instD kind op width size byReg dst src off imm]) (instD kind (fOp kind op) (fWidth kind width) (fSize kind size) (fByReg kind op byReg) (fDst kind dst) (fSrc kind op byReg src) (fOff kind off) (fImm kind op byReg imm)) := by
 by_cases h0 : kind = 0
 ·subst h0
  cases byReg
  ·by_cases h1 : op = 8
   ·subst h1
    exact (o84 (d := (instD 0 8 width 0 false dst 0 0 0)) [tT, tF, tF, tF, tF, tF, tF] (by kernel_rfl)).to (by simp [wk, wkL, fOp, fWidth, fSize, fByReg, fDst, fSrc, fOff, fImm, *])
   exact (o84 (d := (instD 0 op width 0 false dst 0 0 imm)) [tT, tF, tF, tF, tF, tF, tC (nt (neOf h1))] (by kernel_rfl)).to (by simp [wk, wkL, fOp, fWidth, fSize, fByReg, fDst, fSrc, fOff, fImm, *])
  by_cases h2 : op = 8
  ·subst h2
   exact (o84 (d := (instD 0 8 width 0 false dst 0 0 0)) [tT, tT, tT, tT, tT, tF, tF] (by kernel_rfl)).to (by simp [wk, wkL, fOp, fWidth, fSize, fByReg, fDst, fSrc, fOff, fImm, *])
  exact (o84 (d := (instD 0 op width 0 (op != 8) dst src 0 0)) [tT, tT, tT, tT, tT, tC (nt (neOf h2))] (by kernel_rfl)).to (by simp [wk, wkL, fOp, fWidth, fSize, fByReg, fDst, fSrc, fOff, fImm, *])
 let E1 : EL := [tC (neOf h0)]
 by_cases h3 : kind = 1
 ·subst h3
  exact (o84 (d := (instD 1 0 0 size false dst src off 0)) (E1 ++ [tT]) (by kernel_rfl)).to (by clear E1; simp [wk, wkL, fOp, fWidth, fSize, fByReg, fDst, fSrc, fOff, fImm, *])
 by_cases h4 : kind = 2
 ·subst h4
  exact (o84 (d := (instD 2 0 0 size false dst src off 0)) (E1 ++ [tC (neOf h3), tT]) (by kernel_rfl)).to (by clear E1; simp [wk, wkL, fOp, fWidth, fSize, fByReg, fDst, fSrc, fOff, fImm, *])
 let E2 : EL := E1 ++ [tC (neOf h3), tC (neOf h4)]
 by_cases h5 : kind = 3
 ·subst h5
  cases byReg
  ·exact (o84 (d := (instD 3 op 0 0 false dst 0 off imm)) (E2 ++ [tT, tF]) (by kernel_rfl)).to (by clear E1 E2; simp [wk, wkL, fOp, fWidth, fSize, fByReg, fDst, fSrc, fOff, fImm, *])
  exact (o84 (d := (instD 3 op 0 0 true dst src off 0)) (E2 ++ [tT, tT]) (by kernel_rfl)).to (by clear E1 E2; simp [wk, wkL, fOp, fWidth, fSize, fByReg, fDst, fSrc, fOff, fImm, *])
 by_cases h6 : kind = 4
 ·subst h6
  exact (o84 (d := (instD 4 0 0 0 false 0 0 off 0)) (E2 ++ [tC (neOf h5), tT]) (by kernel_rfl)).to (by clear E1 E2; simp [wk, wkL, fOp, fWidth, fSize, fByReg, fDst, fSrc, fOff, fImm, *])
 by_cases h7 : kind = 5
 ·subst h7
  exact (o84 (d := (instD 5 0 0 0 false 0 0 0 imm)) (E2 ++ [tC (neOf h5), tC (neOf h6), tT]) (by kernel_rfl)).to (by clear E1 E2; simp [wk, wkL, fOp, fWidth, fSize, fByReg, fDst, fSrc, fOff, fImm, *])
 exact (o84 (d := (instD kind 0 0 0 false 0 0 0 0)) (E2 ++ [tC (neOf h5), tC (neOf h6), tC (neOf h7)]) (by kernel_rfl)).to (by clear E1 E2; simp [wk, wkL, fOp, fWidth, fSize, fByReg, fDst, fSrc, fOff, fImm, *])
theorem sized3_ok (n : Int) : Ret Tryz.prog 85 ([.int .i8 n]) (.bool (sizedM n)) := by
 by_cases h0 : n = 1
 ·subst h0
  exact (o85 (d := .bool true) [tF, tF, tT, tF, tF, tT, tF, tF, tT] (by kernel_rfl)).to (by (try simp only [sl0, wk, wkL, wkO, eqCells, eqCell, sizedM] at *); simp [wk, wkL, wkO, eqCells, eqCell, sizedM, *]; done)
 let E1 : EL := [tC (eF (neOf h0)), tC (eF (neOf h0)), tC (neOf h0)]
 by_cases h1 : n = 2
 ·subst h1
  exact (o85 (d := .bool true) (E1 ++ [tF, tF, tT, tF, tF, tT]) (by kernel_rfl)).to (by clear E1; (try simp only [sl0, wk, wkL, wkO, eqCells, eqCell, sizedM] at *); simp [wk, wkL, wkO, eqCells, eqCell, sizedM, *]; done)
 by_cases h2 : n = 4
 ·subst h2
  exact (o85 (d := .bool true) (E1 ++ [tC (eF (neOf h1)), tC (eF (neOf h1)), tC (neOf h1), tF, tF, tT]) (by kernel_rfl)).to (by clear E1; (try simp only [sl0, wk, wkL, wkO, eqCells, eqCell, sizedM] at *); simp [wk, wkL, wkO, eqCells, eqCell, sizedM, *]; done)
 exact (o85 (d := .bool (n == 8)) (E1 ++ [tC (eF (neOf h1)), tC (eF (neOf h1)), tC (neOf h1), tC (eF (neOf h2)), tC (eF (neOf h2)), tC (neOf h2)]) (by kernel_rfl)).to (by clear E1; (try simp only [sl0, wk, wkL, wkO, eqCells, eqCell, sizedM] at *); rw [Bool.eq_iff_iff]; simp [wk, wkL, wkO, eqCells, eqCell, sizedM, *]; done)
theorem refMay_ok (kind op width size : Int) (byReg : Bool) (dst src off imm : Int) : Ret Tryz.prog 39 ([instD kind op width size byReg dst src off imm]) (.bool (mayM kind op width size byReg dst src off imm)) := by
 rcases bft (decide (kind < 0)) with h0 | h0
 ·exact (o39 (d := .bool false) [tC (eF h0), tC (eF h0), tC (eF h0), tC h0, tF, tF, tF, tF, tT, tF, tF, tF, tT, tF, tF, tF, tT, tF, tF, tF, tT, tF, tF, tF, tT, tF, tF, tF, tT, tF, tF, tF, tT, tF, tF, tF, tT, tF, tF, tF, tT, tT] (by kernel_rfl)).to (by (try simp only [sl0, wk, wkL, wkO, eqCells, eqCell, mayM, mayRange, mayKind, sizedM, fOp, fWidth, fSize, fByReg, fDst, fSrc, fOff, fImm] at *); rw [Bool.eq_iff_iff]; simp [wk, wkL, wkO, eqCells, eqCell, mayM, mayRange, mayKind, sizedM, fOp, fWidth, fSize, fByReg, fDst, fSrc, fOff, fImm, *]; grind)
 let E1 : EL := [tC (eF h0), tC (eF h0), tC (eF h0), tC h0]
 rcases bft (decide (kind < 7)) with h1 | h1
 ·have c2 := @fields3_ok kind op width size byReg dst src off imm
  generalize g4 : fOp kind op = r3 at c2
  generalize g6 : fWidth kind width = r5 at c2
  generalize g8 : fSize kind size = r7 at c2
  generalize g10 : fByReg kind op byReg = r9 at c2
  generalize g12 : fDst kind dst = r11 at c2
  generalize g14 : fSrc kind op byReg src = r13 at c2
  generalize g16 : fOff kind off = r15 at c2
  generalize g18 : fImm kind op byReg imm = r17 at c2
  let E2 : EL := E1 ++ List.replicate 3 (tC (eF (ltL 6 h1))) ++ [.ret _ _ _ c2, tC (eF (ltL 6 h1)), .flat _ _ flat_Instr, tC (ltL 6 h1)]
  rcases bft (op == r3) with h19 | h19
  ·rcases bft (width == r5) with h20 | h20
   ·rcases bft (size == r7) with h21 | h21
    ·rcases bft (byReg == r9) with h22 | h22
     ·rcases bft (dst == r11) with h23 | h23
      ·rcases bft (src == r13) with h24 | h24
       ·rcases bft (off == r15) with h25 | h25
        ·rcases bft (imm == r17) with h26 | h26
         ·rcases bft (decide (dst < 0)) with h27 | h27
          ·exact (o39 (d := .bool false) (E2 ++ List.replicate 3 (tC (eF (nt (andT (beq_self_eq_true kind) (andT h19 (andT h20 (andT h21 (andT h22 (andT h23 (andT h24 (andT h25 (andT h26 (rfl : true = true))))))))))))) ++ [tC (nt (andT (beq_self_eq_true kind) (andT h19 (andT h20 (andT h21 (andT h22 (andT h23 (andT h24 (andT h25 (andT h26 (rfl : true = true))))))))))), tC (eF h27), tC (eF h27), tC (eF h27), tC h27, tF, tF, tF, tT, tF, tF, tF, tT, tF, tF, tF, tT, tF, tF, tF, tT, tF, tF, tF, tT, tF, tF, tF, tT, tT]) (by kernel_rfl)).to (by clear E1 E2; (try simp only [sl0, wk, wkL, wkO, eqCells, eqCell, mayM, mayRange, mayKind, sizedM, fOp, fWidth, fSize, fByReg, fDst, fSrc, fOff, fImm] at *); simp [wk, wkL, wkO, eqCells, eqCell, mayM, mayRange, mayKind, sizedM, fOp, fWidth, fSize, fByReg, fDst, fSrc, fOff, fImm, *]; omega)
          rcases bft (decide (dst < 11)) with h28 | h28
          ·rcases bft (decide (src < 0)) with h29 | h29
           ·exact (o39 (d := .bool false) (E2 ++ List.replicate 3 (tC (eF (nt (andT (beq_self_eq_true kind) (andT h19 (andT h20 (andT h21 (andT h22 (andT h23 (andT h24 (andT h25 (andT h26 (rfl : true = true))))))))))))) ++ [tC (nt (andT (beq_self_eq_true kind) (andT h19 (andT h20 (andT h21 (andT h22 (andT h23 (andT h24 (andT h25 (andT h26 (rfl : true = true))))))))))), tC (eF h27), tC (eF h27), tC (eF h27), tC h27] ++ List.replicate 3 (tC (eF (ltL 10 h28))) ++ [tC (ltL 10 h28), tC (eF h29), tC (eF h29), tC (eF h29), tC h29, tF, tF, tF, tT, tF, tF, tF, tT, tF, tF, tF, tT, tF, tF, tF, tT, tT]) (by kernel_rfl)).to (by clear E1 E2; (try simp only [sl0, wk, wkL, wkO, eqCells, eqCell, mayM, mayRange, mayKind, sizedM, fOp, fWidth, fSize, fByReg, fDst, fSrc, fOff, fImm] at *); simp [wk, wkL, wkO, eqCells, eqCell, mayM, mayRange, mayKind, sizedM, fOp, fWidth, fSize, fByReg, fDst, fSrc, fOff, fImm, *]; omega)
           rcases bft (decide (src < 11)) with h30 | h30
           ·rcases bft (decide (off < (-32768))) with h31 | h31
            ·exact (o39 (d := .bool false) (E2 ++ List.replicate 3 (tC (eF (nt (andT (beq_self_eq_true kind) (andT h19 (andT h20 (andT h21 (andT h22 (andT h23 (andT h24 (andT h25 (andT h26 (rfl : true = true))))))))))))) ++ [tC (nt (andT (beq_self_eq_true kind) (andT h19 (andT h20 (andT h21 (andT h22 (andT h23 (andT h24 (andT h25 (andT h26 (rfl : true = true))))))))))), tC (eF h27), tC (eF h27), tC (eF h27), tC h27] ++ List.replicate 3 (tC (eF (ltL 10 h28))) ++ [tC (ltL 10 h28), tC (eF h29), tC (eF h29), tC (eF h29), tC h29] ++ List.replicate 3 (tC (eF (ltL 10 h30))) ++ [tC (ltL 10 h30), tC (eF h31), tC (eF h31), tC (eF h31), tC h31, tF, tF, tF, tT, tF, tF, tF, tT, tT]) (by kernel_rfl)).to (by clear E1 E2; (try simp only [sl0, wk, wkL, wkO, eqCells, eqCell, mayM, mayRange, mayKind, sizedM, fOp, fWidth, fSize, fByReg, fDst, fSrc, fOff, fImm] at *); simp [wk, wkL, wkO, eqCells, eqCell, mayM, mayRange, mayKind, sizedM, fOp, fWidth, fSize, fByReg, fDst, fSrc, fOff, fImm, *]; omega)
            rcases bft (decide (off < 32768)) with h32 | h32
            ·rcases bft (decide (imm < (-2147483648))) with h33 | h33
             ·exact (o39 (d := .bool false) (E2 ++ List.replicate 3 (tC (eF (nt (andT (beq_self_eq_true kind) (andT h19 (andT h20 (andT h21 (andT h22 (andT h23 (andT h24 (andT h25 (andT h26 (rfl : true = true))))))))))))) ++ [tC (nt (andT (beq_self_eq_true kind) (andT h19 (andT h20 (andT h21 (andT h22 (andT h23 (andT h24 (andT h25 (andT h26 (rfl : true = true))))))))))), tC (eF h27), tC (eF h27), tC (eF h27), tC h27] ++ List.replicate 3 (tC (eF (ltL 10 h28))) ++ [tC (ltL 10 h28), tC (eF h29), tC (eF h29), tC (eF h29), tC h29] ++ List.replicate 3 (tC (eF (ltL 10 h30))) ++ [tC (ltL 10 h30), tC (eF h31), tC (eF h31), tC (eF h31), tC h31] ++ List.replicate 3 (tC (eF (leL 32768 h32))) ++ [tC (leL 32768 h32), tC (eF h33), tC (eF h33), tC (eF h33), tC h33, tT]) (by kernel_rfl)).to (by clear E1 E2; (try simp only [sl0, wk, wkL, wkO, eqCells, eqCell, mayM, mayRange, mayKind, sizedM, fOp, fWidth, fSize, fByReg, fDst, fSrc, fOff, fImm] at *); simp [wk, wkL, wkO, eqCells, eqCell, mayM, mayRange, mayKind, sizedM, fOp, fWidth, fSize, fByReg, fDst, fSrc, fOff, fImm, *]; omega)
             rcases bft (decide (imm < 2147483648)) with h34 | h34
             ·by_cases h35 : kind = 0
              ·subst h35
               let E3 : EL := E2 ++ List.replicate 3 (tC (eF (nt (andT (beq_self_eq_true 0) (andT h19 (andT h20 (andT h21 (andT h22 (andT h23 (andT h24 (andT h25 (andT h26 (rfl : true = true))))))))))))) ++ [tC (nt (andT (beq_self_eq_true 0) (andT h19 (andT h20 (andT h21 (andT h22 (andT h23 (andT h24 (andT h25 (andT h26 (rfl : true = true))))))))))), tC (eF h27), tC (eF h27), tC (eF h27), tC h27] ++ List.replicate 3 (tC (eF (ltL 10 h28))) ++ [tC (ltL 10 h28), tC (eF h29), tC (eF h29), tC (eF h29), tC h29] ++ List.replicate 3 (tC (eF (ltL 10 h30))) ++ [tC (ltL 10 h30), tC (eF h31), tC (eF h31), tC (eF h31), tC h31] ++ List.replicate 3 (tC (eF (leL 32768 h32))) ++ [tC (leL 32768 h32), tC (eF h33), tC (eF h33), tC (eF h33), tC h33, tC (leL 2147483648 h34), tT]
               rcases bft (decide (op < 0)) with h36 | h36
               ·exact (o39 (d := .bool false) (E3 ++ List.replicate 3 (tC (eT (leL 0 h36))) ++ [tC (leL 0 h36)] ++ List.replicate 10 tF) (by kernel_rfl)).to (by clear E1 E2 E3; (try simp only [sl0, wk, wkL, wkO, eqCells, eqCell, mayM, mayRange, mayKind, sizedM, fOp, fWidth, fSize, fByReg, fDst, fSrc, fOff, fImm] at *); simp [wk, wkL, wkO, eqCells, eqCell, mayM, mayRange, mayKind, sizedM, fOp, fWidth, fSize, fByReg, fDst, fSrc, fOff, fImm, *]; omega)
               let E4 : EL := E3 ++ List.replicate 3 (tC (eT (leL 0 h36))) ++ [tC (leL 0 h36)]
               rcases bft (decide (op < 13)) with h37 | h37
               ·by_cases h38 : width = 32
                ·subst h38
                 exact (o39 (d := .bool (decide (dst < 10))) (E4 ++ List.replicate 4 (tC (eT (leC 12 h37))) ++ [tF, tF, tF, tC (eT (leC 12 h37)), tT, tC (leC 12 h37), tT, tT, tT, tT]) (by kernel_rfl)).to (by clear E1 E2 E3 E4; (try simp only [sl0, wk, wkL, wkO, eqCells, eqCell, mayM, mayRange, mayKind, sizedM, fOp, fWidth, fSize, fByReg, fDst, fSrc, fOff, fImm] at *); rw [Bool.eq_iff_iff]; simp [wk, wkL, wkO, eqCells, eqCell, mayM, mayRange, mayKind, sizedM, fOp, fWidth, fSize, fByReg, fDst, fSrc, fOff, fImm, *]; grind)
                let E5 : EL := E4 ++ List.replicate 4 (tC (eT (leC 12 h37))) ++ List.replicate 3 (tC (eF (neOf h38))) ++ [tC (eT (leC 12 h37)), tC (neOf h38), tC (leC 12 h37)]
                by_cases h39 : width = 64
                ·subst h39
                 exact (o39 (d := .bool (decide (dst < 10))) (E5 ++ [tT, tT, tT, tT]) (by kernel_rfl)).to (by clear E1 E2 E3 E4 E5; (try simp only [sl0, wk, wkL, wkO, eqCells, eqCell, mayM, mayRange, mayKind, sizedM, fOp, fWidth, fSize, fByReg, fDst, fSrc, fOff, fImm] at *); rw [Bool.eq_iff_iff]; simp [wk, wkL, wkO, eqCells, eqCell, mayM, mayRange, mayKind, sizedM, fOp, fWidth, fSize, fByReg, fDst, fSrc, fOff, fImm, *]; grind)
                exact (o39 (d := .bool false) (E5 ++ List.replicate 3 (tC (eT (neOf h39))) ++ [tC (neOf h39)]) (by kernel_rfl)).to (by clear E1 E2 E3 E4 E5; (try simp only [sl0, wk, wkL, wkO, eqCells, eqCell, mayM, mayRange, mayKind, sizedM, fOp, fWidth, fSize, fByReg, fDst, fSrc, fOff, fImm] at *); simp [wk, wkL, wkO, eqCells, eqCell, mayM, mayRange, mayKind, sizedM, fOp, fWidth, fSize, fByReg, fDst, fSrc, fOff, fImm, *]; omega)
               exact (o39 (d := .bool false) (E4 ++ List.replicate 5 (tC (eT (leC 12 h37))) ++ [tC (leC 12 h37), tF, tF, tF, tF]) (by kernel_rfl)).to (by clear E1 E2 E3 E4; (try simp only [sl0, wk, wkL, wkO, eqCells, eqCell, mayM, mayRange, mayKind, sizedM, fOp, fWidth, fSize, fByReg, fDst, fSrc, fOff, fImm] at *); simp [wk, wkL, wkO, eqCells, eqCell, mayM, mayRange, mayKind, sizedM, fOp, fWidth, fSize, fByReg, fDst, fSrc, fOff, fImm, *]; omega)
              by_cases h40 : kind = 1
              ·subst h40
               have c41 := @sized3_ok size
               generalize g43 : sizedM size = r42 at c41
               let E6 : EL := E2 ++ List.replicate 3 (tC (eF (nt (andT (beq_self_eq_true 1) (andT h19 (andT h20 (andT h21 (andT h22 (andT h23 (andT h24 (andT h25 (andT h26 (rfl : true = true))))))))))))) ++ [tC (nt (andT (beq_self_eq_true 1) (andT h19 (andT h20 (andT h21 (andT h22 (andT h23 (andT h24 (andT h25 (andT h26 (rfl : true = true))))))))))), tC (eF h27), tC (eF h27), tC (eF h27), tC h27] ++ List.replicate 3 (tC (eF (ltL 10 h28))) ++ [tC (ltL 10 h28), tC (eF h29), tC (eF h29), tC (eF h29), tC h29] ++ List.replicate 3 (tC (eF (ltL 10 h30))) ++ [tC (ltL 10 h30), tC (eF h31), tC (eF h31), tC (eF h31), tC h31] ++ List.replicate 3 (tC (eF (leL 32768 h32))) ++ [tC (leL 32768 h32), tC (eF h33), tC (eF h33), tC (eF h33), tC h33, tC (leL 2147483648 h34), tC (neOf h35), tT, .ret _ _ _ c41]
               cases r42
               ·exact (o39 (d := .bool false) (E6 ++ [tF, tF, tF, tF]) (by kernel_rfl)).to (by clear E1 E2 E6; (try simp only [sl0, wk, wkL, wkO, eqCells, eqCell, mayM, mayRange, mayKind, sizedM, fOp, fWidth, fSize, fByReg, fDst, fSrc, fOff, fImm] at *); simp [wk, wkL, wkO, eqCells, eqCell, mayM, mayRange, mayKind, sizedM, fOp, fWidth, fSize, fByReg, fDst, fSrc, fOff, fImm, *]; omega)
               exact (o39 (d := .bool (decide (dst < 10))) (E6 ++ [tT, tT, tT, tT]) (by kernel_rfl)).to (by clear E1 E2 E6; (try simp only [sl0, wk, wkL, wkO, eqCells, eqCell, mayM, mayRange, mayKind, sizedM, fOp, fWidth, fSize, fByReg, fDst, fSrc, fOff, fImm] at *); rw [Bool.eq_iff_iff]; simp [wk, wkL, wkO, eqCells, eqCell, mayM, mayRange, mayKind, sizedM, fOp, fWidth, fSize, fByReg, fDst, fSrc, fOff, fImm, *]; grind)
              by_cases h44 : kind = 2
              ·subst h44
               have c45 := @sized3_ok size
               generalize g47 : sizedM size = r46 at c45
               exact (o39 (d := .bool r46) (E2 ++ List.replicate 3 (tC (eF (nt (andT (beq_self_eq_true 2) (andT h19 (andT h20 (andT h21 (andT h22 (andT h23 (andT h24 (andT h25 (andT h26 (rfl : true = true))))))))))))) ++ [tC (nt (andT (beq_self_eq_true 2) (andT h19 (andT h20 (andT h21 (andT h22 (andT h23 (andT h24 (andT h25 (andT h26 (rfl : true = true))))))))))), tC (eF h27), tC (eF h27), tC (eF h27), tC h27] ++ List.replicate 3 (tC (eF (ltL 10 h28))) ++ [tC (ltL 10 h28), tC (eF h29), tC (eF h29), tC (eF h29), tC h29] ++ List.replicate 3 (tC (eF (ltL 10 h30))) ++ [tC (ltL 10 h30), tC (eF h31), tC (eF h31), tC (eF h31), tC h31] ++ List.replicate 3 (tC (eF (leL 32768 h32))) ++ [tC (leL 32768 h32), tC (eF h33), tC (eF h33), tC (eF h33), tC h33, tC (leL 2147483648 h34), tC (neOf h35), tC (neOf h40), tT, .ret _ _ _ c45]) (by kernel_rfl)).to (by clear E1 E2; (try simp only [sl0, wk, wkL, wkO, eqCells, eqCell, mayM, mayRange, mayKind, sizedM, fOp, fWidth, fSize, fByReg, fDst, fSrc, fOff, fImm] at *); rw [Bool.eq_iff_iff]; simp [wk, wkL, wkO, eqCells, eqCell, mayM, mayRange, mayKind, sizedM, fOp, fWidth, fSize, fByReg, fDst, fSrc, fOff, fImm, *]; grind)
              by_cases h48 : kind = 3
              ·subst h48
               let E7 : EL := E2 ++ List.replicate 3 (tC (eF (nt (andT (beq_self_eq_true 3) (andT h19 (andT h20 (andT h21 (andT h22 (andT h23 (andT h24 (andT h25 (andT h26 (rfl : true = true))))))))))))) ++ [tC (nt (andT (beq_self_eq_true 3) (andT h19 (andT h20 (andT h21 (andT h22 (andT h23 (andT h24 (andT h25 (andT h26 (rfl : true = true))))))))))), tC (eF h27), tC (eF h27), tC (eF h27), tC h27] ++ List.replicate 3 (tC (eF (ltL 10 h28))) ++ [tC (ltL 10 h28), tC (eF h29), tC (eF h29), tC (eF h29), tC h29] ++ List.replicate 3 (tC (eF (ltL 10 h30))) ++ [tC (ltL 10 h30), tC (eF h31), tC (eF h31), tC (eF h31), tC h31] ++ List.replicate 3 (tC (eF (leL 32768 h32))) ++ [tC (leL 32768 h32), tC (eF h33), tC (eF h33), tC (eF h33), tC h33, tC (leL 2147483648 h34), tC (neOf h35), tC (neOf h40), tC (neOf h44), tT]
               rcases bft (decide (op < 0)) with h49 | h49
               ·exact (o39 (d := .bool false) (E7 ++ List.replicate 3 (tC (eT (leL 0 h49))) ++ [tC (leL 0 h49)]) (by kernel_rfl)).to (by clear E1 E2 E7; (try simp only [sl0, wk, wkL, wkO, eqCells, eqCell, mayM, mayRange, mayKind, sizedM, fOp, fWidth, fSize, fByReg, fDst, fSrc, fOff, fImm] at *); simp [wk, wkL, wkO, eqCells, eqCell, mayM, mayRange, mayKind, sizedM, fOp, fWidth, fSize, fByReg, fDst, fSrc, fOff, fImm, *]; omega)
               exact (o39 (d := .bool (decide (op ≤ 10))) (E7 ++ List.replicate 3 (tC (eT (leL 0 h49))) ++ [tC (leL 0 h49)]) (by kernel_rfl)).to (by clear E1 E2 E7; (try simp only [sl0, wk, wkL, wkO, eqCells, eqCell, mayM, mayRange, mayKind, sizedM, fOp, fWidth, fSize, fByReg, fDst, fSrc, fOff, fImm] at *); rw [Bool.eq_iff_iff]; simp [wk, wkL, wkO, eqCells, eqCell, mayM, mayRange, mayKind, sizedM, fOp, fWidth, fSize, fByReg, fDst, fSrc, fOff, fImm, *]; grind)
              by_cases h50 : kind = 5
              ·subst h50
               let E8 : EL := E2 ++ List.replicate 3 (tC (eF (nt (andT (beq_self_eq_true 5) (andT h19 (andT h20 (andT h21 (andT h22 (andT h23 (andT h24 (andT h25 (andT h26 (rfl : true = true))))))))))))) ++ [tC (nt (andT (beq_self_eq_true 5) (andT h19 (andT h20 (andT h21 (andT h22 (andT h23 (andT h24 (andT h25 (andT h26 (rfl : true = true))))))))))), tC (eF h27), tC (eF h27), tC (eF h27), tC h27] ++ List.replicate 3 (tC (eF (ltL 10 h28))) ++ [tC (ltL 10 h28), tC (eF h29), tC (eF h29), tC (eF h29), tC h29] ++ List.replicate 3 (tC (eF (ltL 10 h30))) ++ [tC (ltL 10 h30), tC (eF h31), tC (eF h31), tC (eF h31), tC h31] ++ List.replicate 3 (tC (eF (leL 32768 h32))) ++ [tC (leL 32768 h32), tC (eF h33), tC (eF h33), tC (eF h33), tC h33, tC (leL 2147483648 h34), tC (neOf h35), tC (neOf h40), tC (neOf h44), tC (neOf h48), tT]
               rcases bft (decide (imm < 0)) with h51 | h51
               ·exact (o39 (d := .bool false) (E8 ++ List.replicate 3 (tC (eT (leL 0 h51))) ++ [tC (leL 0 h51)]) (by kernel_rfl)).to (by clear E1 E2 E8; (try simp only [sl0, wk, wkL, wkO, eqCells, eqCell, mayM, mayRange, mayKind, sizedM, fOp, fWidth, fSize, fByReg, fDst, fSrc, fOff, fImm] at *); simp [wk, wkL, wkO, eqCells, eqCell, mayM, mayRange, mayKind, sizedM, fOp, fWidth, fSize, fByReg, fDst, fSrc, fOff, fImm, *]; omega)
               exact (o39 (d := .bool (decide (imm < 16))) (E8 ++ List.replicate 3 (tC (eT (leL 0 h51))) ++ [tC (leL 0 h51)]) (by kernel_rfl)).to (by clear E1 E2 E8; (try simp only [sl0, wk, wkL, wkO, eqCells, eqCell, mayM, mayRange, mayKind, sizedM, fOp, fWidth, fSize, fByReg, fDst, fSrc, fOff, fImm] at *); rw [Bool.eq_iff_iff]; simp [wk, wkL, wkO, eqCells, eqCell, mayM, mayRange, mayKind, sizedM, fOp, fWidth, fSize, fByReg, fDst, fSrc, fOff, fImm, *]; grind)
              exact (o39 (d := .bool true) (E2 ++ List.replicate 3 (tC (eF (nt (andT (beq_self_eq_true kind) (andT h19 (andT h20 (andT h21 (andT h22 (andT h23 (andT h24 (andT h25 (andT h26 (rfl : true = true))))))))))))) ++ [tC (nt (andT (beq_self_eq_true kind) (andT h19 (andT h20 (andT h21 (andT h22 (andT h23 (andT h24 (andT h25 (andT h26 (rfl : true = true))))))))))), tC (eF h27), tC (eF h27), tC (eF h27), tC h27] ++ List.replicate 3 (tC (eF (ltL 10 h28))) ++ [tC (ltL 10 h28), tC (eF h29), tC (eF h29), tC (eF h29), tC h29] ++ List.replicate 3 (tC (eF (ltL 10 h30))) ++ [tC (ltL 10 h30), tC (eF h31), tC (eF h31), tC (eF h31), tC h31] ++ List.replicate 3 (tC (eF (leL 32768 h32))) ++ [tC (leL 32768 h32), tC (eF h33), tC (eF h33), tC (eF h33), tC h33, tC (leL 2147483648 h34), tC (neOf h35), tC (neOf h40), tC (neOf h44), tC (neOf h48), tC (neOf h50)]) (by kernel_rfl)).to (by clear E1 E2; (try simp only [sl0, wk, wkL, wkO, eqCells, eqCell, mayM, mayRange, mayKind, sizedM, fOp, fWidth, fSize, fByReg, fDst, fSrc, fOff, fImm] at *); rw [Bool.eq_iff_iff]; simp [wk, wkL, wkO, eqCells, eqCell, mayM, mayRange, mayKind, sizedM, fOp, fWidth, fSize, fByReg, fDst, fSrc, fOff, fImm, *]; grind)
             exact (o39 (d := .bool false) (E2 ++ List.replicate 3 (tC (eF (nt (andT (beq_self_eq_true kind) (andT h19 (andT h20 (andT h21 (andT h22 (andT h23 (andT h24 (andT h25 (andT h26 (rfl : true = true))))))))))))) ++ [tC (nt (andT (beq_self_eq_true kind) (andT h19 (andT h20 (andT h21 (andT h22 (andT h23 (andT h24 (andT h25 (andT h26 (rfl : true = true))))))))))), tC (eF h27), tC (eF h27), tC (eF h27), tC h27] ++ List.replicate 3 (tC (eF (ltL 10 h28))) ++ [tC (ltL 10 h28), tC (eF h29), tC (eF h29), tC (eF h29), tC h29] ++ List.replicate 3 (tC (eF (ltL 10 h30))) ++ [tC (ltL 10 h30), tC (eF h31), tC (eF h31), tC (eF h31), tC h31] ++ List.replicate 3 (tC (eF (leL 32768 h32))) ++ [tC (leL 32768 h32), tC (eF h33), tC (eF h33), tC (eF h33), tC h33, tC (leL 2147483648 h34)]) (by kernel_rfl)).to (by clear E1 E2; (try simp only [sl0, wk, wkL, wkO, eqCells, eqCell, mayM, mayRange, mayKind, sizedM, fOp, fWidth, fSize, fByReg, fDst, fSrc, fOff, fImm] at *); simp [wk, wkL, wkO, eqCells, eqCell, mayM, mayRange, mayKind, sizedM, fOp, fWidth, fSize, fByReg, fDst, fSrc, fOff, fImm, *]; omega)
            exact (o39 (d := .bool false) (E2 ++ List.replicate 3 (tC (eF (nt (andT (beq_self_eq_true kind) (andT h19 (andT h20 (andT h21 (andT h22 (andT h23 (andT h24 (andT h25 (andT h26 (rfl : true = true))))))))))))) ++ [tC (nt (andT (beq_self_eq_true kind) (andT h19 (andT h20 (andT h21 (andT h22 (andT h23 (andT h24 (andT h25 (andT h26 (rfl : true = true))))))))))), tC (eF h27), tC (eF h27), tC (eF h27), tC h27] ++ List.replicate 3 (tC (eF (ltL 10 h28))) ++ [tC (ltL 10 h28), tC (eF h29), tC (eF h29), tC (eF h29), tC h29] ++ List.replicate 3 (tC (eF (ltL 10 h30))) ++ [tC (ltL 10 h30), tC (eF h31), tC (eF h31), tC (eF h31), tC h31] ++ List.replicate 3 (tC (eF (leL 32768 h32))) ++ [tC (leL 32768 h32), tF, tF, tF, tT, tT]) (by kernel_rfl)).to (by clear E1 E2; (try simp only [sl0, wk, wkL, wkO, eqCells, eqCell, mayM, mayRange, mayKind, sizedM, fOp, fWidth, fSize, fByReg, fDst, fSrc, fOff, fImm] at *); simp [wk, wkL, wkO, eqCells, eqCell, mayM, mayRange, mayKind, sizedM, fOp, fWidth, fSize, fByReg, fDst, fSrc, fOff, fImm, *]; omega)
           exact (o39 (d := .bool false) (E2 ++ List.replicate 3 (tC (eF (nt (andT (beq_self_eq_true kind) (andT h19 (andT h20 (andT h21 (andT h22 (andT h23 (andT h24 (andT h25 (andT h26 (rfl : true = true))))))))))))) ++ [tC (nt (andT (beq_self_eq_true kind) (andT h19 (andT h20 (andT h21 (andT h22 (andT h23 (andT h24 (andT h25 (andT h26 (rfl : true = true))))))))))), tC (eF h27), tC (eF h27), tC (eF h27), tC h27] ++ List.replicate 3 (tC (eF (ltL 10 h28))) ++ [tC (ltL 10 h28), tC (eF h29), tC (eF h29), tC (eF h29), tC h29] ++ List.replicate 3 (tC (eF (ltL 10 h30))) ++ [tC (ltL 10 h30), tF, tF, tF, tT, tF, tF, tF, tT, tF, tF, tF, tT, tT]) (by kernel_rfl)).to (by clear E1 E2; (try simp only [sl0, wk, wkL, wkO, eqCells, eqCell, mayM, mayRange, mayKind, sizedM, fOp, fWidth, fSize, fByReg, fDst, fSrc, fOff, fImm] at *); simp [wk, wkL, wkO, eqCells, eqCell, mayM, mayRange, mayKind, sizedM, fOp, fWidth, fSize, fByReg, fDst, fSrc, fOff, fImm, *]; omega)
          exact (o39 (d := .bool false) (E2 ++ List.replicate 3 (tC (eF (nt (andT (beq_self_eq_true kind) (andT h19 (andT h20 (andT h21 (andT h22 (andT h23 (andT h24 (andT h25 (andT h26 (rfl : true = true))))))))))))) ++ [tC (nt (andT (beq_self_eq_true kind) (andT h19 (andT h20 (andT h21 (andT h22 (andT h23 (andT h24 (andT h25 (andT h26 (rfl : true = true))))))))))), tC (eF h27), tC (eF h27), tC (eF h27), tC h27] ++ List.replicate 3 (tC (eF (ltL 10 h28))) ++ [tC (ltL 10 h28), tF, tF, tF, tT, tF, tF, tF, tT, tF, tF, tF, tT, tF, tF, tF, tT, tF, tF, tF, tT, tT]) (by kernel_rfl)).to (by clear E1 E2; (try simp only [sl0, wk, wkL, wkO, eqCells, eqCell, mayM, mayRange, mayKind, sizedM, fOp, fWidth, fSize, fByReg, fDst, fSrc, fOff, fImm] at *); simp [wk, wkL, wkO, eqCells, eqCell, mayM, mayRange, mayKind, sizedM, fOp, fWidth, fSize, fByReg, fDst, fSrc, fOff, fImm, *]; omega)
         exact (o39 (d := .bool false) (E2 ++ List.replicate 3 (tC (eF (nt (andT (beq_self_eq_true kind) (andT h19 (andT h20 (andT h21 (andT h22 (andT h23 (andT h24 (andT h25 (andF (y := true) h26)))))))))))) ++ [tC (nt (andT (beq_self_eq_true kind) (andT h19 (andT h20 (andT h21 (andT h22 (andT h23 (andT h24 (andT h25 (andF (y := true) h26)))))))))), tF, tF, tF, tT, tF, tF, tF, tT, tF, tF, tF, tT, tF, tF, tF, tT, tF, tF, tF, tT, tF, tF, tF, tT, tF, tF, tF, tT, tT]) (by kernel_rfl)).to (by clear E1 E2; (try simp only [sl0, wk, wkL, wkO, eqCells, eqCell, mayM, mayRange, mayKind, sizedM, fOp, fWidth, fSize, fByReg, fDst, fSrc, fOff, fImm] at *); rw [Bool.eq_iff_iff]; simp [wk, wkL, wkO, eqCells, eqCell, mayM, mayRange, mayKind, sizedM, fOp, fWidth, fSize, fByReg, fDst, fSrc, fOff, fImm, *]; grind)
        exact (o39 (d := .bool false) (E2 ++ List.replicate 3 (tC (eF (nt (andT (beq_self_eq_true kind) (andT h19 (andT h20 (andT h21 (andT h22 (andT h23 (andT h24 (andF (y := eqCells [.int .i64 imm] [.int .i64 r17]) h25))))))))))) ++ [tC (nt (andT (beq_self_eq_true kind) (andT h19 (andT h20 (andT h21 (andT h22 (andT h23 (andT h24 (andF (y := eqCells [.int .i64 imm] [.int .i64 r17]) h25))))))))), tF, tF, tF, tT, tF, tF, tF, tT, tF, tF, tF, tT, tF, tF, tF, tT, tF, tF, tF, tT, tF, tF, tF, tT, tF, tF, tF, tT, tT]) (by kernel_rfl)).to (by clear E1 E2; (try simp only [sl0, wk, wkL, wkO, eqCells, eqCell, mayM, mayRange, mayKind, sizedM, fOp, fWidth, fSize, fByReg, fDst, fSrc, fOff, fImm] at *); rw [Bool.eq_iff_iff]; simp [wk, wkL, wkO, eqCells, eqCell, mayM, mayRange, mayKind, sizedM, fOp, fWidth, fSize, fByReg, fDst, fSrc, fOff, fImm, *]; grind)
       exact (o39 (d := .bool false) (E2 ++ List.replicate 3 (tC (eF (nt (andT (beq_self_eq_true kind) (andT h19 (andT h20 (andT h21 (andT h22 (andT h23 (andF (y := eqCells [.int .i64 off, .int .i64 imm] [.int .i64 r15, .int .i64 r17]) h24)))))))))) ++ [tC (nt (andT (beq_self_eq_true kind) (andT h19 (andT h20 (andT h21 (andT h22 (andT h23 (andF (y := eqCells [.int .i64 off, .int .i64 imm] [.int .i64 r15, .int .i64 r17]) h24)))))))), tF, tF, tF, tT, tF, tF, tF, tT, tF, tF, tF, tT, tF, tF, tF, tT, tF, tF, tF, tT, tF, tF, tF, tT, tF, tF, tF, tT, tT]) (by kernel_rfl)).to (by clear E1 E2; (try simp only [sl0, wk, wkL, wkO, eqCells, eqCell, mayM, mayRange, mayKind, sizedM, fOp, fWidth, fSize, fByReg, fDst, fSrc, fOff, fImm] at *); rw [Bool.eq_iff_iff]; simp [wk, wkL, wkO, eqCells, eqCell, mayM, mayRange, mayKind, sizedM, fOp, fWidth, fSize, fByReg, fDst, fSrc, fOff, fImm, *]; grind)
      exact (o39 (d := .bool false) (E2 ++ List.replicate 3 (tC (eF (nt (andT (beq_self_eq_true kind) (andT h19 (andT h20 (andT h21 (andT h22 (andF (y := eqCells [.int .i8 src, .int .i64 off, .int .i64 imm] [.int .i8 r13, .int .i64 r15, .int .i64 r17]) h23))))))))) ++ [tC (nt (andT (beq_self_eq_true kind) (andT h19 (andT h20 (andT h21 (andT h22 (andF (y := eqCells [.int .i8 src, .int .i64 off, .int .i64 imm] [.int .i8 r13, .int .i64 r15, .int .i64 r17]) h23))))))), tF, tF, tF, tT, tF, tF, tF, tT, tF, tF, tF, tT, tF, tF, tF, tT, tF, tF, tF, tT, tF, tF, tF, tT, tF, tF, tF, tT, tT]) (by kernel_rfl)).to (by clear E1 E2; (try simp only [sl0, wk, wkL, wkO, eqCells, eqCell, mayM, mayRange, mayKind, sizedM, fOp, fWidth, fSize, fByReg, fDst, fSrc, fOff, fImm] at *); rw [Bool.eq_iff_iff]; simp [wk, wkL, wkO, eqCells, eqCell, mayM, mayRange, mayKind, sizedM, fOp, fWidth, fSize, fByReg, fDst, fSrc, fOff, fImm, *]; grind)
     exact (o39 (d := .bool false) (E2 ++ List.replicate 3 (tC (eF (nt (andT (beq_self_eq_true kind) (andT h19 (andT h20 (andT h21 (andF (y := eqCells [.int .i8 dst, .int .i8 src, .int .i64 off, .int .i64 imm] [.int .i8 r11, .int .i8 r13, .int .i64 r15, .int .i64 r17]) h22)))))))) ++ [tC (nt (andT (beq_self_eq_true kind) (andT h19 (andT h20 (andT h21 (andF (y := eqCells [.int .i8 dst, .int .i8 src, .int .i64 off, .int .i64 imm] [.int .i8 r11, .int .i8 r13, .int .i64 r15, .int .i64 r17]) h22)))))), tF, tF, tF, tT, tF, tF, tF, tT, tF, tF, tF, tT, tF, tF, tF, tT, tF, tF, tF, tT, tF, tF, tF, tT, tF, tF, tF, tT, tT]) (by kernel_rfl)).to (by clear E1 E2; (try simp only [sl0, wk, wkL, wkO, eqCells, eqCell, mayM, mayRange, mayKind, sizedM, fOp, fWidth, fSize, fByReg, fDst, fSrc, fOff, fImm] at *); rw [Bool.eq_iff_iff]; simp [wk, wkL, wkO, eqCells, eqCell, mayM, mayRange, mayKind, sizedM, fOp, fWidth, fSize, fByReg, fDst, fSrc, fOff, fImm, *]; grind)
    exact (o39 (d := .bool false) (E2 ++ List.replicate 3 (tC (eF (nt (andT (beq_self_eq_true kind) (andT h19 (andT h20 (andF (y := eqCells [.bool byReg, .int .i8 dst, .int .i8 src, .int .i64 off, .int .i64 imm] [.bool r9, .int .i8 r11, .int .i8 r13, .int .i64 r15, .int .i64 r17]) h21))))))) ++ [tC (nt (andT (beq_self_eq_true kind) (andT h19 (andT h20 (andF (y := eqCells [.bool byReg, .int .i8 dst, .int .i8 src, .int .i64 off, .int .i64 imm] [.bool r9, .int .i8 r11, .int .i8 r13, .int .i64 r15, .int .i64 r17]) h21))))), tF, tF, tF, tT, tF, tF, tF, tT, tF, tF, tF, tT, tF, tF, tF, tT, tF, tF, tF, tT, tF, tF, tF, tT, tF, tF, tF, tT, tT]) (by kernel_rfl)).to (by clear E1 E2; (try simp only [sl0, wk, wkL, wkO, eqCells, eqCell, mayM, mayRange, mayKind, sizedM, fOp, fWidth, fSize, fByReg, fDst, fSrc, fOff, fImm] at *); rw [Bool.eq_iff_iff]; simp [wk, wkL, wkO, eqCells, eqCell, mayM, mayRange, mayKind, sizedM, fOp, fWidth, fSize, fByReg, fDst, fSrc, fOff, fImm, *]; grind)
   exact (o39 (d := .bool false) (E2 ++ List.replicate 3 (tC (eF (nt (andT (beq_self_eq_true kind) (andT h19 (andF (y := eqCells [.int .i8 size, .bool byReg, .int .i8 dst, .int .i8 src, .int .i64 off, .int .i64 imm] [.int .i8 r7, .bool r9, .int .i8 r11, .int .i8 r13, .int .i64 r15, .int .i64 r17]) h20)))))) ++ [tC (nt (andT (beq_self_eq_true kind) (andT h19 (andF (y := eqCells [.int .i8 size, .bool byReg, .int .i8 dst, .int .i8 src, .int .i64 off, .int .i64 imm] [.int .i8 r7, .bool r9, .int .i8 r11, .int .i8 r13, .int .i64 r15, .int .i64 r17]) h20)))), tF, tF, tF, tT, tF, tF, tF, tT, tF, tF, tF, tT, tF, tF, tF, tT, tF, tF, tF, tT, tF, tF, tF, tT, tF, tF, tF, tT, tT]) (by kernel_rfl)).to (by clear E1 E2; (try simp only [sl0, wk, wkL, wkO, eqCells, eqCell, mayM, mayRange, mayKind, sizedM, fOp, fWidth, fSize, fByReg, fDst, fSrc, fOff, fImm] at *); rw [Bool.eq_iff_iff]; simp [wk, wkL, wkO, eqCells, eqCell, mayM, mayRange, mayKind, sizedM, fOp, fWidth, fSize, fByReg, fDst, fSrc, fOff, fImm, *]; grind)
  exact (o39 (d := .bool false) (E2 ++ List.replicate 3 (tC (eF (nt (andT (beq_self_eq_true kind) (andF (y := eqCells [.int .i8 width, .int .i8 size, .bool byReg, .int .i8 dst, .int .i8 src, .int .i64 off, .int .i64 imm] [.int .i8 r5, .int .i8 r7, .bool r9, .int .i8 r11, .int .i8 r13, .int .i64 r15, .int .i64 r17]) h19))))) ++ [tC (nt (andT (beq_self_eq_true kind) (andF (y := eqCells [.int .i8 width, .int .i8 size, .bool byReg, .int .i8 dst, .int .i8 src, .int .i64 off, .int .i64 imm] [.int .i8 r5, .int .i8 r7, .bool r9, .int .i8 r11, .int .i8 r13, .int .i64 r15, .int .i64 r17]) h19))), tF, tF, tF, tT, tF, tF, tF, tT, tF, tF, tF, tT, tF, tF, tF, tT, tF, tF, tF, tT, tF, tF, tF, tT, tF, tF, tF, tT, tT]) (by kernel_rfl)).to (by clear E1 E2; (try simp only [sl0, wk, wkL, wkO, eqCells, eqCell, mayM, mayRange, mayKind, sizedM, fOp, fWidth, fSize, fByReg, fDst, fSrc, fOff, fImm] at *); rw [Bool.eq_iff_iff]; simp [wk, wkL, wkO, eqCells, eqCell, mayM, mayRange, mayKind, sizedM, fOp, fWidth, fSize, fByReg, fDst, fSrc, fOff, fImm, *]; grind)
 exact (o39 (d := .bool false) (E1 ++ List.replicate 4 (tC (eF (ltL 6 h1))) ++ [tC (ltL 6 h1), tF, tF, tF, tT, tF, tF, tF, tT, tF, tF, tF, tT, tF, tF, tF, tT, tF, tF, tF, tT, tF, tF, tF, tT, tF, tF, tF, tT, tF, tF, tF, tT, tT]) (by kernel_rfl)).to (by clear E1; (try simp only [sl0, wk, wkL, wkO, eqCells, eqCell, mayM, mayRange, mayKind, sizedM, fOp, fWidth, fSize, fByReg, fDst, fSrc, fOff, fImm] at *); rw [Bool.eq_iff_iff]; simp [wk, wkL, wkO, eqCells, eqCell, mayM, mayRange, mayKind, sizedM, fOp, fWidth, fSize, fByReg, fDst, fSrc, fOff, fImm, *]; grind)
end Go.Proofs.YtojgmjfcfpclbaaGreat

namespace Go.Proofs.YtojgmjfcfpclbaaGreat
open Go Go.Ev
set_option maxRecDepth 100000
set_option maxHeartbeats 8000000
theorem l_take_ok (phys reg : Int) : Ret Tryz.prog 146 ([.int .i8 phys, .int .i8 reg]) ((irD 1 0 0 0 0 0 0 0 0 reg phys 0 0)) := by
 exact (o146 (d := (irD 1 0 0 0 0 0 0 0 0 reg phys 0 0)) [] (by kernel_rfl)).to (by simp [wk, wkL, wkO])
theorem l_give_ok (reg phys : Int) : Ret Tryz.prog 182 ([.int .i8 reg, .int .i8 phys]) ((irD 2 0 0 0 0 0 0 0 0 reg phys 0 0)) := by
 exact (o182 (d := (irD 2 0 0 0 0 0 0 0 0 reg phys 0 0)) [] (by kernel_rfl)).to (by simp [wk, wkL, wkO])
theorem l_two_ok (op w dst src : Int) : Ret Tryz.prog 148 ([.int .i8 op, .int .i8 w, .int .i8 dst, .int .i8 src]) ((irD 0 op w dst src 0 0 0 0 0 0 0 0)) := by
 exact (o148 (d := (irD 0 op w dst src 0 0 0 0 0 0 0 0)) [] (by kernel_rfl)).to (by simp [wk, wkL, wkO])
theorem l_one_ok (op w dst : Int) : Ret Tryz.prog 203 ([.int .i8 op, .int .i8 w, .int .i8 dst]) ((irD 0 op w dst 0 0 0 0 0 0 0 0 0)) := by
 have c0 := @l_two_ok op w dst 0
 exact (o203 (d := (irD 0 op w dst 0 0 0 0 0 0 0 0 0)) [.ret _ _ _ c0] (by kernel_rfl)).to (by simp [wk, wkL, wkO])
theorem l_num_ok (op w dst n : Int) : Ret Tryz.prog 147 ([.int .i8 op, .int .i8 w, .int .i8 dst, .int .i64 n]) ((irD 0 op w dst 0 0 0 n 0 0 0 0 0)) := by
 exact (o147 (d := (irD 0 op w dst 0 0 0 n 0 0 0 0 0)) [] (by kernel_rfl)).to (by simp [wk, wkL, wkO])
theorem l_goes_ok (n : Int) : Ret Tryz.prog 92 ([.int .i64 n]) ((irD 5 0 0 0 0 0 0 0 0 0 0 0 n)) := by
 exact (o92 (d := (irD 5 0 0 0 0 0 0 0 0 0 0 0 n)) [] (by kernel_rfl)).to (by simp [wk, wkL, wkO])
theorem l_steps_ok (l : List D) : Ret Tryz.prog 145 ([.lst .tight 13 l]) (.lst .tight 13 l) := by
 exact (o145 (d := .lst .tight 13 l) [] (by kernel_rfl)).to (by simp [wk, wkL, wkO])
theorem l_choose_ok (w dst : Int) : Ret Tryz.prog 212 ([.int .i8 w, .int .i8 dst]) (.lst .tight 13 [(irD 0 8 w 1 1 0 0 0 0 0 0 0 0), (irD 0 25 w dst 11 0 0 0 4 0 0 0 0)]) := by
 have c0 := @l_two_ok 25 w dst 11
 have c1 := @l_two_ok 8 w 1 1
 have c2 := @l_steps_ok ([(irD 0 8 w 1 1 0 0 0 0 0 0 0 0), (irD 0 25 w dst 11 0 0 0 4 0 0 0 0)])
 exact (o212 (d := .lst .tight 13 [(irD 0 8 w 1 1 0 0 0 0 0 0 0 0), (irD 0 25 w dst 11 0 0 0 4 0 0 0 0)]) [.ret _ _ _ c0, .ret _ _ _ c1, .ret _ _ _ c2] (by kernel_rfl)).to (by simp [wk, wkL, wkO])
theorem l_short32_ok (kind op size : Int) (byReg : Bool) (dst src off imm : Int) : Ret Tryz.prog 204 ([instD kind op 32 size byReg dst src off imm]) (.lst .tight 13 [(irD 0 0 32 0 0 0 0 0 0 0 0 0 0)]) := by
 have c0 := @l_two_ok 0 32 0 0
 have c1 := @l_steps_ok ([(irD 0 0 32 0 0 0 0 0 0 0 0 0 0)])
 exact (o204 (d := .lst .tight 13 [(irD 0 0 32 0 0 0 0 0 0 0 0 0 0)]) [tT, .ret _ _ _ c0, .ret _ _ _ c1] (by kernel_rfl)).to (by simp [wk, wkL, wkO])
theorem l_short64_ok (kind op size : Int) (byReg : Bool) (dst src off imm : Int) : Ret Tryz.prog 204 ([instD kind op 64 size byReg dst src off imm]) (.lst .tight 0 []) := by
 exact (o204 (d := .lst .tight 0 []) [tF] (by kernel_rfl)).to (by simp [wk, wkL, wkO])
end Go.Proofs.YtojgmjfcfpclbaaGreat

namespace Go.Ev
open Go
def readsX (op dst src base : Int) : Int :=
  if op = 0 then sh8 src
  else if op = 1 ∨ op = 28 ∨ op = 29 then 0
  else if 20 ≤ op ∧ op ≤ 22 then or64 (sh8 dst) (sh8 1)
  else if op = 24 then or64 (or64 (sh8 dst) (sh8 0)) (sh8 2)
  else if op = 26 then sh8 base
  else if op = 27 then or64 (sh8 base) (sh8 src)
  else if op = 30 then 17
  else if op = 31 then 1477
  else if shapeM op = 1 ∨ shapeM op = 2 ∨ shapeM op = 6 then or64 (sh8 dst) (sh8 src)
  else sh8 dst
def writesX (op dst : Int) : Int :=
  if op = 7 ∨ op = 8 ∨ op = 14 ∨ op = 15 ∨ op = 27 ∨ op = 28 ∨ op = 29 then 0
  else if op = 24 then 5
  else if op = 30 then 16
  else if op = 31 then 2051
  else sh8 dst
def readsXX (op w dst src base disp imm cc : Int) : Int := if mayX op w dst src base disp imm cc then readsX op dst src base else 0
def writesXX (op w dst src base disp imm cc : Int) : Int := if mayX op w dst src base disp imm cc then writesX op dst else 0
end Go.Ev

namespace Go.Ev
open Go
def addC (w a b : Int) : Bool := decide (cutM (u64 (a + b)) w < cutM a w)
def addO (w a b : Int) : Bool := negM (and64u (xor64 a (u64 (a + b))) (xor64 b (u64 (a + b)))) w
def subC (w a b : Int) : Bool := decide (cutM a w < cutM b w)
def subO (w a b : Int) : Bool := negM (and64u (xor64 a b) (xor64 a (u64 (a - b)))) w
theorem sign_a (v : Int) : IntKind.u64.wrap (IntKind.i64.wrap (IntKind.i8.wrap v)) = IntKind.u64.wrap (IntKind.i8.wrap v) := by rw [w_u64, w_u64, w_i64, w_i8]; omega
theorem sign_b (v : Int) : IntKind.u64.wrap (IntKind.i64.wrap (IntKind.i16.wrap v)) = IntKind.u64.wrap (IntKind.i16.wrap v) := by rw [w_u64, w_u64, w_i64, w_i16]; omega
theorem sign_c (v : Int) : IntKind.u64.wrap (IntKind.i64.wrap (IntKind.i32.wrap v)) = IntKind.u64.wrap (IntKind.i32.wrap v) := by rw [w_u64, w_u64, w_i64, w_i32]; omega
def holdM (cc : Int) (c z s o : Bool) : Bool :=
  if cc = 2 then c else if cc = 3 then !c else if cc = 4 then z else if cc = 5 then !z else if cc = 6 then (c || z) else if cc = 7 then !(c || z)
  else if cc = 12 then (s != o) else if cc = 13 then !(s != o) else if cc = 14 then (z || (s != o)) else !(z || (s != o))
def wrOp (op : Int) : Bool := !(decide (op = 7 ∨ op = 8 ∨ op = 14 ∨ op = 15 ∨ op = 27 ∨ op = 28 ∨ op = 29))
theorem sh8_pos {d : Int} (h0 : 0 ≤ d) (h1 : d ≤ 15) : sh8 d ≠ 0 := by
 obtain ⟨n, rfl⟩ := fin16 h0 h1
 clear h0 h1
 revert n
 decide +kernel
theorem wr_nz {op w dst src base disp imm cc : Int} (hm : mayX op w dst src base disp imm cc = true) (d0 : 0 ≤ dst) (d1 : dst ≤ 15) (hop : wrOp op = true) : (writesXX op w dst src base disp imm cc == 0) = false := by
 rw [beq_eq_false_iff_ne]
 unfold writesXX
 rw [if_pos hm]
 unfold writesX
 simp only [wrOp, Bool.not_eq_true', decide_eq_false_iff_not] at hop
 rw [if_neg hop]
 split
 ·decide
 ·split
  ·decide
  ·split
   ·decide
   ·exact sh8_pos d0 d1
theorem wr_z {op w dst src base disp imm cc : Int} (hop : wrOp op = false) : (writesXX op w dst src base disp imm cc == 0) = true := by
 rw [beq_iff_eq]
 unfold writesXX writesX
 simp only [wrOp, Bool.not_eq_false', decide_eq_true_eq] at hop
 rw [if_pos hop]
 split <;> rfl
end Go.Ev

namespace Go.Ev
open Go
def inU (n : Int) : Prop := 0 ≤ n ∧ n ≤ 18446744073709551615
theorem cut_cut (v w : Int) : cutM (cutM v w) w = cutM v w := by
 unfold cutM
 split
 ·omega
 ·split
  ·omega
  ·split
   ·omega
   ·rfl
theorem rg_in {l : List Int} (h : ∀ x ∈ l, inU x) (i : Int) : inU (rg l i) := by
 unfold rg
 rw [List.getD_eq_getElem?_getD]
 cases e : l[i.toNat]? with
 | none => exact ⟨by decide, by decide⟩
 | some x => exact h x (List.mem_of_getElem? e)
def bitOf (w k : Int) : Int := IntKind.i64.wrap ((BitVec.ofInt 64 (w.fdiv (2 ^ (min k.toNat 64))) &&& BitVec.ofInt 64 1).toNat : Int)
def mayP (w dst src : Int) : Bool := longM w && regM dst && regM src
end Go.Ev

namespace Go.Ev
open Go
theorem reads_may {op w dst src base disp imm cc : Int} (hm : mayX op w dst src base disp imm cc = true) : readsXX op w dst src base disp imm cc = readsX op dst src base := by unfold readsXX; rw [if_pos hm]
theorem writes_may {op w dst src base disp imm cc : Int} (hm : mayX op w dst src base disp imm cc = true) : writesXX op w dst src base disp imm cc = writesX op dst := by unfold writesXX; rw [if_pos hm]
theorem may_long {sh w dst src base disp imm cc : Int} (h : mayS sh w dst src base disp imm cc = true) (hs : sh = 1 ∨ sh = 2 ∨ sh = 3 ∨ sh = 4 ∨ sh = 5 ∨ sh = 6) : longM w = true := by
 rcases hs with rfl | rfl | rfl | rfl | rfl | rfl <;> simp [mayS] at h <;> first | exact h.1 | exact h.1.1 | exact h
theorem may_cc {w dst src base disp imm cc : Int} (h : mayS 6 w dst src base disp imm cc = true) : ccM cc = true := by
 simp [mayS] at h; exact h.2
theorem may_cc' {w dst src base disp imm cc : Int} (h : mayS 10 w dst src base disp imm cc = true) : ccM cc = true := by
 simp [mayS] at h; exact h.2
end Go.Ev

namespace Go.Ev
open Go
structure MachS where
  (q0 q1 q2 q3 q4 q5 q6 q7 q8 q9 q10 q11 q12 q13 q14 q15 : Int)
  (fk fc fz fs fo : Bool)
  (pc : Int)
deriving DecidableEq
def MachS.d (m : MachS) : D := .agg [.int .u64 m.q0, .int .u64 m.q1, .int .u64 m.q2, .int .u64 m.q3, .int .u64 m.q4, .int .u64 m.q5, .int .u64 m.q6, .int .u64 m.q7, .int .u64 m.q8, .int .u64 m.q9, .int .u64 m.q10, .int .u64 m.q11, .int .u64 m.q12, .int .u64 m.q13, .int .u64 m.q14, .int .u64 m.q15, .bool m.fk, .bool m.fc, .bool m.fz, .bool m.fs, .bool m.fo, .int .u64 m.pc]
def MachS.rl (m : MachS) : List Int := [m.q0, m.q1, m.q2, m.q3, m.q4, m.q5, m.q6, m.q7, m.q8, m.q9, m.q10, m.q11, m.q12, m.q13, m.q14, m.q15]
def MachS.put (m : MachS) (i v : Int) : MachS := ⟨st 0 i v m.q0, st 1 i v m.q1, st 2 i v m.q2, st 3 i v m.q3, st 4 i v m.q4, st 5 i v m.q5, st 6 i v m.q6, st 7 i v m.q7, st 8 i v m.q8, st 9 i v m.q9, st 10 i v m.q10, st 11 i v m.q11, st 12 i v m.q12, st 13 i v m.q13, st 14 i v m.q14, st 15 i v m.q15, m.fk, m.fc, m.fz, m.fs, m.fo, m.pc⟩
def MachS.flags (m : MachS) (k c z s o : Bool) : MachS := ⟨m.q0, m.q1, m.q2, m.q3, m.q4, m.q5, m.q6, m.q7, m.q8, m.q9, m.q10, m.q11, m.q12, m.q13, m.q14, m.q15, k, c, z, s, o, m.pc⟩
def MachS.at (m : MachS) (v : Int) : MachS := ⟨m.q0, m.q1, m.q2, m.q3, m.q4, m.q5, m.q6, m.q7, m.q8, m.q9, m.q10, m.q11, m.q12, m.q13, m.q14, m.q15, m.fk, m.fc, m.fz, m.fs, m.fo, v⟩
def MachS.zero : MachS := ⟨0, 0, 0, 0, 0, 0, 0, 0, 0, 0, 0, 0, 0, 0, 0, 0, false, false, false, false, false, 0⟩
def XS.len (x : XS) : Int := lenX x.op x.w x.dst x.src x.base x.disp x.imm x.cc
def XS.may (x : XS) : Bool := mayX x.op x.w x.dst x.src x.base x.disp x.imm x.cc
def sopM (op : Int) : Option (Int × Int) :=
  match op with
  | 2 => some (0, 0)
  | 3 => some (4, 0)
  | 4 => some (5, 0)
  | 5 => some (1, 0)
  | 6 => some (10, 0)
  | 7 => some (1, 0)
  | 8 => some (5, 0)
  | 9 => some (0, 1)
  | 10 => some (4, 1)
  | 11 => some (5, 1)
  | 12 => some (1, 1)
  | 13 => some (10, 1)
  | 14 => some (1, 1)
  | 15 => some (5, 1)
  | 16 => some (2, 0)
  | 17 => some (6, 1)
  | 18 => some (7, 1)
  | 19 => some (12, 1)
  | 20 => some (6, 2)
  | 21 => some (7, 2)
  | 22 => some (12, 2)
  | 23 => some (8, 0)
  | _ => none
def secS (m : MachS) (x : XS) (k : Int) : Int := match k with
  | 2 => m.q1
  | 1 => u64 x.imm
  | _ => rg m.rl x.src
def flagS (m : MachS) (s w a b v : Int) : MachS := match s with
  | 0 => m.flags true (addC w a b) (cutM (u64 (a + b)) w == 0) (negM (u64 (a + b)) w) (addO w a b)
  | 1 => m.flags true (subC w a b) (cutM (u64 (a - b)) w == 0) (negM (u64 (a - b)) w) (subO w a b)
  | 8 => m.flags true (subC w 0 a) (cutM (u64 (0 - a)) w == 0) (negM (u64 (0 - a)) w) (subO w 0 a)
  | 4 => m.flags true false (cutM v w == 0) (negM v w) false
  | 5 => m.flags true false (cutM v w == 0) (negM v w) false
  | 10 => m.flags true false (cutM v w == 0) (negM v w) false
  | _ => m.flags false false false false false
def keepOp (op : Int) : Bool := match op with
  | 7 => true
  | 8 => true
  | 14 => true
  | 15 => true
  | _ => false
def doS (m : MachS) (x : XS) (ld : Int) : MachS × Int := match sopM x.op with
  | some (s, k) =>
    let a := rg m.rl x.dst
    let b := secS m x k
    let v := doM s x.w a b
    match keepOp x.op with
    | true => (flagS m s x.w a b v, 0)
    | false => ((flagS m s x.w a b v).put x.dst v, 0)
  | none => match x.op with
    | 0 => (m.put x.dst (cutM (rg m.rl x.src) x.w), 0)
    | 1 => (m.put x.dst (cutM (u64 x.imm) x.w), 0)
    | 24 => match cutM (rg m.rl x.dst) x.w == 0 with
      | true => (.zero, 20)
      | false => match cutM m.q2 x.w == 0 with
        | false => (.zero, 20)
        | true => (({ m with q0 := u64 ((cutM m.q0 x.w).tdiv (cutM (rg m.rl x.dst) x.w)), q2 := (cutM m.q0 x.w).tmod (cutM (rg m.rl x.dst) x.w) }).flags false false false false false, 0)
    | 25 => match m.fk with
      | false => (.zero, 20)
      | true => (m.put x.dst (cutM (if holdM x.cc m.fc m.fz m.fs m.fo then rg m.rl x.src else rg m.rl x.dst) x.w), 0)
    | 26 => (m.put x.dst (cutM ld x.w), 0)
    | 28 => (m.at (u64 (m.pc + u64 x.imm)), 0)
    | 29 => match m.fk with
      | false => (.zero, 20)
      | true => (m.at (if holdM x.cc m.fc m.fz m.fs m.fo then u64 (m.pc + u64 x.imm) else m.pc), 0)
    | 30 => (({ m with q4 := u64 (m.q4 + 8) }).at ld, 0)
    | 31 => ({ m with q0 := ld, q1 := 0, q11 := 0 }, 0)
    | _ => (m, 0)
def execS (m : MachS) (x : XS) (ld : Int) : MachS × Int := match x.may with
  | false => (.zero, 2)
  | true => doS (m.at (u64 (m.pc + u64 x.len))) x ld
def execM (m : MachS) (x : XS) (ld : Int) : MachS := (execS m x ld).1
def execE (m : MachS) (x : XS) (ld : Int) : Int := (execS m x ld).2
theorem execS_no {m : MachS} {x : XS} {ld : Int} (h : x.may = false) : execS m x ld = (.zero, 2) := by unfold execS; rw [h]
theorem execS_may {m : MachS} {x : XS} {ld : Int} (h : x.may = true) : execS m x ld = doS (m.at (u64 (m.pc + u64 x.len))) x ld := by unfold execS; rw [h]
def pcX (m : MachS) (op w dst src base disp imm cc : Int) : Int := u64 (m.pc + u64 (lenX op w dst src base disp imm cc))
def xT (op w dst src base disp imm cc ld : Int) : List D := [.int .i8 op, .int .i8 w, .int .i8 dst, .int .i8 src, .int .i8 base, .int .i64 disp, .int .i64 imm, .int .i8 cc, .int .u64 ld]
def fT (m : MachS) (p : Int) (tl : List D) : List D := .bool m.fk :: .bool m.fc :: .bool m.fz :: .bool m.fs :: .bool m.fo :: .int .u64 p :: tl
def zC : List D := [.int .u64 0, .int .u64 0, .int .u64 0, .int .u64 0, .int .u64 0, .int .u64 0, .int .u64 0, .int .u64 0, .int .u64 0, .int .u64 0, .int .u64 0, .int .u64 0, .int .u64 0, .int .u64 0, .int .u64 0, .int .u64 0, .bool false, .bool false, .bool false, .bool false, .bool false, .int .u64 0]
def MachS.cw (m : MachS) (p : Int) (tl : List D) : List D := .int .u64 m.q0 :: .int .u64 m.q1 :: .int .u64 m.q2 :: .int .u64 m.q3 :: .int .u64 m.q4 :: .int .u64 m.q5 :: .int .u64 m.q6 :: .int .u64 m.q7 :: .int .u64 m.q8 :: .int .u64 m.q9 :: .int .u64 m.q10 :: .int .u64 m.q11 :: .int .u64 m.q12 :: .int .u64 m.q13 :: .int .u64 m.q14 :: .int .u64 m.q15 :: .bool m.fk :: .bool m.fc :: .bool m.fz :: .bool m.fs :: .bool m.fo :: .int .u64 p :: tl
theorem get_regm (m : MachS) (i : Int) (tl : List D) (h0 : 0 ≤ i) (h1 : i ≤ 15) : (D.int .u64 m.q0 :: D.int .u64 m.q1 :: D.int .u64 m.q2 :: D.int .u64 m.q3 :: D.int .u64 m.q4 :: D.int .u64 m.q5 :: D.int .u64 m.q6 :: D.int .u64 m.q7 :: D.int .u64 m.q8 :: D.int .u64 m.q9 :: D.int .u64 m.q10 :: D.int .u64 m.q11 :: D.int .u64 m.q12 :: D.int .u64 m.q13 :: D.int .u64 m.q14 :: D.int .u64 m.q15 :: tl : List D)[0 + i.toNat * 1]? = some (.int .u64 (rg m.rl i)) := get_reg h0 h1
theorem put_regm (m : MachS) (i v : Int) (tl : List D) (h0 : 0 ≤ i) (h1 : i ≤ 15) : PutsA (D.int .u64 m.q0 :: D.int .u64 m.q1 :: D.int .u64 m.q2 :: D.int .u64 m.q3 :: D.int .u64 m.q4 :: D.int .u64 m.q5 :: D.int .u64 m.q6 :: D.int .u64 m.q7 :: D.int .u64 m.q8 :: D.int .u64 m.q9 :: D.int .u64 m.q10 :: D.int .u64 m.q11 :: D.int .u64 m.q12 :: D.int .u64 m.q13 :: D.int .u64 m.q14 :: D.int .u64 m.q15 :: tl : List D) (0 + i.toNat * 1) [D.int .u64 v] (D.int .u64 (m.put i v).q0 :: D.int .u64 (m.put i v).q1 :: D.int .u64 (m.put i v).q2 :: D.int .u64 (m.put i v).q3 :: D.int .u64 (m.put i v).q4 :: D.int .u64 (m.put i v).q5 :: D.int .u64 (m.put i v).q6 :: D.int .u64 (m.put i v).q7 :: D.int .u64 (m.put i v).q8 :: D.int .u64 (m.put i v).q9 :: D.int .u64 (m.put i v).q10 :: D.int .u64 (m.put i v).q11 :: D.int .u64 (m.put i v).q12 :: D.int .u64 (m.put i v).q13 :: D.int .u64 (m.put i v).q14 :: D.int .u64 (m.put i v).q15 :: tl) := put_reg h0 h1
def addrS (m : MachS) (x : XS) : Int × Int × Bool :=
  if x.may = true ∧ (x.op = 26 ∨ x.op = 27) then (u64 (rg m.rl x.base + u64 x.disp), x.w / 8, true)
  else if x.may = true ∧ x.op = 30 then (m.q4, 8, true)
  else (0, 0, false)
def storedS (m : MachS) (x : XS) : Int := if x.may = true ∧ x.op = 27 then cutM (rg m.rl x.src) x.w else 0
def numS (m : MachS) : Int × Bool := if 16 ≤ m.q0 then (0, false) else (IntKind.i64.wrap m.q0, true)
def numV (q : Int) : Int := if 16 ≤ q then 0 else IntKind.i64.wrap q
def numB (q : Int) : Bool := !decide (16 ≤ q)
def argsS (m : MachS) : List Int := if 16 ≤ m.q0 then [] else [m.q7, m.q6, m.q2, m.q10, m.q8].take (m.q0.toNat % 6)
def wD (l : List Int) : List D := l.map (fun x => .int .u64 x)
def toccM (cc : Int) : Int × Bool :=
  if cc = 0 then (4, true) else if cc = 1 then (5, true) else if cc = 2 then (7, true) else if cc = 3 then (3, true) else if cc = 4 then (2, true) else if cc = 5 then (6, true)
  else if cc = 6 then (15, true) else if cc = 7 then (13, true) else if cc = 8 then (12, true) else if cc = 9 then (14, true) else if cc = 10 then (5, true) else (0, false)
def ccM' (cc : Int) : Int × Bool :=
  if cc = 4 then (0, true) else if cc = 5 then (1, true) else if cc = 7 then (2, true) else if cc = 3 then (3, true) else if cc = 2 then (4, true) else if cc = 6 then (5, true)
  else if cc = 15 then (6, true) else if cc = 13 then (7, true) else if cc = 12 then (8, true) else if cc = 14 then (9, true) else (0, false)
end Go.Ev

namespace Go.Proofs.YtojgmjfcfpclbaaGreat
open Go Go.Ev
set_option maxRecDepth 100000
set_option maxHeartbeats 8000000
theorem tocc_0_ok  : Ret Tryz.prog 16 ([.int .i8 0]) (.tup [.int .i8 (toccM 0).1, .bool (toccM 0).2]) := by
 exact (Ret.of_eval (d := .tup [.int .i8 4, .bool true]) mixed Tryz.func16 (by kernel_rfl) [tT, tT, tF, tF, .inl, tT, .get ([.int .i8 4, .int .i8 5, .int .i8 7, .int .i8 3, .int .i8 2, .int .i8 6, .int .i8 15, .int .i8 13, .int .i8 12, .int .i8 14, .int .i8 5]) 0 (.int .i8 4) rfl] (by kernel_rfl)).to (by first | rfl | exact ⟨rfl, rfl, trivial⟩ | (simp [wk, wkL, toccM]; done))
theorem tocc_1_ok  : Ret Tryz.prog 16 ([.int .i8 1]) (.tup [.int .i8 (toccM 1).1, .bool (toccM 1).2]) := by
 exact (Ret.of_eval (d := .tup [.int .i8 5, .bool true]) mixed Tryz.func16 (by kernel_rfl) [tT, tT, tF, tF, .inl, tT, .get ([.int .i8 4, .int .i8 5, .int .i8 7, .int .i8 3, .int .i8 2, .int .i8 6, .int .i8 15, .int .i8 13, .int .i8 12, .int .i8 14, .int .i8 5]) 1 (.int .i8 5) rfl] (by kernel_rfl)).to (by first | rfl | exact ⟨rfl, rfl, trivial⟩ | (simp [wk, wkL, toccM]; done))
theorem tocc_2_ok  : Ret Tryz.prog 16 ([.int .i8 2]) (.tup [.int .i8 (toccM 2).1, .bool (toccM 2).2]) := by
 exact (Ret.of_eval (d := .tup [.int .i8 7, .bool true]) mixed Tryz.func16 (by kernel_rfl) [tT, tT, tF, tF, .inl, tT, .get ([.int .i8 4, .int .i8 5, .int .i8 7, .int .i8 3, .int .i8 2, .int .i8 6, .int .i8 15, .int .i8 13, .int .i8 12, .int .i8 14, .int .i8 5]) 2 (.int .i8 7) rfl] (by kernel_rfl)).to (by first | rfl | exact ⟨rfl, rfl, trivial⟩ | (simp [wk, wkL, toccM]; done))
theorem tocc_3_ok  : Ret Tryz.prog 16 ([.int .i8 3]) (.tup [.int .i8 (toccM 3).1, .bool (toccM 3).2]) := by
 exact (Ret.of_eval (d := .tup [.int .i8 3, .bool true]) mixed Tryz.func16 (by kernel_rfl) [tT, tT, tF, tF, .inl, tT, .get ([.int .i8 4, .int .i8 5, .int .i8 7, .int .i8 3, .int .i8 2, .int .i8 6, .int .i8 15, .int .i8 13, .int .i8 12, .int .i8 14, .int .i8 5]) 3 (.int .i8 3) rfl] (by kernel_rfl)).to (by first | rfl | exact ⟨rfl, rfl, trivial⟩ | (simp [wk, wkL, toccM]; done))
theorem tocc_4_ok  : Ret Tryz.prog 16 ([.int .i8 4]) (.tup [.int .i8 (toccM 4).1, .bool (toccM 4).2]) := by
 exact (Ret.of_eval (d := .tup [.int .i8 2, .bool true]) mixed Tryz.func16 (by kernel_rfl) [tT, tT, tF, tF, .inl, tT, .get ([.int .i8 4, .int .i8 5, .int .i8 7, .int .i8 3, .int .i8 2, .int .i8 6, .int .i8 15, .int .i8 13, .int .i8 12, .int .i8 14, .int .i8 5]) 4 (.int .i8 2) rfl] (by kernel_rfl)).to (by first | rfl | exact ⟨rfl, rfl, trivial⟩ | (simp [wk, wkL, toccM]; done))
theorem tocc_5_ok  : Ret Tryz.prog 16 ([.int .i8 5]) (.tup [.int .i8 (toccM 5).1, .bool (toccM 5).2]) := by
 exact (Ret.of_eval (d := .tup [.int .i8 6, .bool true]) mixed Tryz.func16 (by kernel_rfl) [tT, tT, tF, tF, .inl, tT, .get ([.int .i8 4, .int .i8 5, .int .i8 7, .int .i8 3, .int .i8 2, .int .i8 6, .int .i8 15, .int .i8 13, .int .i8 12, .int .i8 14, .int .i8 5]) 5 (.int .i8 6) rfl] (by kernel_rfl)).to (by first | rfl | exact ⟨rfl, rfl, trivial⟩ | (simp [wk, wkL, toccM]; done))
theorem tocc_6_ok  : Ret Tryz.prog 16 ([.int .i8 6]) (.tup [.int .i8 (toccM 6).1, .bool (toccM 6).2]) := by
 exact (Ret.of_eval (d := .tup [.int .i8 15, .bool true]) mixed Tryz.func16 (by kernel_rfl) [tT, tT, tF, tF, .inl, tT, .get ([.int .i8 4, .int .i8 5, .int .i8 7, .int .i8 3, .int .i8 2, .int .i8 6, .int .i8 15, .int .i8 13, .int .i8 12, .int .i8 14, .int .i8 5]) 6 (.int .i8 15) rfl] (by kernel_rfl)).to (by first | rfl | exact ⟨rfl, rfl, trivial⟩ | (simp [wk, wkL, toccM]; done))
theorem tocc_7_ok  : Ret Tryz.prog 16 ([.int .i8 7]) (.tup [.int .i8 (toccM 7).1, .bool (toccM 7).2]) := by
 exact (Ret.of_eval (d := .tup [.int .i8 13, .bool true]) mixed Tryz.func16 (by kernel_rfl) [tT, tT, tF, tF, .inl, tT, .get ([.int .i8 4, .int .i8 5, .int .i8 7, .int .i8 3, .int .i8 2, .int .i8 6, .int .i8 15, .int .i8 13, .int .i8 12, .int .i8 14, .int .i8 5]) 7 (.int .i8 13) rfl] (by kernel_rfl)).to (by first | rfl | exact ⟨rfl, rfl, trivial⟩ | (simp [wk, wkL, toccM]; done))
theorem tocc_8_ok  : Ret Tryz.prog 16 ([.int .i8 8]) (.tup [.int .i8 (toccM 8).1, .bool (toccM 8).2]) := by
 exact (Ret.of_eval (d := .tup [.int .i8 12, .bool true]) mixed Tryz.func16 (by kernel_rfl) [tT, tT, tF, tF, .inl, tT, .get ([.int .i8 4, .int .i8 5, .int .i8 7, .int .i8 3, .int .i8 2, .int .i8 6, .int .i8 15, .int .i8 13, .int .i8 12, .int .i8 14, .int .i8 5]) 8 (.int .i8 12) rfl] (by kernel_rfl)).to (by first | rfl | exact ⟨rfl, rfl, trivial⟩ | (simp [wk, wkL, toccM]; done))
theorem tocc_9_ok  : Ret Tryz.prog 16 ([.int .i8 9]) (.tup [.int .i8 (toccM 9).1, .bool (toccM 9).2]) := by
 exact (Ret.of_eval (d := .tup [.int .i8 14, .bool true]) mixed Tryz.func16 (by kernel_rfl) [tT, tT, tF, tF, .inl, tT, .get ([.int .i8 4, .int .i8 5, .int .i8 7, .int .i8 3, .int .i8 2, .int .i8 6, .int .i8 15, .int .i8 13, .int .i8 12, .int .i8 14, .int .i8 5]) 9 (.int .i8 14) rfl] (by kernel_rfl)).to (by first | rfl | exact ⟨rfl, rfl, trivial⟩ | (simp [wk, wkL, toccM]; done))
theorem tocc_10_ok  : Ret Tryz.prog 16 ([.int .i8 10]) (.tup [.int .i8 (toccM 10).1, .bool (toccM 10).2]) := by
 exact (Ret.of_eval (d := .tup [.int .i8 5, .bool true]) mixed Tryz.func16 (by kernel_rfl) [tT, tT, tF, tF, .inl, tT, .get ([.int .i8 4, .int .i8 5, .int .i8 7, .int .i8 3, .int .i8 2, .int .i8 6, .int .i8 15, .int .i8 13, .int .i8 12, .int .i8 14, .int .i8 5]) 10 (.int .i8 5) rfl] (by kernel_rfl)).to (by first | rfl | exact ⟨rfl, rfl, trivial⟩ | (simp [wk, wkL, toccM]; done))
end Go.Proofs.YtojgmjfcfpclbaaGreat

namespace Go.Proofs.YtojgmjfcfpclbaaGreat
open Go Go.Ev
theorem tocc_in_ok (cc : Int) (h0 : 0 ≤ cc) (h1 : cc ≤ 10) : Ret Tryz.prog 16 [.int .i8 cc] (.tup [.int .i8 (toccM cc).1, .bool (toccM cc).2]) := by
 have hc : cc = 0 ∨ cc = 1 ∨ cc = 2 ∨ cc = 3 ∨ cc = 4 ∨ cc = 5 ∨ cc = 6 ∨ cc = 7 ∨ cc = 8 ∨ cc = 9 ∨ cc = 10 := by omega
 rcases hc with rfl | rfl | rfl | rfl | rfl | rfl | rfl | rfl | rfl | rfl | rfl
 ·exact tocc_0_ok
 ·exact tocc_1_ok
 ·exact tocc_2_ok
 ·exact tocc_3_ok
 ·exact tocc_4_ok
 ·exact tocc_5_ok
 ·exact tocc_6_ok
 ·exact tocc_7_ok
 ·exact tocc_8_ok
 ·exact tocc_9_ok
 ·exact tocc_10_ok
end Go.Proofs.YtojgmjfcfpclbaaGreat
