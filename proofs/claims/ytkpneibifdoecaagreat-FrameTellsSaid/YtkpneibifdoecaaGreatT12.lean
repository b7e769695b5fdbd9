import Derived.Test.YtkpneibifdoecaaGreatT05
open List renaming replicate→Vt
open Bool renaming eq_iff_iff→Vw
/- Contracts and plain laws that a statement's proof leans on (texts merged:XOf,XOfA,XMay0,XMay1). -/
set_option linter.unusedVariables false
set_option linter.unusedSimpArgs false
set_option maxRecDepth 100000
set_option maxHeartbeats 8000000
namespace Go.Proofs.YtkpneibifdoecaaGreat
open Go Go.Ev
def bL:List D:= [.int .i8 1,.int .u8 137,.int .i8 0,.int .i8 3,.int .u8 199,.int .i8 0,.int .i8 1,.int .u8 1,.int .i8 0,.int .i8 1,.int .u8 9,.int .i8 0,.int .i8 1,.int .u8 33,.int .i8 0,.int .i8 1,.int .u8 41,.int .i8 0,.int .i8 1,.int .u8 49,.int .i8 0,.int .i8 1,.int .u8 57,.int .i8 0,.int .i8 1,.int .u8 133,.int .i8 0,.int .i8 3,.int .u8 129,.int .i8 0,.int .i8 3,.int .u8 129,.int .i8 1,.int .i8 3,.int .u8 129,.int .i8 4,.int .i8 3,.int .u8 129,.int .i8 5,.int .i8 3,.int .u8 129,.int .i8 6,.int .i8 3,.int .u8 129,.int .i8 7,.int .i8 3,.int .u8 247,.int .i8 0,.int .i8 2,.int .u8 175,.int .i8 0,.int .i8 4,.int .u8 193,.int .i8 4,.int .i8 4,.int .u8 193,.int .i8 5,.int .i8 4,.int .u8 193,.int .i8 7,.int .i8 5,.int .u8 211,.int .i8 4,.int .i8 5,.int .u8 211,.int .i8 5,.int .i8 5,.int .u8 211,.int .i8 7,.int .i8 5,.int .u8 247,.int .i8 3,.int .i8 5,.int .u8 247,.int .i8 6,.int .i8 6,.int .u8 64,.int .i8 0,.int .i8 7,.int .u8 139,.int .i8 0,.int .i8 8,.int .u8 137,.int .i8 0,.int .i8 9,.int .u8 233,.int .i8 0,.int .i8 10,.int .u8 128,.int .i8 0,.int .i8 11,.int .u8 195,.int .i8 0,.int .i8 11,.int .u8 5,.int .i8 0]
def cU (QC:Int):Prop:=aJ Tryz.prog 99 ([.int .i8 QC]) (.aQ [.agg [.int .i8 (bq QC),.int .u8 (eD QC),.int .i8 (iu QC)],.bool true])
theorem Gq:cU 0:=by
 exact (jR (d:= .aQ [.agg [.int .i8 1,.int .u8 137,.int .i8 0],.bool true]) [.inl,tT,tT,tT,tF,tF,tT,.bc bL 0 3 ([.int .i8 1,.int .u8 137,.int .i8 0]) ⟨rfl,by decide⟩] (by kernel_rfl)).to (by simp [wk,ay];decide)
theorem Gp:cU 1:=by
 exact (jR (d:= .aQ [.agg [.int .i8 3,.int .u8 199,.int .i8 0],.bool true]) [.inl,tT,tT,tT,tF,tF,tT,.bc bL 3 3 ([.int .i8 3,.int .u8 199,.int .i8 0]) ⟨rfl,by decide⟩] (by kernel_rfl)).to (by simp [wk,ay];decide)
theorem Gn:cU 2:=by
 exact (jR (d:= .aQ [.agg [.int .i8 1,.int .u8 1,.int .i8 0],.bool true]) [.inl,tT,tT,tT,tF,tF,tT,.bc bL 6 3 ([.int .i8 1,.int .u8 1,.int .i8 0]) ⟨rfl,by decide⟩] (by kernel_rfl)).to (by simp [wk,ay];decide)
theorem Gm:cU 3:=by
 exact (jR (d:= .aQ [.agg [.int .i8 1,.int .u8 9,.int .i8 0],.bool true]) [.inl,tT,tT,tT,tF,tF,tT,.bc bL 9 3 ([.int .i8 1,.int .u8 9,.int .i8 0]) ⟨rfl,by decide⟩] (by kernel_rfl)).to (by simp [wk,ay];decide)
theorem Gl:cU 4:=by
 exact (jR (d:= .aQ [.agg [.int .i8 1,.int .u8 33,.int .i8 0],.bool true]) [.inl,tT,tT,tT,tF,tF,tT,.bc bL 12 3 ([.int .i8 1,.int .u8 33,.int .i8 0]) ⟨rfl,by decide⟩] (by kernel_rfl)).to (by simp [wk,ay];decide)
theorem Gk:cU 5:=by
 exact (jR (d:= .aQ [.agg [.int .i8 1,.int .u8 41,.int .i8 0],.bool true]) [.inl,tT,tT,tT,tF,tF,tT,.bc bL 15 3 ([.int .i8 1,.int .u8 41,.int .i8 0]) ⟨rfl,by decide⟩] (by kernel_rfl)).to (by simp [wk,ay];decide)
theorem Gj:cU 6:=by
 exact (jR (d:= .aQ [.agg [.int .i8 1,.int .u8 49,.int .i8 0],.bool true]) [.inl,tT,tT,tT,tF,tF,tT,.bc bL 18 3 ([.int .i8 1,.int .u8 49,.int .i8 0]) ⟨rfl,by decide⟩] (by kernel_rfl)).to (by simp [wk,ay];decide)
theorem Gi:cU 7:=by
 exact (jR (d:= .aQ [.agg [.int .i8 1,.int .u8 57,.int .i8 0],.bool true]) [.inl,tT,tT,tT,tF,tF,tT,.bc bL 21 3 ([.int .i8 1,.int .u8 57,.int .i8 0]) ⟨rfl,by decide⟩] (by kernel_rfl)).to (by simp [wk,ay];decide)
theorem Gh:cU 8:=by
 exact (jR (d:= .aQ [.agg [.int .i8 1,.int .u8 133,.int .i8 0],.bool true]) [.inl,tT,tT,tT,tF,tF,tT,.bc bL 24 3 ([.int .i8 1,.int .u8 133,.int .i8 0]) ⟨rfl,by decide⟩] (by kernel_rfl)).to (by simp [wk,ay];decide)
theorem Gg:cU 9:=by
 exact (jR (d:= .aQ [.agg [.int .i8 3,.int .u8 129,.int .i8 0],.bool true]) [.inl,tT,tT,tT,tF,tF,tT,.bc bL 27 3 ([.int .i8 3,.int .u8 129,.int .i8 0]) ⟨rfl,by decide⟩] (by kernel_rfl)).to (by simp [wk,ay];decide)
theorem DZ:cU 10:=by
 exact (jR (d:= .aQ [.agg [.int .i8 3,.int .u8 129,.int .i8 1],.bool true]) [.inl,tT,tT,tT,tF,tF,tT,.bc bL 30 3 ([.int .i8 3,.int .u8 129,.int .i8 1]) ⟨rfl,by decide⟩] (by kernel_rfl)).to (by simp [wk,ay];decide)
theorem DY:cU 11:=by
 exact (jR (d:= .aQ [.agg [.int .i8 3,.int .u8 129,.int .i8 4],.bool true]) [.inl,tT,tT,tT,tF,tF,tT,.bc bL 33 3 ([.int .i8 3,.int .u8 129,.int .i8 4]) ⟨rfl,by decide⟩] (by kernel_rfl)).to (by simp [wk,ay];decide)
theorem DX:cU 12:=by
 exact (jR (d:= .aQ [.agg [.int .i8 3,.int .u8 129,.int .i8 5],.bool true]) [.inl,tT,tT,tT,tF,tF,tT,.bc bL 36 3 ([.int .i8 3,.int .u8 129,.int .i8 5]) ⟨rfl,by decide⟩] (by kernel_rfl)).to (by simp [wk,ay];decide)
theorem DW:cU 13:=by
 exact (jR (d:= .aQ [.agg [.int .i8 3,.int .u8 129,.int .i8 6],.bool true]) [.inl,tT,tT,tT,tF,tF,tT,.bc bL 39 3 ([.int .i8 3,.int .u8 129,.int .i8 6]) ⟨rfl,by decide⟩] (by kernel_rfl)).to (by simp [wk,ay];decide)
theorem DV:cU 14:=by
 exact (jR (d:= .aQ [.agg [.int .i8 3,.int .u8 129,.int .i8 7],.bool true]) [.inl,tT,tT,tT,tF,tF,tT,.bc bL 42 3 ([.int .i8 3,.int .u8 129,.int .i8 7]) ⟨rfl,by decide⟩] (by kernel_rfl)).to (by simp [wk,ay];decide)
theorem DU:cU 15:=by
 exact (jR (d:= .aQ [.agg [.int .i8 3,.int .u8 247,.int .i8 0],.bool true]) [.inl,tT,tT,tT,tF,tF,tT,.bc bL 45 3 ([.int .i8 3,.int .u8 247,.int .i8 0]) ⟨rfl,by decide⟩] (by kernel_rfl)).to (by simp [wk,ay];decide)
theorem DT:cU 16:=by
 exact (jR (d:= .aQ [.agg [.int .i8 2,.int .u8 175,.int .i8 0],.bool true]) [.inl,tT,tT,tT,tF,tF,tT,.bc bL 48 3 ([.int .i8 2,.int .u8 175,.int .i8 0]) ⟨rfl,by decide⟩] (by kernel_rfl)).to (by simp [wk,ay];decide)
theorem DS:cU 17:=by
 exact (jR (d:= .aQ [.agg [.int .i8 4,.int .u8 193,.int .i8 4],.bool true]) [.inl,tT,tT,tT,tF,tF,tT,.bc bL 51 3 ([.int .i8 4,.int .u8 193,.int .i8 4]) ⟨rfl,by decide⟩] (by kernel_rfl)).to (by simp [wk,ay];decide)
theorem DR:cU 18:=by
 exact (jR (d:= .aQ [.agg [.int .i8 4,.int .u8 193,.int .i8 5],.bool true]) [.inl,tT,tT,tT,tF,tF,tT,.bc bL 54 3 ([.int .i8 4,.int .u8 193,.int .i8 5]) ⟨rfl,by decide⟩] (by kernel_rfl)).to (by simp [wk,ay];decide)
theorem DQ:cU 19:=by
 exact (jR (d:= .aQ [.agg [.int .i8 4,.int .u8 193,.int .i8 7],.bool true]) [.inl,tT,tT,tT,tF,tF,tT,.bc bL 57 3 ([.int .i8 4,.int .u8 193,.int .i8 7]) ⟨rfl,by decide⟩] (by kernel_rfl)).to (by simp [wk,ay];decide)
theorem DP:cU 20:=by
 exact (jR (d:= .aQ [.agg [.int .i8 5,.int .u8 211,.int .i8 4],.bool true]) [.inl,tT,tT,tT,tF,tF,tT,.bc bL 60 3 ([.int .i8 5,.int .u8 211,.int .i8 4]) ⟨rfl,by decide⟩] (by kernel_rfl)).to (by simp [wk,ay];decide)
theorem DN:cU 21:=by
 exact (jR (d:= .aQ [.agg [.int .i8 5,.int .u8 211,.int .i8 5],.bool true]) [.inl,tT,tT,tT,tF,tF,tT,.bc bL 63 3 ([.int .i8 5,.int .u8 211,.int .i8 5]) ⟨rfl,by decide⟩] (by kernel_rfl)).to (by simp [wk,ay];decide)
theorem DM:cU 22:=by
 exact (jR (d:= .aQ [.agg [.int .i8 5,.int .u8 211,.int .i8 7],.bool true]) [.inl,tT,tT,tT,tF,tF,tT,.bc bL 66 3 ([.int .i8 5,.int .u8 211,.int .i8 7]) ⟨rfl,by decide⟩] (by kernel_rfl)).to (by simp [wk,ay];decide)
theorem DL:cU 23:=by
 exact (jR (d:= .aQ [.agg [.int .i8 5,.int .u8 247,.int .i8 3],.bool true]) [.inl,tT,tT,tT,tF,tF,tT,.bc bL 69 3 ([.int .i8 5,.int .u8 247,.int .i8 3]) ⟨rfl,by decide⟩] (by kernel_rfl)).to (by simp [wk,ay];decide)
theorem DK:cU 24:=by
 exact (jR (d:= .aQ [.agg [.int .i8 5,.int .u8 247,.int .i8 6],.bool true]) [.inl,tT,tT,tT,tF,tF,tT,.bc bL 72 3 ([.int .i8 5,.int .u8 247,.int .i8 6]) ⟨rfl,by decide⟩] (by kernel_rfl)).to (by simp [wk,ay];decide)
theorem DJ:cU 25:=by
 exact (jR (d:= .aQ [.agg [.int .i8 6,.int .u8 64,.int .i8 0],.bool true]) [.inl,tT,tT,tT,tF,tF,tT,.bc bL 75 3 ([.int .i8 6,.int .u8 64,.int .i8 0]) ⟨rfl,by decide⟩] (by kernel_rfl)).to (by simp [wk,ay];decide)
theorem DI:cU 26:=by
 exact (jR (d:= .aQ [.agg [.int .i8 7,.int .u8 139,.int .i8 0],.bool true]) [.inl,tT,tT,tT,tF,tF,tT,.bc bL 78 3 ([.int .i8 7,.int .u8 139,.int .i8 0]) ⟨rfl,by decide⟩] (by kernel_rfl)).to (by simp [wk,ay];decide)
theorem DH:cU 27:=by
 exact (jR (d:= .aQ [.agg [.int .i8 8,.int .u8 137,.int .i8 0],.bool true]) [.inl,tT,tT,tT,tF,tF,tT,.bc bL 81 3 ([.int .i8 8,.int .u8 137,.int .i8 0]) ⟨rfl,by decide⟩] (by kernel_rfl)).to (by simp [wk,ay];decide)
theorem DG:cU 28:=by
 exact (jR (d:= .aQ [.agg [.int .i8 9,.int .u8 233,.int .i8 0],.bool true]) [.inl,tT,tT,tT,tF,tF,tT,.bc bL 84 3 ([.int .i8 9,.int .u8 233,.int .i8 0]) ⟨rfl,by decide⟩] (by kernel_rfl)).to (by simp [wk,ay];decide)
theorem DF:cU 29:=by
 exact (jR (d:= .aQ [.agg [.int .i8 10,.int .u8 128,.int .i8 0],.bool true]) [.inl,tT,tT,tT,tF,tF,tT,.bc bL 87 3 ([.int .i8 10,.int .u8 128,.int .i8 0]) ⟨rfl,by decide⟩] (by kernel_rfl)).to (by simp [wk,ay];decide)
theorem DE:cU 30:=by
 exact (jR (d:= .aQ [.agg [.int .i8 11,.int .u8 195,.int .i8 0],.bool true]) [.inl,tT,tT,tT,tF,tF,tT,.bc bL 90 3 ([.int .i8 11,.int .u8 195,.int .i8 0]) ⟨rfl,by decide⟩] (by kernel_rfl)).to (by simp [wk,ay];decide)
theorem DD:cU 31:=by
 exact (jR (d:= .aQ [.agg [.int .i8 11,.int .u8 5,.int .i8 0],.bool true]) [.inl,tT,tT,tT,tF,tF,tT,.bc bL 93 3 ([.int .i8 11,.int .u8 5,.int .i8 0]) ⟨rfl,by decide⟩] (by kernel_rfl)).to (by simp [wk,ay];decide)
theorem Bm (op:Int) (h:op<0):aJ Tryz.prog 99 ([.int .i8 op]) (.aQ [.agg [.int .i8 0,.int .u8 0,.int .i8 0],.bool false]):=by
 exact (jR (d:= .aQ [.agg [.int .i8 0,.int .u8 0,.int .i8 0],.bool false]) ([.inl]++Vt 3 (tC (eF (decide_eq_true h)))++ [tC (decide_eq_true h),tT]) (by kernel_rfl)).to (by simp [wk,ay])
theorem yF (op:Int) (h:32≤op) (ho:op≤127):aJ Tryz.prog 99 ([.int .i8 op]) (.aQ [.agg [.int .i8 0,.int .u8 0,.int .i8 0],.bool false]):=by
 exact (jR (d:= .aQ [.agg [.int .i8 0,.int .u8 0,.int .i8 0],.bool false]) ([.inl]++Vt 3 (tC (eF (mE 0 (decide_eq_false (Int.not_lt.2 h)))))++ [tC (mE 0 (decide_eq_false (Int.not_lt.2 h))),tC (aK 32 (by (simp only [bm] at*;omega):(decide (IntKind.wrap IntKind.i64 op<32))=false))]) (by kernel_rfl)).to (by simp [wk,ay])
theorem cP (n:Int):aJ Tryz.prog 101 ([.int .i8 n]) (.bool (al n)):=by
 rcases cm (decide (n<0)) with h0|h0
 ·exact (J2 (d:= .bool false) [tC (eT (aK 0 h0)),tC (eT (aK 0 h0)),tC (aK 0 h0)] (by kernel_rfl)).to (by (try simp only [bI,wk,ay,aB,aa,ab,al,aE,af,aj] at*);first|(simp [wk,ay,aB,aa,ab,al,aE,af,aj, *];done)|(simp [wk,ay,aB,aa,ab,al,aE,af,aj, *];omega)|(rw [Vw];simp [wk,ay,aB,aa,ab,al,aE,af,aj, *];done)|(rw [Vw];simp [wk,ay,aB,aa,ab,al,aE,af,aj, *];omega)|(rw [Vw];simp [wk,ay,aB,aa,ab,al,aE,af,aj, *];grind)|(subst_vars;rw [Vw];simp;grind))
 exact (J2 (d:= .bool (decide (n<16))) [tC (eT (aK 0 h0)),tC (eT (aK 0 h0)),tC (aK 0 h0)] (by kernel_rfl)).to (by (try simp only [bI,wk,ay,aB,aa,ab,al,aE,af,aj] at*);first|(simp [wk,ay,aB,aa,ab,al,aE,af,aj, *];done)|(simp [wk,ay,aB,aa,ab,al,aE,af,aj, *];omega)|(rw [Vw];simp [wk,ay,aB,aa,ab,al,aE,af,aj, *];done)|(rw [Vw];simp [wk,ay,aB,aa,ab,al,aE,af,aj, *];omega)|(rw [Vw];simp [wk,ay,aB,aa,ab,al,aE,af,aj, *];grind)|(subst_vars;rw [Vw];simp;grind))
theorem nh (n:Int):aJ Tryz.prog 103 ([.int .i8 n]) (.bool (aE n)):=by
 rcases cm (decide (n<2)) with h0|h0
 ·exact (Gu (d:= .bool false) [tC (eT (aK 2 h0)),tC (eT (aK 2 h0)),tC (aK 2 h0),tT,tT,tT,tC (eT (aK 12 (I3 12 h0))),tC (eT (aK 12 (I3 12 h0))),tT,tC (aK 12 (I3 12 h0)),tF] (by kernel_rfl)).to (by (try simp only [bI,wk,ay,aB,aa,ab,al,aE,af,aj] at*);first|(simp [wk,ay,aB,aa,ab,al,aE,af,aj, *];done)|(simp [wk,ay,aB,aa,ab,al,aE,af,aj, *];omega)|(rw [Vw];simp [wk,ay,aB,aa,ab,al,aE,af,aj, *];done)|(rw [Vw];simp [wk,ay,aB,aa,ab,al,aE,af,aj, *];omega)|(rw [Vw];simp [wk,ay,aB,aa,ab,al,aE,af,aj, *];grind)|(subst_vars;rw [Vw];simp;grind))
 let E1:EL:= [tC (eT (aK 2 h0)),tC (eT (aK 2 h0)),tC (aK 2 h0)]
 rcases cm (decide (n<8)) with h1|h1
 ·exact (Gu (d:= .bool true) (E1++Vt 4 (tC (eF (cQ 7 h1)))++ [tC (cQ 7 h1)]) (by kernel_rfl)).to (by clear E1;(try simp only [bI,wk,ay,aB,aa,ab,al,aE,af,aj] at*);first|(simp [wk,ay,aB,aa,ab,al,aE,af,aj, *];done)|(simp [wk,ay,aB,aa,ab,al,aE,af,aj, *];omega)|(rw [Vw];simp [wk,ay,aB,aa,ab,al,aE,af,aj, *];done)|(rw [Vw];simp [wk,ay,aB,aa,ab,al,aE,af,aj, *];omega)|(rw [Vw];simp [wk,ay,aB,aa,ab,al,aE,af,aj, *];grind)|(subst_vars;rw [Vw];simp;grind))
 rcases cm (decide (n<12)) with h2|h2
 ·exact (Gu (d:= .bool false) (E1++Vt 3 (tC (eF (cQ 7 h1)))++ [tC (eT (aK 12 h2)),tC (eT (aK 12 h2)),tC (eF (cQ 7 h1)),tC (aK 12 h2),tC (cQ 7 h1)]) (by kernel_rfl)).to (by clear E1;(try simp only [bI,wk,ay,aB,aa,ab,al,aE,af,aj] at*);first|(simp [wk,ay,aB,aa,ab,al,aE,af,aj, *];done)|(simp [wk,ay,aB,aa,ab,al,aE,af,aj, *];omega)|(rw [Vw];simp [wk,ay,aB,aa,ab,al,aE,af,aj, *];done)|(rw [Vw];simp [wk,ay,aB,aa,ab,al,aE,af,aj, *];omega)|(rw [Vw];simp [wk,ay,aB,aa,ab,al,aE,af,aj, *];grind)|(subst_vars;rw [Vw];simp;grind))
 exact (Gu (d:= .bool (decide (n≤15))) (E1++Vt 3 (tC (eF (cQ 7 h1)))++ [tC (eT (aK 12 h2)),tC (eT (aK 12 h2)),tC (eF (cQ 7 h1)),tC (aK 12 h2),tC (cQ 7 h1)]) (by kernel_rfl)).to (by clear E1;(try simp only [bI,wk,ay,aB,aa,ab,al,aE,af,aj] at*);first|(simp [wk,ay,aB,aa,ab,al,aE,af,aj, *];done)|(simp [wk,ay,aB,aa,ab,al,aE,af,aj, *];omega)|(rw [Vw];simp [wk,ay,aB,aa,ab,al,aE,af,aj, *];done)|(rw [Vw];simp [wk,ay,aB,aa,ab,al,aE,af,aj, *];omega)|(rw [Vw];simp [wk,ay,aB,aa,ab,al,aE,af,aj, *];grind)|(subst_vars;rw [Vw];simp;grind))
theorem bG (n a b:Int):aJ Tryz.prog 102 ([.int .i64 n,.int .i64 a,.int .i64 b]) (.bool (decide (a≤n)&&decide (n≤b))):=by
 rcases cm (decide (n≥a)) with h0|h0
 ·exact (J1 (d:= .bool (decide (n≤b))) [tC (eT h0),tC (eT h0),tC (eT h0),tC h0] (by kernel_rfl)).to (by (try simp only [bI,wk,ay,aB,aa,ab,al,aE,af,aj] at*);(simp [wk,ay,aB,aa,ab,al,aE,af,aj, *];done))
 exact (J1 (d:= .bool false) [tC (eT h0),tC (eT h0),tC (eT h0),tC h0] (by kernel_rfl)).to (by (try simp only [bI,wk,ay,aB,aa,ab,al,aE,af,aj] at*);(simp [wk,ay,aB,aa,ab,al,aE,af,aj, *];done))
theorem hZ (n:Int):aJ Tryz.prog 104 ([.int .i8 n]) (.bool (af n)):=by
 by_cases h0:n=8
 ·subst h0
  exact (D2 (d:= .bool true) [tT,tT] (by kernel_rfl)).to (by (try simp only [bI,wk,ay,aB,aa,ab,al,aE,af,aj] at*);(simp [wk,ay,aB,aa,ab,al,aE,af,aj, *];done))
 by_cases h1:n=16
 ·subst h1
  exact (D2 (d:= .bool true) [tC (aH h0),tT,tT] (by kernel_rfl)).to (by (try simp only [bI,wk,ay,aB,aa,ab,al,aE,af,aj] at*);(simp [wk,ay,aB,aa,ab,al,aE,af,aj, *];done))
 by_cases h2:n=32
 ·subst h2
  exact (D2 (d:= .bool true) [tC (aH h0),tC (aH h1),tT,tT] (by kernel_rfl)).to (by (try simp only [bI,wk,ay,aB,aa,ab,al,aE,af,aj] at*);(simp [wk,ay,aB,aa,ab,al,aE,af,aj, *];done))
 by_cases h3:n=64
 ·subst h3
  exact (D2 (d:= .bool true) [tC (aH h0),tC (aH h1),tC (aH h2),tT] (by kernel_rfl)).to (by (try simp only [bI,wk,ay,aB,aa,ab,al,aE,af,aj] at*);(simp [wk,ay,aB,aa,ab,al,aE,af,aj, *];done))
 exact (D2 (d:= .bool false) [tC (aH h0),tC (aH h1),tC (aH h2),tC (aH h3)] (by kernel_rfl)).to (by (try simp only [bI,wk,ay,aB,aa,ab,al,aE,af,aj] at*);(simp [wk,ay,aB,aa,ab,al,aE,af,aj, *];done))
theorem ck (n:Int):aJ Tryz.prog 128 ([.int .i8 n]) (.bool (al n)):=by
 rcases cm (decide (n<0)) with h0|h0
 ·exact (JZ (d:= .bool false) [tC (eT (aK 0 h0)),tC (eT (aK 0 h0)),tC (aK 0 h0)] (by kernel_rfl)).to (by (try simp only [bI,wk,ay,aB,aa,ab,al,aE,af,aj] at*);first|(simp [wk,ay,aB,aa,ab,al,aE,af,aj, *];done)|(simp [wk,ay,aB,aa,ab,al,aE,af,aj, *];omega)|(rw [Vw];simp [wk,ay,aB,aa,ab,al,aE,af,aj, *];done)|(rw [Vw];simp [wk,ay,aB,aa,ab,al,aE,af,aj, *];omega)|(rw [Vw];simp [wk,ay,aB,aa,ab,al,aE,af,aj, *];grind)|(subst_vars;rw [Vw];simp;grind))
 exact (JZ (d:= .bool (decide (n<16))) [tC (eT (aK 0 h0)),tC (eT (aK 0 h0)),tC (aK 0 h0)] (by kernel_rfl)).to (by (try simp only [bI,wk,ay,aB,aa,ab,al,aE,af,aj] at*);first|(simp [wk,ay,aB,aa,ab,al,aE,af,aj, *];done)|(simp [wk,ay,aB,aa,ab,al,aE,af,aj, *];omega)|(rw [Vw];simp [wk,ay,aB,aa,ab,al,aE,af,aj, *];done)|(rw [Vw];simp [wk,ay,aB,aa,ab,al,aE,af,aj, *];omega)|(rw [Vw];simp [wk,ay,aB,aa,ab,al,aE,af,aj, *];grind)|(subst_vars;rw [Vw];simp;grind))
theorem yc (n:Int):aJ Tryz.prog 131 ([.int .i8 n]) (.bool (aE n)):=by
 rcases cm (decide (n<2)) with h0|h0
 ·exact (Gt (d:= .bool false) [tC (eT (aK 2 h0)),tC (eT (aK 2 h0)),tC (aK 2 h0),tT,tT,tT,tC (eT (aK 12 (I3 12 h0))),tC (eT (aK 12 (I3 12 h0))),tT,tC (aK 12 (I3 12 h0)),tF] (by kernel_rfl)).to (by (try simp only [bI,wk,ay,aB,aa,ab,al,aE,af,aj] at*);first|(simp [wk,ay,aB,aa,ab,al,aE,af,aj, *];done)|(simp [wk,ay,aB,aa,ab,al,aE,af,aj, *];omega)|(rw [Vw];simp [wk,ay,aB,aa,ab,al,aE,af,aj, *];done)|(rw [Vw];simp [wk,ay,aB,aa,ab,al,aE,af,aj, *];omega)|(rw [Vw];simp [wk,ay,aB,aa,ab,al,aE,af,aj, *];grind)|(subst_vars;rw [Vw];simp;grind))
 let E1:EL:= [tC (eT (aK 2 h0)),tC (eT (aK 2 h0)),tC (aK 2 h0)]
 rcases cm (decide (n<8)) with h1|h1
 ·exact (Gt (d:= .bool true) (E1++Vt 4 (tC (eF (cQ 7 h1)))++ [tC (cQ 7 h1)]) (by kernel_rfl)).to (by clear E1;(try simp only [bI,wk,ay,aB,aa,ab,al,aE,af,aj] at*);first|(simp [wk,ay,aB,aa,ab,al,aE,af,aj, *];done)|(simp [wk,ay,aB,aa,ab,al,aE,af,aj, *];omega)|(rw [Vw];simp [wk,ay,aB,aa,ab,al,aE,af,aj, *];done)|(rw [Vw];simp [wk,ay,aB,aa,ab,al,aE,af,aj, *];omega)|(rw [Vw];simp [wk,ay,aB,aa,ab,al,aE,af,aj, *];grind)|(subst_vars;rw [Vw];simp;grind))
 rcases cm (decide (n<12)) with h2|h2
 ·exact (Gt (d:= .bool false) (E1++Vt 3 (tC (eF (cQ 7 h1)))++ [tC (eT (aK 12 h2)),tC (eT (aK 12 h2)),tC (eF (cQ 7 h1)),tC (aK 12 h2),tC (cQ 7 h1)]) (by kernel_rfl)).to (by clear E1;(try simp only [bI,wk,ay,aB,aa,ab,al,aE,af,aj] at*);first|(simp [wk,ay,aB,aa,ab,al,aE,af,aj, *];done)|(simp [wk,ay,aB,aa,ab,al,aE,af,aj, *];omega)|(rw [Vw];simp [wk,ay,aB,aa,ab,al,aE,af,aj, *];done)|(rw [Vw];simp [wk,ay,aB,aa,ab,al,aE,af,aj, *];omega)|(rw [Vw];simp [wk,ay,aB,aa,ab,al,aE,af,aj, *];grind)|(subst_vars;rw [Vw];simp;grind))
 exact (Gt (d:= .bool (decide (n≤15))) (E1++Vt 3 (tC (eF (cQ 7 h1)))++ [tC (eT (aK 12 h2)),tC (eT (aK 12 h2)),tC (eF (cQ 7 h1)),tC (aK 12 h2),tC (cQ 7 h1)]) (by kernel_rfl)).to (by clear E1;(try simp only [bI,wk,ay,aB,aa,ab,al,aE,af,aj] at*);first|(simp [wk,ay,aB,aa,ab,al,aE,af,aj, *];done)|(simp [wk,ay,aB,aa,ab,al,aE,af,aj, *];omega)|(rw [Vw];simp [wk,ay,aB,aa,ab,al,aE,af,aj, *];done)|(rw [Vw];simp [wk,ay,aB,aa,ab,al,aE,af,aj, *];omega)|(rw [Vw];simp [wk,ay,aB,aa,ab,al,aE,af,aj, *];grind)|(subst_vars;rw [Vw];simp;grind))
theorem iq (n:Int):aJ Tryz.prog 130 ([.int .i8 n]) (.bool (aj n)):=by
 by_cases h0:n=32
 ·subst h0
  exact (JX (d:= .bool true) [tF,tF,tT] (by kernel_rfl)).to (by (try simp only [bI,wk,ay,aB,aa,ab,al,aE,af,aj] at*);first|(simp [wk,ay,aB,aa,ab,al,aE,af,aj, *];done)|(simp [wk,ay,aB,aa,ab,al,aE,af,aj, *];omega)|(rw [Vw];simp [wk,ay,aB,aa,ab,al,aE,af,aj, *];done)|(rw [Vw];simp [wk,ay,aB,aa,ab,al,aE,af,aj, *];omega)|(rw [Vw];simp [wk,ay,aB,aa,ab,al,aE,af,aj, *];grind)|(subst_vars;rw [Vw];simp;grind))
 exact (JX (d:= .bool (n==64)) [tC (eF (aH h0)),tC (eF (aH h0)),tC (aH h0)] (by kernel_rfl)).to (by (try simp only [bI,wk,ay,aB,aa,ab,al,aE,af,aj] at*);first|(simp [wk,ay,aB,aa,ab,al,aE,af,aj, *];done)|(simp [wk,ay,aB,aa,ab,al,aE,af,aj, *];omega)|(rw [Vw];simp [wk,ay,aB,aa,ab,al,aE,af,aj, *];done)|(rw [Vw];simp [wk,ay,aB,aa,ab,al,aE,af,aj, *];omega)|(rw [Vw];simp [wk,ay,aB,aa,ab,al,aE,af,aj, *];grind)|(subst_vars;rw [Vw];simp;grind))
theorem p3 (n:Int):aJ Tryz.prog 132 ([.int .i8 n]) (.bool (af n)):=by
 by_cases h0:n=8
 ·subst h0
  exact (Gs (d:= .bool true) [tF,tF,tT,tF,tF,tT,tF,tF,tT] (by kernel_rfl)).to (by (try simp only [bI,wk,ay,aB,aa,ab,al,aE,af,aj] at*);first|(simp [wk,ay,aB,aa,ab,al,aE,af,aj, *];done)|(simp [wk,ay,aB,aa,ab,al,aE,af,aj, *];omega)|(rw [Vw];simp [wk,ay,aB,aa,ab,al,aE,af,aj, *];done)|(rw [Vw];simp [wk,ay,aB,aa,ab,al,aE,af,aj, *];omega)|(rw [Vw];simp [wk,ay,aB,aa,ab,al,aE,af,aj, *];grind)|(subst_vars;rw [Vw];simp;grind))
 let E1:EL:= [tC (eF (aH h0)),tC (eF (aH h0)),tC (aH h0)]
 by_cases h1:n=16
 ·subst h1
  exact (Gs (d:= .bool true) (E1++ [tF,tF,tT,tF,tF,tT]) (by kernel_rfl)).to (by clear E1;(try simp only [bI,wk,ay,aB,aa,ab,al,aE,af,aj] at*);first|(simp [wk,ay,aB,aa,ab,al,aE,af,aj, *];done)|(simp [wk,ay,aB,aa,ab,al,aE,af,aj, *];omega)|(rw [Vw];simp [wk,ay,aB,aa,ab,al,aE,af,aj, *];done)|(rw [Vw];simp [wk,ay,aB,aa,ab,al,aE,af,aj, *];omega)|(rw [Vw];simp [wk,ay,aB,aa,ab,al,aE,af,aj, *];grind)|(subst_vars;rw [Vw];simp;grind))
 by_cases h2:n=32
 ·subst h2
  exact (Gs (d:= .bool true) (E1++ [tC (eF (aH h1)),tC (eF (aH h1)),tC (aH h1),tF,tF,tT]) (by kernel_rfl)).to (by clear E1;(try simp only [bI,wk,ay,aB,aa,ab,al,aE,af,aj] at*);first|(simp [wk,ay,aB,aa,ab,al,aE,af,aj, *];done)|(simp [wk,ay,aB,aa,ab,al,aE,af,aj, *];omega)|(rw [Vw];simp [wk,ay,aB,aa,ab,al,aE,af,aj, *];done)|(rw [Vw];simp [wk,ay,aB,aa,ab,al,aE,af,aj, *];omega)|(rw [Vw];simp [wk,ay,aB,aa,ab,al,aE,af,aj, *];grind)|(subst_vars;rw [Vw];simp;grind))
 exact (Gs (d:= .bool (n==64)) (E1++ [tC (eF (aH h1)),tC (eF (aH h1)),tC (aH h1),tC (eF (aH h2)),tC (eF (aH h2)),tC (aH h2)]) (by kernel_rfl)).to (by clear E1;(try simp only [bI,wk,ay,aB,aa,ab,al,aE,af,aj] at*);first|(simp [wk,ay,aB,aa,ab,al,aE,af,aj, *];done)|(simp [wk,ay,aB,aa,ab,al,aE,af,aj, *];omega)|(rw [Vw];simp [wk,ay,aB,aa,ab,al,aE,af,aj, *];done)|(rw [Vw];simp [wk,ay,aB,aa,ab,al,aE,af,aj, *];omega)|(rw [Vw];simp [wk,ay,aB,aa,ab,al,aE,af,aj, *];grind)|(subst_vars;rw [Vw];simp;grind))
theorem cL (n:Int):aJ Tryz.prog 129 ([.int .i64 n]) (.bool (decide (-2147483648≤n∧n≤2147483647))):=by
 rcases cm (decide (n<(-2147483648))) with h0|h0
 ·exact (JY (d:= .bool false) [tC (eT (aK (-2147483648) h0)),tC (eT (aK (-2147483648) h0)),tC (aK (-2147483648) h0)] (by kernel_rfl)).to (by (try simp only [bI,wk,ay,aB,aa,ab,al,aE,af,aj] at*);first|(simp [wk,ay,aB,aa,ab,al,aE,af,aj, *];done)|(simp [wk,ay,aB,aa,ab,al,aE,af,aj, *];omega)|(rw [Vw];simp [wk,ay,aB,aa,ab,al,aE,af,aj, *];done)|(rw [Vw];simp [wk,ay,aB,aa,ab,al,aE,af,aj, *];omega)|(rw [Vw];simp [wk,ay,aB,aa,ab,al,aE,af,aj, *];grind)|(subst_vars;rw [Vw];simp;grind))
 exact (JY (d:= .bool (decide (n<2147483648))) [tC (eT (aK (-2147483648) h0)),tC (eT (aK (-2147483648) h0)),tC (aK (-2147483648) h0)] (by kernel_rfl)).to (by (try simp only [bI,wk,ay,aB,aa,ab,al,aE,af,aj] at*);first|(simp [wk,ay,aB,aa,ab,al,aE,af,aj, *];done)|(simp [wk,ay,aB,aa,ab,al,aE,af,aj, *];omega)|(rw [Vw];simp [wk,ay,aB,aa,ab,al,aE,af,aj, *];done)|(rw [Vw];simp [wk,ay,aB,aa,ab,al,aE,af,aj, *];omega)|(rw [Vw];simp [wk,ay,aB,aa,ab,al,aE,af,aj, *];grind)|(subst_vars;rw [Vw];simp;grind))
theorem zV (n:Int):aJ Tryz.prog 133 ([.int .i64 n]) (.bool (decide (-128≤n∧n≤127))):=by
 rcases cm (decide (n<(-128))) with h0|h0
 ·exact (JW (d:= .bool false) [tC (eT (aK (-128) h0)),tC (eT (aK (-128) h0)),tC (aK (-128) h0)] (by kernel_rfl)).to (by (try simp only [bI,wk,ay,aB,aa,ab,al,aE,af,aj] at*);first|(simp [wk,ay,aB,aa,ab,al,aE,af,aj, *];done)|(simp [wk,ay,aB,aa,ab,al,aE,af,aj, *];omega)|(rw [Vw];simp [wk,ay,aB,aa,ab,al,aE,af,aj, *];done)|(rw [Vw];simp [wk,ay,aB,aa,ab,al,aE,af,aj, *];omega)|(rw [Vw];simp [wk,ay,aB,aa,ab,al,aE,af,aj, *];grind)|(subst_vars;rw [Vw];simp;grind))
 exact (JW (d:= .bool (decide (n<128))) [tC (eT (aK (-128) h0)),tC (eT (aK (-128) h0)),tC (aK (-128) h0)] (by kernel_rfl)).to (by (try simp only [bI,wk,ay,aB,aa,ab,al,aE,af,aj] at*);first|(simp [wk,ay,aB,aa,ab,al,aE,af,aj, *];done)|(simp [wk,ay,aB,aa,ab,al,aE,af,aj, *];omega)|(rw [Vw];simp [wk,ay,aB,aa,ab,al,aE,af,aj, *];done)|(rw [Vw];simp [wk,ay,aB,aa,ab,al,aE,af,aj, *];omega)|(rw [Vw];simp [wk,ay,aB,aa,ab,al,aE,af,aj, *];grind)|(subst_vars;rw [Vw];simp;grind))
theorem bp (op:Int):aJ Tryz.prog 90 ([.int .i8 op]) (.int .i64 (bU op)):=by
 by_cases h0:op=0
 ·subst h0
  exact (j5 (d:= .int .i64 1) [tT,tT] (by kernel_rfl)).to (by (simp only [wk,D.int.injEq,true_and];decide))
 let E1:EL:= [tC (aH h0)]
 by_cases h1:op=2
 ·subst h1
  exact (j5 (d:= .int .i64 1) (E1++ [tT,tT]) (by kernel_rfl)).to (by (simp only [wk,D.int.injEq,true_and];decide))
 let E2:EL:=E1++ [tC (aH h1)]
 by_cases h2:op=3
 ·subst h2
  exact (j5 (d:= .int .i64 1) (E2++ [tT,tT]) (by kernel_rfl)).to (by (simp only [wk,D.int.injEq,true_and];decide))
 let E3:EL:=E2++ [tC (aH h2)]
 by_cases h3:op=4
 ·subst h3
  exact (j5 (d:= .int .i64 1) (E3++ [tT,tT]) (by kernel_rfl)).to (by (simp only [wk,D.int.injEq,true_and];decide))
 let E4:EL:=E3++ [tC (aH h3)]
 by_cases h4:op=5
 ·subst h4
  exact (j5 (d:= .int .i64 1) (E4++ [tT,tT]) (by kernel_rfl)).to (by (simp only [wk,D.int.injEq,true_and];decide))
 let E5:EL:=E4++ [tC (aH h4)]
 by_cases h5:op=6
 ·subst h5
  exact (j5 (d:= .int .i64 1) (E5++ [tT,tT]) (by kernel_rfl)).to (by (simp only [wk,D.int.injEq,true_and];decide))
 let E6:EL:=E5++ [tC (aH h5)]
 by_cases h6:op=7
 ·subst h6
  exact (j5 (d:= .int .i64 1) (E6++ [tT,tT]) (by kernel_rfl)).to (by (simp only [wk,D.int.injEq,true_and];decide))
 let E7:EL:=E6++ [tC (aH h6)]
 by_cases h7:op=8
 ·subst h7
  exact (j5 (d:= .int .i64 1) (E7++ [tT,tT]) (by kernel_rfl)).to (by (simp only [wk,D.int.injEq,true_and];decide))
 let E8:EL:=E7++ [tC (aH h7)]
 by_cases h8:op=16
 ·subst h8
  exact (j5 (d:= .int .i64 1) (E8++ [tT]) (by kernel_rfl)).to (by (simp only [wk,D.int.injEq,true_and];decide))
 let E9:EL:=E8++ [tC (aH h8)]
 by_cases h9:op=1
 ·subst h9
  exact (j5 (d:= .int .i64 2) (E9++ [tT,tT]) (by kernel_rfl)).to (by (simp only [wk,D.int.injEq,true_and];decide))
 let E10:EL:=E9++ [tC (aH h9)]
 by_cases SV:op=9
 ·subst SV
  exact (j5 (d:= .int .i64 2) (E10++ [tT,tT]) (by kernel_rfl)).to (by (simp only [wk,D.int.injEq,true_and];decide))
 let E11:EL:=E10++ [tC (aH SV)]
 by_cases S3:op=10
 ·subst S3
  exact (j5 (d:= .int .i64 2) (E11++ [tT,tT]) (by kernel_rfl)).to (by (simp only [wk,D.int.injEq,true_and];decide))
 let E12:EL:=E11++ [tC (aH S3)]
 by_cases TH:op=11
 ·subst TH
  exact (j5 (d:= .int .i64 2) (E12++ [tT,tT]) (by kernel_rfl)).to (by (simp only [wk,D.int.injEq,true_and];decide))
 let E13:EL:=E12++ [tC (aH TH)]
 by_cases Pv:op=12
 ·subst Pv
  exact (j5 (d:= .int .i64 2) (E13++ [tT,tT]) (by kernel_rfl)).to (by (simp only [wk,D.int.injEq,true_and];decide))
 let E14:EL:=E13++ [tC (aH Pv)]
 by_cases TK:op=13
 ·subst TK
  exact (j5 (d:= .int .i64 2) (E14++ [tT,tT]) (by kernel_rfl)).to (by (simp only [wk,D.int.injEq,true_and];decide))
 let E15:EL:=E14++ [tC (aH TK)]
 by_cases PO:op=14
 ·subst PO
  exact (j5 (d:= .int .i64 2) (E15++ [tT,tT]) (by kernel_rfl)).to (by (simp only [wk,D.int.injEq,true_and];decide))
 let E16:EL:=E15++ [tC (aH PO)]
 by_cases h16:op=15
 ·subst h16
  exact (j5 (d:= .int .i64 2) (E16++ [tT]) (by kernel_rfl)).to (by (simp only [wk,D.int.injEq,true_and];decide))
 let E17:EL:=E16++ [tC (aH h16)]
 by_cases h17:op=17
 ·subst h17
  exact (j5 (d:= .int .i64 3) (E17++ [tT,tT]) (by kernel_rfl)).to (by (simp only [wk,D.int.injEq,true_and];decide))
 let E18:EL:=E17++ [tC (aH h17)]
 by_cases h18:op=18
 ·subst h18
  exact (j5 (d:= .int .i64 3) (E18++ [tT,tT]) (by kernel_rfl)).to (by (simp only [wk,D.int.injEq,true_and];decide))
 let E19:EL:=E18++ [tC (aH h18)]
 by_cases h19:op=19
 ·subst h19
  exact (j5 (d:= .int .i64 3) (E19++ [tT]) (by kernel_rfl)).to (by (simp only [wk,D.int.injEq,true_and];decide))
 let E20:EL:=E19++ [tC (aH h19)]
 by_cases h20:op=20
 ·subst h20
  exact (j5 (d:= .int .i64 4) (E20++ [tT,tT]) (by kernel_rfl)).to (by (simp only [wk,D.int.injEq,true_and];decide))
 let E21:EL:=E20++ [tC (aH h20)]
 by_cases h21:op=21
 ·subst h21
  exact (j5 (d:= .int .i64 4) (E21++ [tT,tT]) (by kernel_rfl)).to (by (simp only [wk,D.int.injEq,true_and];decide))
 let E22:EL:=E21++ [tC (aH h21)]
 by_cases h22:op=22
 ·subst h22
  exact (j5 (d:= .int .i64 4) (E22++ [tT,tT]) (by kernel_rfl)).to (by (simp only [wk,D.int.injEq,true_and];decide))
 let E23:EL:=E22++ [tC (aH h22)]
 by_cases h23:op=23
 ·subst h23
  exact (j5 (d:= .int .i64 4) (E23++ [tT,tT]) (by kernel_rfl)).to (by (simp only [wk,D.int.injEq,true_and];decide))
 let E24:EL:=E23++ [tC (aH h23)]
 by_cases h24:op=24
 ·subst h24
  exact (j5 (d:= .int .i64 4) (E24++ [tT]) (by kernel_rfl)).to (by (simp only [wk,D.int.injEq,true_and];decide))
 let E25:EL:=E24++ [tC (aH h24)]
 by_cases h25:op=25
 ·subst h25
  exact (j5 (d:= .int .i64 5) (E25++ [tT]) (by kernel_rfl)).to (by (simp only [wk,D.int.injEq,true_and];decide))
 let E26:EL:=E25++ [tC (aH h25)]
 by_cases h26:op=26
 ·subst h26
  exact (j5 (d:= .int .i64 6) (E26++ [tT]) (by kernel_rfl)).to (by (simp only [wk,D.int.injEq,true_and];decide))
 let E27:EL:=E26++ [tC (aH h26)]
 by_cases h27:op=27
 ·subst h27
  exact (j5 (d:= .int .i64 7) (E27++ [tT]) (by kernel_rfl)).to (by (simp only [wk,D.int.injEq,true_and];decide))
 by_cases h28:op=28
 ·subst h28
  exact (j5 (d:= .int .i64 8) (E27++ [tC (aH h27),tT]) (by kernel_rfl)).to (by (simp only [wk,D.int.injEq,true_and];decide))
 let E28:EL:=E27++ [tC (aH h27),tC (aH h28)]
 by_cases h29:op=29
 ·subst h29
  exact (j5 (d:= .int .i64 9) (E28++ [tT]) (by kernel_rfl)).to (by (simp only [wk,D.int.injEq,true_and];decide))
 by_cases h30:op=30
 ·subst h30
  exact (j5 (d:= .int .i64 10) (E28++ [tC (aH h29),tT,tT]) (by kernel_rfl)).to (by (simp only [wk,D.int.injEq,true_and];decide))
 by_cases h31:op=31
 ·subst h31
  exact (j5 (d:= .int .i64 10) (E28++ [tC (aH h29),tC (aH h30),tT]) (by kernel_rfl)).to (by (simp only [wk,D.int.injEq,true_and];decide))
 exact (j5 (d:= .int .i64 0) (E28++ [tC (aH h29),tC (aH h30),tC (aH h31)]) (by kernel_rfl)).to (by (simp only [wk,D.int.injEq,true_and];unfold bU bq;(repeat split)<;>omega))
theorem zH (op w dst src base ai au cc:Int):aJ Tryz.prog 100 ([xD op w dst src base ai au cc,.int .i8 1]) (xD 0 0 0 0 base ai au cc):=by
 let E1:EL:= [tT,tT,tT,tT,tF,tF,.flat _ _ cD]
 by_cases h0:base=0
 ·subst h0
  by_cases h1:ai=0
  ·subst h1
   by_cases h2:au=0
   ·subst h2
    by_cases h3:cc=0
    ·subst h3
     exact (dj (d:=(xD 0 0 0 0 0 0 0 0)) (E1++ [tF]) (by kernel_rfl)).to (by (simp [wk,ay,];done))
    exact (dj (d:=(xD 0 0 0 0 0 0 0 cc)) (E1++ [tC (nt (aD rfl (aD rfl (aD rfl (aD rfl (aD rfl (aD rfl (aD rfl (bu (y:=true) (aH h3))))))))))]) (by kernel_rfl)).to (by (simp [wk,ay,h3];done))
   exact (dj (d:=(xD 0 0 0 0 0 0 au cc)) (E1++ [tC (nt (aD rfl (aD rfl (aD rfl (aD rfl (aD rfl (aD rfl (bu (y:=aa [.int .i8 cc] [.int .i8 0]) (aH h2)))))))))]) (by kernel_rfl)).to (by (simp [wk,ay,h2];done))
  exact (dj (d:=(xD 0 0 0 0 0 ai au cc)) (E1++ [tC (nt (aD rfl (aD rfl (aD rfl (aD rfl (aD rfl (bu (y:=aa [.int .i64 au,.int .i8 cc] [.int .i64 0,.int .i8 0]) (aH h1))))))))]) (by kernel_rfl)).to (by (simp [wk,ay,h1];done))
 exact (dj (d:=(xD 0 0 0 0 base ai au cc)) (E1++ [tC (nt (aD rfl (aD rfl (aD rfl (aD rfl (bu (y:=aa [.int .i64 ai,.int .i64 au,.int .i8 cc] [.int .i64 0,.int .i64 0,.int .i8 0]) (aH h0)))))))]) (by kernel_rfl)).to (by (simp [wk,ay,h0];done))
theorem zG (op w dst src base ai au cc:Int):aJ Tryz.prog 100 ([xD op w dst src base ai au cc,.int .i8 2]) (xD 0 0 0 0 base ai au cc):=by
 let E1:EL:= [tF,tT,tT,tT,tT,tF,tF,.flat _ _ cD]
 by_cases h0:base=0
 ·subst h0
  by_cases h1:ai=0
  ·subst h1
   by_cases h2:au=0
   ·subst h2
    by_cases h3:cc=0
    ·subst h3
     exact (dj (d:=(xD 0 0 0 0 0 0 0 0)) (E1++ [tF]) (by kernel_rfl)).to (by (simp [wk,ay,];done))
    exact (dj (d:=(xD 0 0 0 0 0 0 0 cc)) (E1++ [tC (nt (aD rfl (aD rfl (aD rfl (aD rfl (aD rfl (aD rfl (aD rfl (bu (y:=true) (aH h3))))))))))]) (by kernel_rfl)).to (by (simp [wk,ay,h3];done))
   exact (dj (d:=(xD 0 0 0 0 0 0 au cc)) (E1++ [tC (nt (aD rfl (aD rfl (aD rfl (aD rfl (aD rfl (aD rfl (bu (y:=aa [.int .i8 cc] [.int .i8 0]) (aH h2)))))))))]) (by kernel_rfl)).to (by (simp [wk,ay,h2];done))
  exact (dj (d:=(xD 0 0 0 0 0 ai au cc)) (E1++ [tC (nt (aD rfl (aD rfl (aD rfl (aD rfl (aD rfl (bu (y:=aa [.int .i64 au,.int .i8 cc] [.int .i64 0,.int .i8 0]) (aH h1))))))))]) (by kernel_rfl)).to (by (simp [wk,ay,h1];done))
 exact (dj (d:=(xD 0 0 0 0 base ai au cc)) (E1++ [tC (nt (aD rfl (aD rfl (aD rfl (aD rfl (bu (y:=aa [.int .i64 ai,.int .i64 au,.int .i8 cc] [.int .i64 0,.int .i64 0,.int .i8 0]) (aH h0)))))))]) (by kernel_rfl)).to (by (simp [wk,ay,h0];done))
theorem zF (op w dst src base ai au cc:Int):aJ Tryz.prog 100 ([xD op w dst src base ai au cc,.int .i8 3]) (xD 0 0 0 src base ai 0 cc):=by
 let E1:EL:= [tF,tF,tF,tT,tT,tT,tT,tF,tF,.flat _ _ cD]
 by_cases h0:src=0
 ·subst h0
  by_cases h1:base=0
  ·subst h1
   by_cases h2:ai=0
   ·subst h2
    by_cases h3:cc=0
    ·subst h3
     exact (dj (d:=(xD 0 0 0 0 0 0 0 0)) (E1++ [tF]) (by kernel_rfl)).to (by (simp [wk,ay,];done))
    exact (dj (d:=(xD 0 0 0 0 0 0 0 cc)) (E1++ [tC (nt (aD rfl (aD rfl (aD rfl (aD rfl (aD rfl (aD rfl (aD rfl (bu (y:=true) (aH h3))))))))))]) (by kernel_rfl)).to (by (simp [wk,ay,h3];done))
   exact (dj (d:=(xD 0 0 0 0 0 ai 0 cc)) (E1++ [tC (nt (aD rfl (aD rfl (aD rfl (aD rfl (aD rfl (bu (y:=aa [.int .i64 0,.int .i8 cc] [.int .i64 0,.int .i8 0]) (aH h2))))))))]) (by kernel_rfl)).to (by (simp [wk,ay,h2];done))
  exact (dj (d:=(xD 0 0 0 0 base ai 0 cc)) (E1++ [tC (nt (aD rfl (aD rfl (aD rfl (aD rfl (bu (y:=aa [.int .i64 ai,.int .i64 0,.int .i8 cc] [.int .i64 0,.int .i64 0,.int .i8 0]) (aH h1)))))))]) (by kernel_rfl)).to (by (simp [wk,ay,h1];done))
 exact (dj (d:=(xD 0 0 0 src base ai 0 cc)) (E1++ [tC (nt (aD rfl (aD rfl (aD rfl (bu (y:=aa [.int .i8 base,.int .i64 ai,.int .i64 0,.int .i8 cc] [.int .i8 0,.int .i64 0,.int .i64 0,.int .i8 0]) (aH h0))))))]) (by kernel_rfl)).to (by (simp [wk,ay,h0];done))
theorem zE (op w dst src base ai au cc:Int):aJ Tryz.prog 100 ([xD op w dst src base ai au cc,.int .i8 4]) (xD 0 0 0 src base ai 0 cc):=by
 let E1:EL:= [tF,tF,tF,tF,tT,tT,tT,tF,tF,.flat _ _ cD]
 by_cases h0:src=0
 ·subst h0
  by_cases h1:base=0
  ·subst h1
   by_cases h2:ai=0
   ·subst h2
    by_cases h3:cc=0
    ·subst h3
     exact (dj (d:=(xD 0 0 0 0 0 0 0 0)) (E1++ [tF]) (by kernel_rfl)).to (by (simp [wk,ay,];done))
    exact (dj (d:=(xD 0 0 0 0 0 0 0 cc)) (E1++ [tC (nt (aD rfl (aD rfl (aD rfl (aD rfl (aD rfl (aD rfl (aD rfl (bu (y:=true) (aH h3))))))))))]) (by kernel_rfl)).to (by (simp [wk,ay,h3];done))
   exact (dj (d:=(xD 0 0 0 0 0 ai 0 cc)) (E1++ [tC (nt (aD rfl (aD rfl (aD rfl (aD rfl (aD rfl (bu (y:=aa [.int .i64 0,.int .i8 cc] [.int .i64 0,.int .i8 0]) (aH h2))))))))]) (by kernel_rfl)).to (by (simp [wk,ay,h2];done))
  exact (dj (d:=(xD 0 0 0 0 base ai 0 cc)) (E1++ [tC (nt (aD rfl (aD rfl (aD rfl (aD rfl (bu (y:=aa [.int .i64 ai,.int .i64 0,.int .i8 cc] [.int .i64 0,.int .i64 0,.int .i8 0]) (aH h1)))))))]) (by kernel_rfl)).to (by (simp [wk,ay,h1];done))
 exact (dj (d:=(xD 0 0 0 src base ai 0 cc)) (E1++ [tC (nt (aD rfl (aD rfl (aD rfl (bu (y:=aa [.int .i8 base,.int .i64 ai,.int .i64 0,.int .i8 cc] [.int .i8 0,.int .i64 0,.int .i64 0,.int .i8 0]) (aH h0))))))]) (by kernel_rfl)).to (by (simp [wk,ay,h0];done))
theorem zD (op w dst src base ai au cc:Int):aJ Tryz.prog 100 ([xD op w dst src base ai au cc,.int .i8 5]) (xD 0 0 0 src base ai au cc):=by
 let E1:EL:= [tF,tF,tF,tF,tF,tT,tT,tT,tF,tF,.flat _ _ cD]
 by_cases h0:src=0
 ·subst h0
  by_cases h1:base=0
  ·subst h1
   by_cases h2:ai=0
   ·subst h2
    by_cases h3:au=0
    ·subst h3
     by_cases h4:cc=0
     ·subst h4
      exact (dj (d:=(xD 0 0 0 0 0 0 0 0)) (E1++ [tF]) (by kernel_rfl)).to (by (simp [wk,ay,];done))
     exact (dj (d:=(xD 0 0 0 0 0 0 0 cc)) (E1++ [tC (nt (aD rfl (aD rfl (aD rfl (aD rfl (aD rfl (aD rfl (aD rfl (bu (y:=true) (aH h4))))))))))]) (by kernel_rfl)).to (by (simp [wk,ay,h4];done))
    exact (dj (d:=(xD 0 0 0 0 0 0 au cc)) (E1++ [tC (nt (aD rfl (aD rfl (aD rfl (aD rfl (aD rfl (aD rfl (bu (y:=aa [.int .i8 cc] [.int .i8 0]) (aH h3)))))))))]) (by kernel_rfl)).to (by (simp [wk,ay,h3];done))
   exact (dj (d:=(xD 0 0 0 0 0 ai au cc)) (E1++ [tC (nt (aD rfl (aD rfl (aD rfl (aD rfl (aD rfl (bu (y:=aa [.int .i64 au,.int .i8 cc] [.int .i64 0,.int .i8 0]) (aH h2))))))))]) (by kernel_rfl)).to (by (simp [wk,ay,h2];done))
  exact (dj (d:=(xD 0 0 0 0 base ai au cc)) (E1++ [tC (nt (aD rfl (aD rfl (aD rfl (aD rfl (bu (y:=aa [.int .i64 ai,.int .i64 au,.int .i8 cc] [.int .i64 0,.int .i64 0,.int .i8 0]) (aH h1)))))))]) (by kernel_rfl)).to (by (simp [wk,ay,h1];done))
 exact (dj (d:=(xD 0 0 0 src base ai au cc)) (E1++ [tC (nt (aD rfl (aD rfl (aD rfl (bu (y:=aa [.int .i8 base,.int .i64 ai,.int .i64 au,.int .i8 cc] [.int .i8 0,.int .i64 0,.int .i64 0,.int .i8 0]) (aH h0))))))]) (by kernel_rfl)).to (by (simp [wk,ay,h0];done))
theorem zB (op w dst src base ai au cc:Int):aJ Tryz.prog 100 ([xD op w dst src base ai au cc,.int .i8 6]) (xD 0 0 0 0 base ai au 0):=by
 let E1:EL:= [tF,tF,tT,tF,tF,tT,tT,.flat _ _ cD]
 by_cases h0:base=0
 ·subst h0
  by_cases h1:ai=0
  ·subst h1
   by_cases h2:au=0
   ·subst h2
    exact (dj (d:=(xD 0 0 0 0 0 0 0 0)) (E1++ [tF]) (by kernel_rfl)).to (by (simp [wk,ay,];done))
   exact (dj (d:=(xD 0 0 0 0 0 0 au 0)) (E1++ [tC (nt (aD rfl (aD rfl (aD rfl (aD rfl (aD rfl (aD rfl (bu (y:=true) (aH h2)))))))))]) (by kernel_rfl)).to (by (simp [wk,ay,h2];done))
  exact (dj (d:=(xD 0 0 0 0 0 ai au 0)) (E1++ [tC (nt (aD rfl (aD rfl (aD rfl (aD rfl (aD rfl (bu (y:=aa [.int .i64 au,.int .i8 0] [.int .i64 0,.int .i8 0]) (aH h1))))))))]) (by kernel_rfl)).to (by (simp [wk,ay,h1];done))
 exact (dj (d:=(xD 0 0 0 0 base ai au 0)) (E1++ [tC (nt (aD rfl (aD rfl (aD rfl (aD rfl (bu (y:=aa [.int .i64 ai,.int .i64 au,.int .i8 0] [.int .i64 0,.int .i64 0,.int .i8 0]) (aH h0)))))))]) (by kernel_rfl)).to (by (simp [wk,ay,h0];done))
theorem zA (op w dst src base ai au cc:Int):aJ Tryz.prog 100 ([xD op w dst src base ai au cc,.int .i8 7]) (xD 0 0 0 src 0 0 au cc):=by
 let E1:EL:= [tF,tF,tF,tF,tF,tF,tT,tT,tT,tF,tF,.flat _ _ cD]
 by_cases h0:src=0
 ·subst h0
  by_cases h1:au=0
  ·subst h1
   by_cases h2:cc=0
   ·subst h2
    exact (dj (d:=(xD 0 0 0 0 0 0 0 0)) (E1++ [tF]) (by kernel_rfl)).to (by (simp [wk,ay,];done))
   exact (dj (d:=(xD 0 0 0 0 0 0 0 cc)) (E1++ [tC (nt (aD rfl (aD rfl (aD rfl (aD rfl (aD rfl (aD rfl (aD rfl (bu (y:=true) (aH h2))))))))))]) (by kernel_rfl)).to (by (simp [wk,ay,h2];done))
  exact (dj (d:=(xD 0 0 0 0 0 0 au cc)) (E1++ [tC (nt (aD rfl (aD rfl (aD rfl (aD rfl (aD rfl (aD rfl (bu (y:=aa [.int .i8 cc] [.int .i8 0]) (aH h1)))))))))]) (by kernel_rfl)).to (by (simp [wk,ay,h1];done))
 exact (dj (d:=(xD 0 0 0 src 0 0 au cc)) (E1++ [tC (nt (aD rfl (aD rfl (aD rfl (bu (y:=aa [.int .i8 0,.int .i64 0,.int .i64 au,.int .i8 cc] [.int .i8 0,.int .i64 0,.int .i64 0,.int .i8 0]) (aH h0))))))]) (by kernel_rfl)).to (by (simp [wk,ay,h0];done))
theorem zy (op w dst src base ai au cc:Int):aJ Tryz.prog 100 ([xD op w dst src base ai au cc,.int .i8 8]) (xD 0 0 dst 0 0 0 au cc):=by
 let E1:EL:= [tF,tF,tF,tF,tF,tF,tF,tT,tT,tT,tF,tF,.flat _ _ cD]
 by_cases h0:dst=0
 ·subst h0
  by_cases h1:au=0
  ·subst h1
   by_cases h2:cc=0
   ·subst h2
    exact (dj (d:=(xD 0 0 0 0 0 0 0 0)) (E1++ [tF]) (by kernel_rfl)).to (by (simp [wk,ay,];done))
   exact (dj (d:=(xD 0 0 0 0 0 0 0 cc)) (E1++ [tC (nt (aD rfl (aD rfl (aD rfl (aD rfl (aD rfl (aD rfl (aD rfl (bu (y:=true) (aH h2))))))))))]) (by kernel_rfl)).to (by (simp [wk,ay,h2];done))
  exact (dj (d:=(xD 0 0 0 0 0 0 au cc)) (E1++ [tC (nt (aD rfl (aD rfl (aD rfl (aD rfl (aD rfl (aD rfl (bu (y:=aa [.int .i8 cc] [.int .i8 0]) (aH h1)))))))))]) (by kernel_rfl)).to (by (simp [wk,ay,h1];done))
 exact (dj (d:=(xD 0 0 dst 0 0 0 au cc)) (E1++ [tC (nt (aD rfl (aD rfl (bu (y:=aa [.int .i8 0,.int .i8 0,.int .i64 0,.int .i64 au,.int .i8 cc] [.int .i8 0,.int .i8 0,.int .i64 0,.int .i64 0,.int .i8 0]) (aH h0)))))]) (by kernel_rfl)).to (by (simp [wk,ay,h0];done))
theorem zx (op w dst src base ai au cc:Int):aJ Tryz.prog 100 ([xD op w dst src base ai au cc,.int .i8 9]) (xD 0 0 dst src base ai 0 cc):=by
 let E1:EL:=(Vt 8 tF++ [tT,tT,tT,tT,tF,tF,.flat _ _ cD])
 by_cases h0:dst=0
 ·subst h0
  by_cases h1:src=0
  ·subst h1
   by_cases h2:base=0
   ·subst h2
    by_cases h3:ai=0
    ·subst h3
     by_cases h4:cc=0
     ·subst h4
      exact (dj (d:=(xD 0 0 0 0 0 0 0 0)) (E1++ [tF]) (by kernel_rfl)).to (by (simp [wk,ay,];done))
     exact (dj (d:=(xD 0 0 0 0 0 0 0 cc)) (E1++ [tC (nt (aD rfl (aD rfl (aD rfl (aD rfl (aD rfl (aD rfl (aD rfl (bu (y:=true) (aH h4))))))))))]) (by kernel_rfl)).to (by (simp [wk,ay,h4];done))
    exact (dj (d:=(xD 0 0 0 0 0 ai 0 cc)) (E1++ [tC (nt (aD rfl (aD rfl (aD rfl (aD rfl (aD rfl (bu (y:=aa [.int .i64 0,.int .i8 cc] [.int .i64 0,.int .i8 0]) (aH h3))))))))]) (by kernel_rfl)).to (by (simp [wk,ay,h3];done))
   exact (dj (d:=(xD 0 0 0 0 base ai 0 cc)) (E1++ [tC (nt (aD rfl (aD rfl (aD rfl (aD rfl (bu (y:=aa [.int .i64 ai,.int .i64 0,.int .i8 cc] [.int .i64 0,.int .i64 0,.int .i8 0]) (aH h2)))))))]) (by kernel_rfl)).to (by (simp [wk,ay,h2];done))
  exact (dj (d:=(xD 0 0 0 src base ai 0 cc)) (E1++ [tC (nt (aD rfl (aD rfl (aD rfl (bu (y:=aa [.int .i8 base,.int .i64 ai,.int .i64 0,.int .i8 cc] [.int .i8 0,.int .i64 0,.int .i64 0,.int .i8 0]) (aH h1))))))]) (by kernel_rfl)).to (by (simp [wk,ay,h1];done))
 exact (dj (d:=(xD 0 0 dst src base ai 0 cc)) (E1++ [tC (nt (aD rfl (aD rfl (bu (y:=aa [.int .i8 src,.int .i8 base,.int .i64 ai,.int .i64 0,.int .i8 cc] [.int .i8 0,.int .i8 0,.int .i64 0,.int .i64 0,.int .i8 0]) (aH h0)))))]) (by kernel_rfl)).to (by (simp [wk,ay,h0];done))
theorem wP (op w dst src base ai au cc:Int):aJ Tryz.prog 100 ([xD op w dst src base ai au cc,.int .i8 10]) (xD 0 0 dst src base ai 0 0):=by
 let E1:EL:=(Vt 9 tF++ [tT,tT,tT,tF,tT,.flat _ _ cD])
 by_cases h0:dst=0
 ·subst h0
  by_cases h1:src=0
  ·subst h1
   by_cases h2:base=0
   ·subst h2
    by_cases h3:ai=0
    ·subst h3
     exact (dj (d:=(xD 0 0 0 0 0 0 0 0)) (E1++ [tF]) (by kernel_rfl)).to (by (simp [wk,ay,];done))
    exact (dj (d:=(xD 0 0 0 0 0 ai 0 0)) (E1++ [tC (nt (aD rfl (aD rfl (aD rfl (aD rfl (aD rfl (bu (y:=true) (aH h3))))))))]) (by kernel_rfl)).to (by (simp [wk,ay,h3];done))
   exact (dj (d:=(xD 0 0 0 0 base ai 0 0)) (E1++ [tC (nt (aD rfl (aD rfl (aD rfl (aD rfl (bu (y:=aa [.int .i64 ai,.int .i64 0,.int .i8 0] [.int .i64 0,.int .i64 0,.int .i8 0]) (aH h2)))))))]) (by kernel_rfl)).to (by (simp [wk,ay,h2];done))
  exact (dj (d:=(xD 0 0 0 src base ai 0 0)) (E1++ [tC (nt (aD rfl (aD rfl (aD rfl (bu (y:=aa [.int .i8 base,.int .i64 ai,.int .i64 0,.int .i8 0] [.int .i8 0,.int .i64 0,.int .i64 0,.int .i8 0]) (aH h1))))))]) (by kernel_rfl)).to (by (simp [wk,ay,h1];done))
 exact (dj (d:=(xD 0 0 dst src base ai 0 0)) (E1++ [tC (nt (aD rfl (aD rfl (bu (y:=aa [.int .i8 src,.int .i8 base,.int .i64 ai,.int .i64 0,.int .i8 0] [.int .i8 0,.int .i8 0,.int .i64 0,.int .i64 0,.int .i8 0]) (aH h0)))))]) (by kernel_rfl)).to (by (simp [wk,ay,h0];done))
theorem wO (op w dst src base ai au cc:Int):aJ Tryz.prog 100 ([xD op w dst src base ai au cc,.int .i8 11]) (xD 0 w dst src base ai au cc):=by
 let E1:EL:=(Vt 10 tF++ [tT,tT,tF,tF,.flat _ _ cD])
 by_cases h0:w=0
 ·subst h0
  by_cases h1:dst=0
  ·subst h1
   by_cases h2:src=0
   ·subst h2
    by_cases h3:base=0
    ·subst h3
     by_cases h4:ai=0
     ·subst h4
      by_cases h5:au=0
      ·subst h5
       by_cases h6:cc=0
       ·subst h6
        exact (dj (d:=(xD 0 0 0 0 0 0 0 0)) (E1++ [tF]) (by kernel_rfl)).to (by (simp [wk,ay,];done))
       exact (dj (d:=(xD 0 0 0 0 0 0 0 cc)) (E1++ [tC (nt (aD rfl (aD rfl (aD rfl (aD rfl (aD rfl (aD rfl (aD rfl (bu (y:=true) (aH h6))))))))))]) (by kernel_rfl)).to (by (simp [wk,ay,h6];done))
      exact (dj (d:=(xD 0 0 0 0 0 0 au cc)) (E1++ [tC (nt (aD rfl (aD rfl (aD rfl (aD rfl (aD rfl (aD rfl (bu (y:=aa [.int .i8 cc] [.int .i8 0]) (aH h5)))))))))]) (by kernel_rfl)).to (by (simp [wk,ay,h5];done))
     exact (dj (d:=(xD 0 0 0 0 0 ai au cc)) (E1++ [tC (nt (aD rfl (aD rfl (aD rfl (aD rfl (aD rfl (bu (y:=aa [.int .i64 au,.int .i8 cc] [.int .i64 0,.int .i8 0]) (aH h4))))))))]) (by kernel_rfl)).to (by (simp [wk,ay,h4];done))
    exact (dj (d:=(xD 0 0 0 0 base ai au cc)) (E1++ [tC (nt (aD rfl (aD rfl (aD rfl (aD rfl (bu (y:=aa [.int .i64 ai,.int .i64 au,.int .i8 cc] [.int .i64 0,.int .i64 0,.int .i8 0]) (aH h3)))))))]) (by kernel_rfl)).to (by (simp [wk,ay,h3];done))
   exact (dj (d:=(xD 0 0 0 src base ai au cc)) (E1++ [tC (nt (aD rfl (aD rfl (aD rfl (bu (y:=aa [.int .i8 base,.int .i64 ai,.int .i64 au,.int .i8 cc] [.int .i8 0,.int .i64 0,.int .i64 0,.int .i8 0]) (aH h2))))))]) (by kernel_rfl)).to (by (simp [wk,ay,h2];done))
  exact (dj (d:=(xD 0 0 dst src base ai au cc)) (E1++ [tC (nt (aD rfl (aD rfl (bu (y:=aa [.int .i8 src,.int .i8 base,.int .i64 ai,.int .i64 au,.int .i8 cc] [.int .i8 0,.int .i8 0,.int .i64 0,.int .i64 0,.int .i8 0]) (aH h1)))))]) (by kernel_rfl)).to (by (simp [wk,ay,h1];done))
 exact (dj (d:=(xD 0 w dst src base ai au cc)) (E1++ [tC (nt (aD rfl (bu (y:=aa [.int .i8 dst,.int .i8 src,.int .i8 base,.int .i64 ai,.int .i64 au,.int .i8 cc] [.int .i8 0,.int .i8 0,.int .i8 0,.int .i64 0,.int .i64 0,.int .i8 0]) (aH h0))))]) (by kernel_rfl)).to (by (simp [wk,ay,h0];done))
theorem gF {op:Int} (h:op<0∨32≤op):bq op=0∧eD op=0∧iu op=0:=by
 refine ⟨?_,?_,?_⟩
 ·unfold bq;repeat (rw [if_neg (by omega)])
 ·unfold eD;repeat (rw [if_neg (by omega)])
 ·unfold iu;repeat (rw [if_neg (by omega)])
theorem bh (op:Int) (ho:op≤127):aJ Tryz.prog 99 [.int .i8 op] (.aQ [.agg [.int .i8 (bq op),.int .u8 (eD op),.int .i8 (iu op)],.bool (decide (0≤op∧op≤31))]):=by
 by_cases h1:op<0
 ·obtain ⟨e1,e2,e3⟩:=gF (.inl h1)
  rw [e1,e2,e3,decide_eq_false (by omega)]
  exact Bm op h1
 ·by_cases h2:32≤op
  ·obtain ⟨e1,e2,e3⟩:=gF (.inr h2)
   rw [e1,e2,e3,decide_eq_false (by omega)]
   exact yF op h2 ho
  ·rcases (by omega:op=0∨op=1∨op=2∨op=3∨op=4∨op=5∨op=6∨op=7∨op=8∨op=9∨op=10∨op=11∨op=12∨op=13∨op=14∨op=15∨op=16∨op=17∨op=18∨op=19∨op=20∨op=21∨op=22∨op=23∨op=24∨op=25∨op=26∨op=27∨op=28∨op=29∨op=30∨op=31) with rfl|rfl|rfl|rfl|rfl|rfl|rfl|rfl|rfl|rfl|rfl|rfl|rfl|rfl|rfl|rfl|rfl|rfl|rfl|rfl|rfl|rfl|rfl|rfl|rfl|rfl|rfl|rfl|rfl|rfl|rfl|rfl
   ·exact Gq
   ·exact Gp
   ·exact Gn
   ·exact Gm
   ·exact Gl
   ·exact Gk
   ·exact Gj
   ·exact Gi
   ·exact Gh
   ·exact Gg
   ·exact DZ
   ·exact DY
   ·exact DX
   ·exact DW
   ·exact DV
   ·exact DU
   ·exact DT
   ·exact DS
   ·exact DR
   ·exact DQ
   ·exact DP
   ·exact DN
   ·exact DM
   ·exact DL
   ·exact DK
   ·exact DJ
   ·exact DI
   ·exact DH
   ·exact DG
   ·exact DF
   ·exact DE
   ·exact DD
theorem CC (op w dst src base ai au cc sh:Int) (h:(sh==1)=true):aJ Tryz.prog 100 [xD op w dst src base ai au cc,.int .i8 sh] (xD 0 0 0 0 base ai au cc):=by
 obtain rfl:=eq_of_beq h
 exact zH op w dst src base ai au cc
theorem CB (op w dst src base ai au cc sh:Int) (h:(sh==2)=true):aJ Tryz.prog 100 [xD op w dst src base ai au cc,.int .i8 sh] (xD 0 0 0 0 base ai au cc):=by
 obtain rfl:=eq_of_beq h
 exact zG op w dst src base ai au cc
theorem CA (op w dst src base ai au cc sh:Int) (h:(sh==3)=true):aJ Tryz.prog 100 [xD op w dst src base ai au cc,.int .i8 sh] (xD 0 0 0 src base ai 0 cc):=by
 obtain rfl:=eq_of_beq h
 exact zF op w dst src base ai au cc
theorem Cz (op w dst src base ai au cc sh:Int) (h:(sh==4)=true):aJ Tryz.prog 100 [xD op w dst src base ai au cc,.int .i8 sh] (xD 0 0 0 src base ai 0 cc):=by
 obtain rfl:=eq_of_beq h
 exact zE op w dst src base ai au cc
theorem Cy (op w dst src base ai au cc sh:Int) (h:(sh==5)=true):aJ Tryz.prog 100 [xD op w dst src base ai au cc,.int .i8 sh] (xD 0 0 0 src base ai au cc):=by
 obtain rfl:=eq_of_beq h
 exact zD op w dst src base ai au cc
theorem Cx (op w dst src base ai au cc sh:Int) (h:(sh==6)=true):aJ Tryz.prog 100 [xD op w dst src base ai au cc,.int .i8 sh] (xD 0 0 0 0 base ai au 0):=by
 obtain rfl:=eq_of_beq h
 exact zB op w dst src base ai au cc
theorem Cw (op w dst src base ai au cc sh:Int) (h:(sh==7)=true):aJ Tryz.prog 100 [xD op w dst src base ai au cc,.int .i8 sh] (xD 0 0 0 src 0 0 au cc):=by
 obtain rfl:=eq_of_beq h
 exact zA op w dst src base ai au cc
theorem Cv (op w dst src base ai au cc sh:Int) (h:(sh==8)=true):aJ Tryz.prog 100 [xD op w dst src base ai au cc,.int .i8 sh] (xD 0 0 dst 0 0 0 au cc):=by
 obtain rfl:=eq_of_beq h
 exact zy op w dst src base ai au cc
theorem Cu (op w dst src base ai au cc sh:Int) (h:(sh==9)=true):aJ Tryz.prog 100 [xD op w dst src base ai au cc,.int .i8 sh] (xD 0 0 dst src base ai 0 cc):=by
 obtain rfl:=eq_of_beq h
 exact zx op w dst src base ai au cc
theorem zw (op w dst src base ai au cc sh:Int) (h:(sh==10)=true):aJ Tryz.prog 100 [xD op w dst src base ai au cc,.int .i8 sh] (xD 0 0 dst src base ai 0 0):=by
 obtain rfl:=eq_of_beq h
 exact wP op w dst src base ai au cc
theorem zu (op w dst src base ai au cc sh:Int) (h:(sh==11)=true):aJ Tryz.prog 100 [xD op w dst src base ai au cc,.int .i8 sh] (xD 0 w dst src base ai au cc):=by
 obtain rfl:=eq_of_beq h
 exact wO op w dst src base ai au cc
theorem Bz (op w dst src base ai au cc:Int) (ho:op≤127) (h:(bq op==0)=true) (PE:decide (0≤op∧op≤31)=false):aJ Tryz.prog 71 ([xD op w dst src base ai au cc]) (.bool (av op w dst src base ai au cc)):=by
 have c0:= @bh op ho
 rw [show (bq op)=0 from (eq_of_beq h)] at c0
 generalize g2:eD op=r1 at c0
 generalize g4:iu op=r3 at c0
 exact (cZ (d:= .bool false) ([.ret _ _ _ c0]++Vt 6 (tC (eF (nt PE)))++ [tC (nt PE),tF,tF,tF,tF,tT,tF,tF,tF,tF,tT,tF,tF,tF,tF,tT,tF,tF,tF,tF,tT,tF,tF,tF,tF,tT,tT]) (by kernel_rfl)).to (by (try simp only [bI,wk,ay,aB,aa,ab,av,al,ax,aj,af,an,aE] at*);(simp [wk,ay,aB,aa,ab,av,al,ax,aj,af,an,aE, *];done))
theorem Bx (op w dst src base ai au cc:Int) (ho:op≤127) (h:(bq op==1)=true) (PE:decide (0≤op∧op≤31)=true):aJ Tryz.prog 71 ([xD op w dst src base ai au cc]) (.bool (av op w dst src base ai au cc)):=by
 have c0:= @bh op ho
 rw [show (bq op)=1 from (eq_of_beq h)] at c0
 generalize g2:eD op=r1 at c0
 generalize g4:iu op=r3 at c0
 have c5:= @CC op w dst src base ai au cc 1 (rfl:true=true)
 let E1:EL:=([.ret _ _ _ c0]++Vt 4 (tC (eF (nt PE)))++ [.ret _ _ _ c5,tC (eF (nt PE)),tC (eF (nt PE)),.flat _ _ cD,tC (nt PE)])
 rcases cm (aa [.int .i8 0,.int .i8 0,.int .i8 0,.int .i8 0,.int .i8 base,.int .i64 ai,.int .i64 au,.int .i8 cc] [.int .i8 0,.int .i8 0,.int .i8 0,.int .i8 0,.int .i8 0,.int .i64 0,.int .i64 0,.int .i8 0]) with h6|h6
 ·have c7:= @cP dst
  generalize g9:al dst=r8 at c7
  let E2:EL:=E1++Vt 3 (tC (eF (nt h6)))++ [.ret _ _ _ c7,tC (eF (nt h6)),tC (nt h6)]
  cases r8
  ·exact (cZ (d:= .bool false) (E2++ [tF,tF,tF,tF,tT,tF,tF,tF,tF,tT,tF,tF,tF,tF,tT,tF,tF,tF,tF,tT,tT]) (by kernel_rfl)).to (by clear E1 E2;(try simp only [bI,wk,ay,aB,aa,ab,av,al,ax,aj,af,an,aE] at*);(simp [wk,ay,aB,aa,ab,av,al,ax,aj,af,an,aE, *];done))
  have Qe:= @cP src
  generalize g12:al src=QF at Qe
  let E3:EL:=E2++ [tT,tT,tT,.ret _ _ _ Qe,tT,tF]
  cases QF
  ·exact (cZ (d:= .bool false) (E3++ [tF,tF,tF,tF,tT,tF,tF,tF,tF,tT,tF,tF,tF,tF,tT,tT]) (by kernel_rfl)).to (by clear E1 E2 E3;(try simp only [bI,wk,ay,aB,aa,ab,av,al,ax,aj,af,an,aE] at*);(simp [wk,ay,aB,aa,ab,av,al,ax,aj,af,an,aE, *];done))
  have Qg:= @cP base
  generalize g15:al base=QG at Qg
  let E4:EL:=E3++ [tT,tT,tT,.ret _ _ _ Qg,tT,tF]
  cases QG
  ·exact (cZ (d:= .bool false) (E4++ [tF,tF,tF,tF,tT,tF,tF,tF,tF,tT,tT]) (by kernel_rfl)).to (by clear E1 E2 E3 E4;(try simp only [bI,wk,ay,aB,aa,ab,av,al,ax,aj,af,an,aE] at*);(simp [wk,ay,aB,aa,ab,av,al,ax,aj,af,an,aE, *];done))
  have PQ:= @bG ai (-2147483648) 2147483647
  let E5:EL:=E4++ [tT,tT,tT,.ret _ _ _ PQ,tT,tF]
  rcases cm (decide (ai<(-2147483648))) with h17|h17
  ·exact (cZ (d:= .bool false) (E5++Vt 4 (tC (eF (nt (bu (y:=decide (ai≤2147483647)) (aK (-2147483648) h17)))))++ [tC (nt (bu (y:=decide (ai≤2147483647)) (aK (-2147483648) h17))),tT]) (by kernel_rfl)).to (by clear E1 E2 E3 E4 E5;(try simp only [bI,wk,ay,aB,aa,ab,av,al,ax,aj,af,an,aE] at*);(simp [wk,ay,aB,aa,ab,av,al,ax,aj,af,an,aE, *];omega))
  rcases cm (decide (ai<2147483648)) with h18|h18
  ·have QH:= @bG au (-2147483648) 2147483647
   let E6:EL:=E5++Vt 3 (tC (eF (nt (aD (aK (-2147483648) h17) (cQ 2147483647 h18)))))++ [.ret _ _ _ QH,tC (eF (nt (aD (aK (-2147483648) h17) (cQ 2147483647 h18)))),tC (nt (aD (aK (-2147483648) h17) (cQ 2147483647 h18)))]
   rcases cm (decide (au<(-2147483648))) with h20|h20
   ·exact (cZ (d:= .bool false) (E6++ [tC (nt (bu (y:=decide (au≤2147483647)) (aK (-2147483648) h20)))]) (by kernel_rfl)).to (by clear E1 E2 E3 E4 E5 E6;(try simp only [bI,wk,ay,aB,aa,ab,av,al,ax,aj,af,an,aE] at*);(simp [wk,ay,aB,aa,ab,av,al,ax,aj,af,an,aE, *];omega))
   rcases cm (decide (au<2147483648)) with h21|h21
   ·let E7:EL:=E6++ [tC (nt (aD (aK (-2147483648) h20) (cQ 2147483647 h21)))]
    by_cases h22:w=32
    ·subst h22
     exact (cZ (d:= .bool true) (E7++ [tF,tF,tF,tT,tF,tF,tF,tF,tF,tT,tT,tT]) (by kernel_rfl)).to (by clear E1 E2 E3 E4 E5 E6 E7;(try simp only [bI,wk,ay,aB,aa,ab,av,al,ax,aj,af,an,aE] at*);(rw [Vw];simp [wk,ay,aB,aa,ab,av,al,ax,aj,af,an,aE, *];grind))
    let E8:EL:=E7++Vt 3 (tC (eF (aH h22)))++ [tC (aH h22)]++Vt 4 (tC (eF (aH h22)))
    by_cases h23:w=8
    ·subst h23
     have RE:= @bG au (-128) 127
     exact (cZ (d:= .bool false) (E8++ [tT,tT,tT,.ret _ _ _ RE,tT,tT,tF,tT,tT]) (by kernel_rfl)).to (by clear E1 E2 E3 E4 E5 E6 E7 E8;(try simp only [bI,wk,ay,aB,aa,ab,av,al,ax,aj,af,an,aE] at*);(simp [wk,ay,aB,aa,ab,av,al,ax,aj,af,an,aE, *];done))
    exact (cZ (d:= .bool (w==64)) (E8++Vt 3 (tC (eT (aH h23)))++ [tC (eF (aH h22)),tC (aH h23),tC (aH h22),tT,tT]) (by kernel_rfl)).to (by clear E1 E2 E3 E4 E5 E6 E7 E8;(try simp only [bI,wk,ay,aB,aa,ab,av,al,ax,aj,af,an,aE] at*);(rw [Vw];simp [wk,ay,aB,aa,ab,av,al,ax,aj,af,an,aE, *];grind))
   exact (cZ (d:= .bool false) (E6++ [tC (nt (aD (aK (-2147483648) h20) (cQ 2147483647 h21)))]) (by kernel_rfl)).to (by clear E1 E2 E3 E4 E5 E6;(try simp only [bI,wk,ay,aB,aa,ab,av,al,ax,aj,af,an,aE] at*);(simp [wk,ay,aB,aa,ab,av,al,ax,aj,af,an,aE, *];omega))
  exact (cZ (d:= .bool false) (E5++Vt 4 (tC (eF (nt (aD (aK (-2147483648) h17) (cQ 2147483647 h18)))))++ [tC (nt (aD (aK (-2147483648) h17) (cQ 2147483647 h18))),tT]) (by kernel_rfl)).to (by clear E1 E2 E3 E4 E5;(try simp only [bI,wk,ay,aB,aa,ab,av,al,ax,aj,af,an,aE] at*);(simp [wk,ay,aB,aa,ab,av,al,ax,aj,af,an,aE, *];omega))
 exact (cZ (d:= .bool false) (E1++Vt 4 (tC (eF (nt h6)))++ [tC (nt h6),tF,tF,tF,tF,tT,tF,tF,tF,tF,tT,tF,tF,tF,tF,tT,tF,tF,tF,tF,tT,tT]) (by kernel_rfl)).to (by clear E1;(try simp only [bI,wk,ay,aB,aa,ab,av,al,ax,aj,af,an,aE] at*);(rw [Vw];simp [wk,ay,aB,aa,ab,av,al,ax,aj,af,an,aE, *];grind))
theorem Bw (op w dst src base ai au cc:Int) (ho:op≤127) (h:(bq op==2)=true) (PE:decide (0≤op∧op≤31)=true):aJ Tryz.prog 71 ([xD op w dst src base ai au cc]) (.bool (av op w dst src base ai au cc)):=by
 have c0:= @bh op ho
 rw [show (bq op)=2 from (eq_of_beq h)] at c0
 generalize g2:eD op=r1 at c0
 generalize g4:iu op=r3 at c0
 have c5:= @CB op w dst src base ai au cc 2 (rfl:true=true)
 let E1:EL:=([.ret _ _ _ c0]++Vt 4 (tC (eF (nt PE)))++ [.ret _ _ _ c5,tC (eF (nt PE)),tC (eF (nt PE)),.flat _ _ cD,tC (nt PE)])
 rcases cm (aa [.int .i8 0,.int .i8 0,.int .i8 0,.int .i8 0,.int .i8 base,.int .i64 ai,.int .i64 au,.int .i8 cc] [.int .i8 0,.int .i8 0,.int .i8 0,.int .i8 0,.int .i8 0,.int .i64 0,.int .i64 0,.int .i8 0]) with h6|h6
 ·have c7:= @cP dst
  generalize g9:al dst=r8 at c7
  let E2:EL:=E1++Vt 3 (tC (eF (nt h6)))++ [.ret _ _ _ c7,tC (eF (nt h6)),tC (nt h6)]
  cases r8
  ·exact (cZ (d:= .bool false) (E2++ [tF,tF,tF,tF,tT,tF,tF,tF,tF,tT,tF,tF,tF,tF,tT,tF,tF,tF,tF,tT,tT]) (by kernel_rfl)).to (by clear E1 E2;(try simp only [bI,wk,ay,aB,aa,ab,av,al,ax,aj,af,an,aE] at*);(simp [wk,ay,aB,aa,ab,av,al,ax,aj,af,an,aE, *];done))
  have Qe:= @cP src
  generalize g12:al src=QF at Qe
  let E3:EL:=E2++ [tT,tT,tT,.ret _ _ _ Qe,tT,tF]
  cases QF
  ·exact (cZ (d:= .bool false) (E3++ [tF,tF,tF,tF,tT,tF,tF,tF,tF,tT,tF,tF,tF,tF,tT,tT]) (by kernel_rfl)).to (by clear E1 E2 E3;(try simp only [bI,wk,ay,aB,aa,ab,av,al,ax,aj,af,an,aE] at*);(simp [wk,ay,aB,aa,ab,av,al,ax,aj,af,an,aE, *];done))
  have Qg:= @cP base
  generalize g15:al base=QG at Qg
  let E4:EL:=E3++ [tT,tT,tT,.ret _ _ _ Qg,tT,tF]
  cases QG
  ·exact (cZ (d:= .bool false) (E4++ [tF,tF,tF,tF,tT,tF,tF,tF,tF,tT,tT]) (by kernel_rfl)).to (by clear E1 E2 E3 E4;(try simp only [bI,wk,ay,aB,aa,ab,av,al,ax,aj,af,an,aE] at*);(simp [wk,ay,aB,aa,ab,av,al,ax,aj,af,an,aE, *];done))
  have PQ:= @bG ai (-2147483648) 2147483647
  let E5:EL:=E4++ [tT,tT,tT,.ret _ _ _ PQ,tT,tF]
  rcases cm (decide (ai<(-2147483648))) with h17|h17
  ·exact (cZ (d:= .bool false) (E5++Vt 4 (tC (eF (nt (bu (y:=decide (ai≤2147483647)) (aK (-2147483648) h17)))))++ [tC (nt (bu (y:=decide (ai≤2147483647)) (aK (-2147483648) h17))),tT]) (by kernel_rfl)).to (by clear E1 E2 E3 E4 E5;(try simp only [bI,wk,ay,aB,aa,ab,av,al,ax,aj,af,an,aE] at*);(simp [wk,ay,aB,aa,ab,av,al,ax,aj,af,an,aE, *];omega))
  rcases cm (decide (ai<2147483648)) with h18|h18
  ·have QH:= @bG au (-2147483648) 2147483647
   let E6:EL:=E5++Vt 3 (tC (eF (nt (aD (aK (-2147483648) h17) (cQ 2147483647 h18)))))++ [.ret _ _ _ QH,tC (eF (nt (aD (aK (-2147483648) h17) (cQ 2147483647 h18)))),tC (nt (aD (aK (-2147483648) h17) (cQ 2147483647 h18)))]
   rcases cm (decide (au<(-2147483648))) with h20|h20
   ·exact (cZ (d:= .bool false) (E6++ [tC (nt (bu (y:=decide (au≤2147483647)) (aK (-2147483648) h20)))]) (by kernel_rfl)).to (by clear E1 E2 E3 E4 E5 E6;(try simp only [bI,wk,ay,aB,aa,ab,av,al,ax,aj,af,an,aE] at*);(simp [wk,ay,aB,aa,ab,av,al,ax,aj,af,an,aE, *];omega))
   rcases cm (decide (au<2147483648)) with h21|h21
   ·let E7:EL:=E6++ [tC (nt (aD (aK (-2147483648) h20) (cQ 2147483647 h21)))]
    by_cases h22:w=32
    ·subst h22
     exact (cZ (d:= .bool true) (E7++ [tF,tF,tF,tT,tF,tF,tF,tF,tF,tT,tF,tT,tT]) (by kernel_rfl)).to (by clear E1 E2 E3 E4 E5 E6 E7;(try simp only [bI,wk,ay,aB,aa,ab,av,al,ax,aj,af,an,aE] at*);(rw [Vw];simp [wk,ay,aB,aa,ab,av,al,ax,aj,af,an,aE, *];grind))
    let E8:EL:=E7++Vt 3 (tC (eF (aH h22)))++ [tC (aH h22)]++Vt 4 (tC (eF (aH h22)))
    by_cases h23:w=8
    ·subst h23
     have RE:= @bG au (-128) 127
     exact (cZ (d:= .bool false) (E8++ [tT,tT,tT,.ret _ _ _ RE,tT,tT,tF,tF,tT,tT]) (by kernel_rfl)).to (by clear E1 E2 E3 E4 E5 E6 E7 E8;(try simp only [bI,wk,ay,aB,aa,ab,av,al,ax,aj,af,an,aE] at*);(simp [wk,ay,aB,aa,ab,av,al,ax,aj,af,an,aE, *];done))
    exact (cZ (d:= .bool (w==64)) (E8++Vt 3 (tC (eT (aH h23)))++ [tC (eF (aH h22)),tC (aH h23),tC (aH h22),tF,tT,tT]) (by kernel_rfl)).to (by clear E1 E2 E3 E4 E5 E6 E7 E8;(try simp only [bI,wk,ay,aB,aa,ab,av,al,ax,aj,af,an,aE] at*);(rw [Vw];simp [wk,ay,aB,aa,ab,av,al,ax,aj,af,an,aE, *];grind))
   exact (cZ (d:= .bool false) (E6++ [tC (nt (aD (aK (-2147483648) h20) (cQ 2147483647 h21)))]) (by kernel_rfl)).to (by clear E1 E2 E3 E4 E5 E6;(try simp only [bI,wk,ay,aB,aa,ab,av,al,ax,aj,af,an,aE] at*);(simp [wk,ay,aB,aa,ab,av,al,ax,aj,af,an,aE, *];omega))
  exact (cZ (d:= .bool false) (E5++Vt 4 (tC (eF (nt (aD (aK (-2147483648) h17) (cQ 2147483647 h18)))))++ [tC (nt (aD (aK (-2147483648) h17) (cQ 2147483647 h18))),tT]) (by kernel_rfl)).to (by clear E1 E2 E3 E4 E5;(try simp only [bI,wk,ay,aB,aa,ab,av,al,ax,aj,af,an,aE] at*);(simp [wk,ay,aB,aa,ab,av,al,ax,aj,af,an,aE, *];omega))
 exact (cZ (d:= .bool false) (E1++Vt 4 (tC (eF (nt h6)))++ [tC (nt h6),tF,tF,tF,tF,tT,tF,tF,tF,tF,tT,tF,tF,tF,tF,tT,tF,tF,tF,tF,tT,tT]) (by kernel_rfl)).to (by clear E1;(try simp only [bI,wk,ay,aB,aa,ab,av,al,ax,aj,af,an,aE] at*);(rw [Vw];simp [wk,ay,aB,aa,ab,av,al,ax,aj,af,an,aE, *];grind))
def o6 (QC:Int):Prop:= ∀(op w dst src base ai au cc:Int) (ho:op≤127) (h:(bq op==QC)=true) (PE:decide (0≤op∧op≤31)=true),aJ Tryz.prog 71 ([xD op w dst src base ai au cc]) (.bool (av op w dst src base ai au cc))
theorem Bv:o6 3:=by
 intro op w dst src base ai au cc ho h PE
 have c0:= @bh op ho
 rw [eq_of_beq h] at c0
 generalize g2:eD op=r1 at c0
 generalize g4:iu op=r3 at c0
 have c5:= @CA op w dst src base ai au cc 3 (rfl:true=true)
 let E1:EL:=([.ret _ _ _ c0]++Vt 4 (tC (eF (nt PE)))++ [.ret _ _ _ c5,tC (eF (nt PE)),tC (eF (nt PE)),.flat _ _ cD,tC (nt PE)])
 rcases cm (aa [.int .i8 0,.int .i8 0,.int .i8 0,.int .i8 src,.int .i8 base,.int .i64 ai,.int .i64 0,.int .i8 cc] [.int .i8 0,.int .i8 0,.int .i8 0,.int .i8 0,.int .i8 0,.int .i64 0,.int .i64 0,.int .i8 0]) with h6|h6
 ·have c7:= @cP dst
  generalize g9:al dst=r8 at c7
  let E2:EL:=E1++Vt 3 (tC (eF (nt h6)))++ [.ret _ _ _ c7,tC (eF (nt h6)),tC (nt h6)]
  cases r8
  ·exact (cZ (d:= .bool false) (E2++ [tF,tF,tF,tF,tT,tF,tF,tF,tF,tT,tF,tF,tF,tF,tT,tF,tF,tF,tF,tT,tT]) (by kernel_rfl)).to (by clear E1 E2;(try simp only [bI,wk,ay,aB,aa,ab,av,al,ax,aj,af,an,aE] at*);(simp [wk,ay,aB,aa,ab,av,al,ax,aj,af,an,aE, *];done))
  have Qe:= @cP src
  generalize g12:al src=QF at Qe
  let E3:EL:=E2++ [tT,tT,tT,.ret _ _ _ Qe,tT,tF]
  cases QF
  ·exact (cZ (d:= .bool false) (E3++ [tF,tF,tF,tF,tT,tF,tF,tF,tF,tT,tF,tF,tF,tF,tT,tT]) (by kernel_rfl)).to (by clear E1 E2 E3;(try simp only [bI,wk,ay,aB,aa,ab,av,al,ax,aj,af,an,aE] at*);(simp [wk,ay,aB,aa,ab,av,al,ax,aj,af,an,aE, *];done))
  have Qg:= @cP base
  generalize g15:al base=QG at Qg
  let E4:EL:=E3++ [tT,tT,tT,.ret _ _ _ Qg,tT,tF]
  cases QG
  ·exact (cZ (d:= .bool false) (E4++ [tF,tF,tF,tF,tT,tF,tF,tF,tF,tT,tT]) (by kernel_rfl)).to (by clear E1 E2 E3 E4;(try simp only [bI,wk,ay,aB,aa,ab,av,al,ax,aj,af,an,aE] at*);(simp [wk,ay,aB,aa,ab,av,al,ax,aj,af,an,aE, *];done))
  have PQ:= @bG ai (-2147483648) 2147483647
  let E5:EL:=E4++ [tT,tT,tT,.ret _ _ _ PQ,tT,tF]
  rcases cm (decide (ai<(-2147483648))) with h17|h17
  ·exact (cZ (d:= .bool false) (E5++Vt 4 (tC (eF (nt (bu (y:=decide (ai≤2147483647)) (aK (-2147483648) h17)))))++ [tC (nt (bu (y:=decide (ai≤2147483647)) (aK (-2147483648) h17))),tT]) (by kernel_rfl)).to (by clear E1 E2 E3 E4 E5;(try simp only [bI,wk,ay,aB,aa,ab,av,al,ax,aj,af,an,aE] at*);(simp [wk,ay,aB,aa,ab,av,al,ax,aj,af,an,aE, *];omega))
  rcases cm (decide (ai<2147483648)) with h18|h18
  ·have QH:= @bG au (-2147483648) 2147483647
   let E6:EL:=E5++Vt 3 (tC (eF (nt (aD (aK (-2147483648) h17) (cQ 2147483647 h18)))))++ [.ret _ _ _ QH,tC (eF (nt (aD (aK (-2147483648) h17) (cQ 2147483647 h18)))),tC (nt (aD (aK (-2147483648) h17) (cQ 2147483647 h18)))]
   rcases cm (decide (au<(-2147483648))) with h20|h20
   ·exact (cZ (d:= .bool false) (E6++ [tC (nt (bu (y:=decide (au≤2147483647)) (aK (-2147483648) h20)))]) (by kernel_rfl)).to (by clear E1 E2 E3 E4 E5 E6;(try simp only [bI,wk,ay,aB,aa,ab,av,al,ax,aj,af,an,aE] at*);(simp [wk,ay,aB,aa,ab,av,al,ax,aj,af,an,aE, *];omega))
   rcases cm (decide (au<2147483648)) with h21|h21
   ·let E7:EL:=E6++ [tC (nt (aD (aK (-2147483648) h20) (cQ 2147483647 h21)))]
    by_cases h22:w=32
    ·subst h22
     exact (cZ (d:= .bool true) (E7++ [tF,tF,tF,tT,tF,tF,tF,tF,tF,tT,tF,tF,tT,tT]) (by kernel_rfl)).to (by clear E1 E2 E3 E4 E5 E6 E7;(try simp only [bI,wk,ay,aB,aa,ab,av,al,ax,aj,af,an,aE] at*);(rw [Vw];simp [wk,ay,aB,aa,ab,av,al,ax,aj,af,an,aE, *];grind))
    let E8:EL:=E7++Vt 3 (tC (eF (aH h22)))++ [tC (aH h22)]++Vt 4 (tC (eF (aH h22)))
    by_cases h23:w=8
    ·subst h23
     have RE:= @bG au (-128) 127
     exact (cZ (d:= .bool false) (E8++ [tT,tT,tT,.ret _ _ _ RE,tT,tT,tF,tF,tF,tT,tT]) (by kernel_rfl)).to (by clear E1 E2 E3 E4 E5 E6 E7 E8;(try simp only [bI,wk,ay,aB,aa,ab,av,al,ax,aj,af,an,aE] at*);(simp [wk,ay,aB,aa,ab,av,al,ax,aj,af,an,aE, *];done))
    exact (cZ (d:= .bool (w==64)) (E8++Vt 3 (tC (eT (aH h23)))++ [tC (eF (aH h22)),tC (aH h23),tC (aH h22),tF,tF,tT,tT]) (by kernel_rfl)).to (by clear E1 E2 E3 E4 E5 E6 E7 E8;(try simp only [bI,wk,ay,aB,aa,ab,av,al,ax,aj,af,an,aE] at*);(rw [Vw];simp [wk,ay,aB,aa,ab,av,al,ax,aj,af,an,aE, *];grind))
   exact (cZ (d:= .bool false) (E6++ [tC (nt (aD (aK (-2147483648) h20) (cQ 2147483647 h21)))]) (by kernel_rfl)).to (by clear E1 E2 E3 E4 E5 E6;(try simp only [bI,wk,ay,aB,aa,ab,av,al,ax,aj,af,an,aE] at*);(simp [wk,ay,aB,aa,ab,av,al,ax,aj,af,an,aE, *];omega))
  exact (cZ (d:= .bool false) (E5++Vt 4 (tC (eF (nt (aD (aK (-2147483648) h17) (cQ 2147483647 h18)))))++ [tC (nt (aD (aK (-2147483648) h17) (cQ 2147483647 h18))),tT]) (by kernel_rfl)).to (by clear E1 E2 E3 E4 E5;(try simp only [bI,wk,ay,aB,aa,ab,av,al,ax,aj,af,an,aE] at*);(simp [wk,ay,aB,aa,ab,av,al,ax,aj,af,an,aE, *];omega))
 exact (cZ (d:= .bool false) (E1++Vt 4 (tC (eF (nt h6)))++ [tC (nt h6),tF,tF,tF,tF,tT,tF,tF,tF,tF,tT,tF,tF,tF,tF,tT,tF,tF,tF,tF,tT,tT]) (by kernel_rfl)).to (by clear E1;(try simp only [bI,wk,ay,aB,aa,ab,av,al,ax,aj,af,an,aE] at*);(rw [Vw];simp [wk,ay,aB,aa,ab,av,al,ax,aj,af,an,aE, *];grind))
theorem Bu:o6 4:=by
 intro op w dst src base ai au cc ho h PE
 have c0:= @bh op ho
 rw [eq_of_beq h] at c0
 generalize g2:eD op=r1 at c0
 generalize g4:iu op=r3 at c0
 have c5:= @Cz op w dst src base ai au cc 4 (rfl:true=true)
 let E1:EL:=([.ret _ _ _ c0]++Vt 4 (tC (eF (nt PE)))++ [.ret _ _ _ c5,tC (eF (nt PE)),tC (eF (nt PE)),.flat _ _ cD,tC (nt PE)])
 rcases cm (aa [.int .i8 0,.int .i8 0,.int .i8 0,.int .i8 src,.int .i8 base,.int .i64 ai,.int .i64 0,.int .i8 cc] [.int .i8 0,.int .i8 0,.int .i8 0,.int .i8 0,.int .i8 0,.int .i64 0,.int .i64 0,.int .i8 0]) with h6|h6
 ·have c7:= @cP dst
  generalize g9:al dst=r8 at c7
  let E2:EL:=E1++Vt 3 (tC (eF (nt h6)))++ [.ret _ _ _ c7,tC (eF (nt h6)),tC (nt h6)]
  cases r8
  ·exact (cZ (d:= .bool false) (E2++ [tF,tF,tF,tF,tT,tF,tF,tF,tF,tT,tF,tF,tF,tF,tT,tF,tF,tF,tF,tT,tT]) (by kernel_rfl)).to (by clear E1 E2;(try simp only [bI,wk,ay,aB,aa,ab,av,al,ax,aj,af,an,aE] at*);(simp [wk,ay,aB,aa,ab,av,al,ax,aj,af,an,aE, *];done))
  have Qe:= @cP src
  generalize g12:al src=QF at Qe
  let E3:EL:=E2++ [tT,tT,tT,.ret _ _ _ Qe,tT,tF]
  cases QF
  ·exact (cZ (d:= .bool false) (E3++ [tF,tF,tF,tF,tT,tF,tF,tF,tF,tT,tF,tF,tF,tF,tT,tT]) (by kernel_rfl)).to (by clear E1 E2 E3;(try simp only [bI,wk,ay,aB,aa,ab,av,al,ax,aj,af,an,aE] at*);(simp [wk,ay,aB,aa,ab,av,al,ax,aj,af,an,aE, *];done))
  have Qg:= @cP base
  generalize g15:al base=QG at Qg
  let E4:EL:=E3++ [tT,tT,tT,.ret _ _ _ Qg,tT,tF]
  cases QG
  ·exact (cZ (d:= .bool false) (E4++ [tF,tF,tF,tF,tT,tF,tF,tF,tF,tT,tT]) (by kernel_rfl)).to (by clear E1 E2 E3 E4;(try simp only [bI,wk,ay,aB,aa,ab,av,al,ax,aj,af,an,aE] at*);(simp [wk,ay,aB,aa,ab,av,al,ax,aj,af,an,aE, *];done))
  have PQ:= @bG ai (-2147483648) 2147483647
  let E5:EL:=E4++ [tT,tT,tT,.ret _ _ _ PQ,tT,tF]
  rcases cm (decide (ai<(-2147483648))) with h17|h17
  ·exact (cZ (d:= .bool false) (E5++Vt 4 (tC (eF (nt (bu (y:=decide (ai≤2147483647)) (aK (-2147483648) h17)))))++ [tC (nt (bu (y:=decide (ai≤2147483647)) (aK (-2147483648) h17))),tT]) (by kernel_rfl)).to (by clear E1 E2 E3 E4 E5;(try simp only [bI,wk,ay,aB,aa,ab,av,al,ax,aj,af,an,aE] at*);(simp [wk,ay,aB,aa,ab,av,al,ax,aj,af,an,aE, *];omega))
  rcases cm (decide (ai<2147483648)) with h18|h18
  ·have QH:= @bG au (-2147483648) 2147483647
   let E6:EL:=E5++Vt 3 (tC (eF (nt (aD (aK (-2147483648) h17) (cQ 2147483647 h18)))))++ [.ret _ _ _ QH,tC (eF (nt (aD (aK (-2147483648) h17) (cQ 2147483647 h18)))),tC (nt (aD (aK (-2147483648) h17) (cQ 2147483647 h18)))]
   rcases cm (decide (au<(-2147483648))) with h20|h20
   ·exact (cZ (d:= .bool false) (E6++ [tC (nt (bu (y:=decide (au≤2147483647)) (aK (-2147483648) h20)))]) (by kernel_rfl)).to (by clear E1 E2 E3 E4 E5 E6;(try simp only [bI,wk,ay,aB,aa,ab,av,al,ax,aj,af,an,aE] at*);(simp [wk,ay,aB,aa,ab,av,al,ax,aj,af,an,aE, *];omega))
   rcases cm (decide (au<2147483648)) with h21|h21
   ·let E7:EL:=E6++ [tC (nt (aD (aK (-2147483648) h20) (cQ 2147483647 h21)))]
    by_cases h22:w=32
    ·subst h22
     have Re:= @bG au 0 31
     exact (cZ (d:= .bool (decide (0≤au)&&decide (au≤31))) (E7++ [tF,tF,tF,tT,tF,tF,tF,tF,tF,tT,tF,tF,tF,tF]++Vt 8 tT++ [.ret _ _ _ Re,tT]) (by kernel_rfl)).to (by clear E1 E2 E3 E4 E5 E6 E7;(try simp only [bI,wk,ay,aB,aa,ab,av,al,ax,aj,af,an,aE] at*);(rw [Vw];simp [wk,ay,aB,aa,ab,av,al,ax,aj,af,an,aE, *];grind))
    let E8:EL:=E7++Vt 3 (tC (eF (aH h22)))++ [tC (aH h22)]++Vt 4 (tC (eF (aH h22)))
    by_cases h24:w=8
    ·subst h24
     have SK:= @bG au (-128) 127
     exact (cZ (d:= .bool false) (E8++ [tT,tT,tT,.ret _ _ _ SK,tT,tT,tF,tF,tF,tF,tF,tT]++Vt 8 tF) (by kernel_rfl)).to (by clear E1 E2 E3 E4 E5 E6 E7 E8;(try simp only [bI,wk,ay,aB,aa,ab,av,al,ax,aj,af,an,aE] at*);(simp [wk,ay,aB,aa,ab,av,al,ax,aj,af,an,aE, *];done))
    let E9:EL:=E8++Vt 3 (tC (eT (aH h24)))++ [tC (eF (aH h22)),tC (aH h24),tC (aH h22),tF,tF,tF,tF,tT]
    by_cases h26:w=64
    ·subst h26
     have RC:= @bG au 0 63
     exact (cZ (d:= .bool (decide (0≤au)&&decide (au≤63))) (E9++ [tT,tT,tT,tT,tT,tT,tT,.ret _ _ _ RC,tT]) (by kernel_rfl)).to (by clear E1 E2 E3 E4 E5 E6 E7 E8 E9;(try simp only [bI,wk,ay,aB,aa,ab,av,al,ax,aj,af,an,aE] at*);(rw [Vw];simp [wk,ay,aB,aa,ab,av,al,ax,aj,af,an,aE, *];grind))
    exact (cZ (d:= .bool false) (E9++Vt 7 (tC (eT (aH h26)))++ [tC (aH h26)]) (by kernel_rfl)).to (by clear E1 E2 E3 E4 E5 E6 E7 E8 E9;(try simp only [bI,wk,ay,aB,aa,ab,av,al,ax,aj,af,an,aE] at*);(simp [wk,ay,aB,aa,ab,av,al,ax,aj,af,an,aE, *];done))
   exact (cZ (d:= .bool false) (E6++ [tC (nt (aD (aK (-2147483648) h20) (cQ 2147483647 h21)))]) (by kernel_rfl)).to (by clear E1 E2 E3 E4 E5 E6;(try simp only [bI,wk,ay,aB,aa,ab,av,al,ax,aj,af,an,aE] at*);(simp [wk,ay,aB,aa,ab,av,al,ax,aj,af,an,aE, *];omega))
  exact (cZ (d:= .bool false) (E5++Vt 4 (tC (eF (nt (aD (aK (-2147483648) h17) (cQ 2147483647 h18)))))++ [tC (nt (aD (aK (-2147483648) h17) (cQ 2147483647 h18))),tT]) (by kernel_rfl)).to (by clear E1 E2 E3 E4 E5;(try simp only [bI,wk,ay,aB,aa,ab,av,al,ax,aj,af,an,aE] at*);(simp [wk,ay,aB,aa,ab,av,al,ax,aj,af,an,aE, *];omega))
 exact (cZ (d:= .bool false) (E1++Vt 4 (tC (eF (nt h6)))++ [tC (nt h6),tF,tF,tF,tF,tT,tF,tF,tF,tF,tT,tF,tF,tF,tF,tT,tF,tF,tF,tF,tT,tT]) (by kernel_rfl)).to (by clear E1;(try simp only [bI,wk,ay,aB,aa,ab,av,al,ax,aj,af,an,aE] at*);(rw [Vw];simp [wk,ay,aB,aa,ab,av,al,ax,aj,af,an,aE, *];grind))
theorem Bt:o6 5:=by
 intro op w dst src base ai au cc ho h PE
 have c0:= @bh op ho
 rw [eq_of_beq h] at c0
 generalize g2:eD op=r1 at c0
 generalize g4:iu op=r3 at c0
 have c5:= @Cy op w dst src base ai au cc 5 (rfl:true=true)
 let E1:EL:=([.ret _ _ _ c0]++Vt 4 (tC (eF (nt PE)))++ [.ret _ _ _ c5,tC (eF (nt PE)),tC (eF (nt PE)),.flat _ _ cD,tC (nt PE)])
 rcases cm (aa [.int .i8 0,.int .i8 0,.int .i8 0,.int .i8 src,.int .i8 base,.int .i64 ai,.int .i64 au,.int .i8 cc] [.int .i8 0,.int .i8 0,.int .i8 0,.int .i8 0,.int .i8 0,.int .i64 0,.int .i64 0,.int .i8 0]) with h6|h6
 ·have c7:= @cP dst
  generalize g9:al dst=r8 at c7
  let E2:EL:=E1++Vt 3 (tC (eF (nt h6)))++ [.ret _ _ _ c7,tC (eF (nt h6)),tC (nt h6)]
  cases r8
  ·exact (cZ (d:= .bool false) (E2++ [tF,tF,tF,tF,tT,tF,tF,tF,tF,tT,tF,tF,tF,tF,tT,tF,tF,tF,tF,tT,tT]) (by kernel_rfl)).to (by clear E1 E2;(try simp only [bI,wk,ay,aB,aa,ab,av,al,ax,aj,af,an,aE] at*);(simp [wk,ay,aB,aa,ab,av,al,ax,aj,af,an,aE, *];done))
  have Qe:= @cP src
  generalize g12:al src=QF at Qe
  let E3:EL:=E2++ [tT,tT,tT,.ret _ _ _ Qe,tT,tF]
  cases QF
  ·exact (cZ (d:= .bool false) (E3++ [tF,tF,tF,tF,tT,tF,tF,tF,tF,tT,tF,tF,tF,tF,tT,tT]) (by kernel_rfl)).to (by clear E1 E2 E3;(try simp only [bI,wk,ay,aB,aa,ab,av,al,ax,aj,af,an,aE] at*);(simp [wk,ay,aB,aa,ab,av,al,ax,aj,af,an,aE, *];done))
  have Qg:= @cP base
  generalize g15:al base=QG at Qg
  let E4:EL:=E3++ [tT,tT,tT,.ret _ _ _ Qg,tT,tF]
  cases QG
  ·exact (cZ (d:= .bool false) (E4++ [tF,tF,tF,tF,tT,tF,tF,tF,tF,tT,tT]) (by kernel_rfl)).to (by clear E1 E2 E3 E4;(try simp only [bI,wk,ay,aB,aa,ab,av,al,ax,aj,af,an,aE] at*);(simp [wk,ay,aB,aa,ab,av,al,ax,aj,af,an,aE, *];done))
  have PQ:= @bG ai (-2147483648) 2147483647
  let E5:EL:=E4++ [tT,tT,tT,.ret _ _ _ PQ,tT,tF]
  rcases cm (decide (ai<(-2147483648))) with h17|h17
  ·exact (cZ (d:= .bool false) (E5++Vt 4 (tC (eF (nt (bu (y:=decide (ai≤2147483647)) (aK (-2147483648) h17)))))++ [tC (nt (bu (y:=decide (ai≤2147483647)) (aK (-2147483648) h17))),tT]) (by kernel_rfl)).to (by clear E1 E2 E3 E4 E5;(try simp only [bI,wk,ay,aB,aa,ab,av,al,ax,aj,af,an,aE] at*);(simp [wk,ay,aB,aa,ab,av,al,ax,aj,af,an,aE, *];omega))
  rcases cm (decide (ai<2147483648)) with h18|h18
  ·have QH:= @bG au (-2147483648) 2147483647
   let E6:EL:=E5++Vt 3 (tC (eF (nt (aD (aK (-2147483648) h17) (cQ 2147483647 h18)))))++ [.ret _ _ _ QH,tC (eF (nt (aD (aK (-2147483648) h17) (cQ 2147483647 h18)))),tC (nt (aD (aK (-2147483648) h17) (cQ 2147483647 h18)))]
   rcases cm (decide (au<(-2147483648))) with h20|h20
   ·exact (cZ (d:= .bool false) (E6++ [tC (nt (bu (y:=decide (au≤2147483647)) (aK (-2147483648) h20)))]) (by kernel_rfl)).to (by clear E1 E2 E3 E4 E5 E6;(try simp only [bI,wk,ay,aB,aa,ab,av,al,ax,aj,af,an,aE] at*);(simp [wk,ay,aB,aa,ab,av,al,ax,aj,af,an,aE, *];omega))
   rcases cm (decide (au<2147483648)) with h21|h21
   ·let E7:EL:=E6++ [tC (nt (aD (aK (-2147483648) h20) (cQ 2147483647 h21)))]
    by_cases h22:w=32
    ·subst h22
     exact (cZ (d:= .bool true) (E7++ [tF,tF,tF,tT,tF,tF,tF,tF,tF,tT,tF,tF,tF,tT]) (by kernel_rfl)).to (by clear E1 E2 E3 E4 E5 E6 E7;(try simp only [bI,wk,ay,aB,aa,ab,av,al,ax,aj,af,an,aE] at*);(rw [Vw];simp [wk,ay,aB,aa,ab,av,al,ax,aj,af,an,aE, *];grind))
    let E8:EL:=E7++Vt 3 (tC (eF (aH h22)))++ [tC (aH h22)]++Vt 4 (tC (eF (aH h22)))
    by_cases h23:w=8
    ·subst h23
     have RE:= @bG au (-128) 127
     exact (cZ (d:= .bool false) (E8++ [tT,tT,tT,.ret _ _ _ RE,tT,tT,tF,tF,tF,tF,tT]) (by kernel_rfl)).to (by clear E1 E2 E3 E4 E5 E6 E7 E8;(try simp only [bI,wk,ay,aB,aa,ab,av,al,ax,aj,af,an,aE] at*);(simp [wk,ay,aB,aa,ab,av,al,ax,aj,af,an,aE, *];done))
    exact (cZ (d:= .bool (w==64)) (E8++Vt 3 (tC (eT (aH h23)))++ [tC (eF (aH h22)),tC (aH h23),tC (aH h22),tF,tF,tF,tT]) (by kernel_rfl)).to (by clear E1 E2 E3 E4 E5 E6 E7 E8;(try simp only [bI,wk,ay,aB,aa,ab,av,al,ax,aj,af,an,aE] at*);(rw [Vw];simp [wk,ay,aB,aa,ab,av,al,ax,aj,af,an,aE, *];grind))
   exact (cZ (d:= .bool false) (E6++ [tC (nt (aD (aK (-2147483648) h20) (cQ 2147483647 h21)))]) (by kernel_rfl)).to (by clear E1 E2 E3 E4 E5 E6;(try simp only [bI,wk,ay,aB,aa,ab,av,al,ax,aj,af,an,aE] at*);(simp [wk,ay,aB,aa,ab,av,al,ax,aj,af,an,aE, *];omega))
  exact (cZ (d:= .bool false) (E5++Vt 4 (tC (eF (nt (aD (aK (-2147483648) h17) (cQ 2147483647 h18)))))++ [tC (nt (aD (aK (-2147483648) h17) (cQ 2147483647 h18))),tT]) (by kernel_rfl)).to (by clear E1 E2 E3 E4 E5;(try simp only [bI,wk,ay,aB,aa,ab,av,al,ax,aj,af,an,aE] at*);(simp [wk,ay,aB,aa,ab,av,al,ax,aj,af,an,aE, *];omega))
 exact (cZ (d:= .bool false) (E1++Vt 4 (tC (eF (nt h6)))++ [tC (nt h6),tF,tF,tF,tF,tT,tF,tF,tF,tF,tT,tF,tF,tF,tF,tT,tF,tF,tF,tF,tT,tT]) (by kernel_rfl)).to (by clear E1;(try simp only [bI,wk,ay,aB,aa,ab,av,al,ax,aj,af,an,aE] at*);(rw [Vw];simp [wk,ay,aB,aa,ab,av,al,ax,aj,af,an,aE, *];grind))
end Go.Proofs.YtkpneibifdoecaaGreat
