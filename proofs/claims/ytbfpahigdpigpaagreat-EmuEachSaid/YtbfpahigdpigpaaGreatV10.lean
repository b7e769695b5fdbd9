import Derived.Test.YtbfpahigdpigpaaGreatV05
import Derived.Test.YtbfpahigdpigpaaGreatV08
open List renaming replicate→Zx
open Go.Proofs.Tryz renaming prog→Zy
open Bool renaming eq_iff_iff→ZB
open And renaming intro→ZI
/- Contracts and plain laws that a statement's proof leans on (texts merged:XOf,XOfA,XMay0,XMay1,XMay2). -/
set_option linter.unusedVariables false
set_option linter.unusedSimpArgs false
set_option maxRecDepth 100000
set_option maxHeartbeats 8000000
namespace Go.Proofs.YtbfpahigdpigpaaGreat
open Go Go.Ev
def ck:List D:= [ak 1,ay 137,ak 0,ak 3,ay 199,ak 0,ak 1,ay 1,ak 0,ak 1,ay 9,ak 0,ak 1,ay 33,ak 0,ak 1,ay 41,ak 0,ak 1,ay 49,ak 0,ak 1,ay 57,ak 0,ak 1,ay 133,ak 0,ak 3,ay 129,ak 0,ak 3,ay 129,ak 1,ak 3,ay 129,ak 4,ak 3,ay 129,ak 5,ak 3,ay 129,ak 6,ak 3,ay 129,ak 7,ak 3,ay 247,ak 0,ak 2,ay 175,ak 0,ak 4,ay 193,ak 4,ak 4,ay 193,ak 5,ak 4,ay 193,ak 7,ak 5,ay 211,ak 4,ak 5,ay 211,ak 5,ak 5,ay 211,ak 7,ak 5,ay 247,ak 3,ak 5,ay 247,ak 6,ak 6,ay 64,ak 0,ak 7,ay 139,ak 0,ak 8,ay 137,ak 0,ak 9,ay 233,ak 0,ak 10,ay 128,ak 0,ak 11,ay 195,ak 0,ak 11,ay 5,ak 0]
def eB (Tz:Int):Prop:=aQ Zy 73 ([ak Tz]) (.aL [.agg [ak (aC Tz),ay (bh Tz),ak (bO Tz)],ax true])
theorem MV:eB 0:=(nD (d:= .aL [.agg [ak 1,ay 137,ak 0],ax true]) [aO,tT,tT,tT,tF,tF,tT,.fU ck 0 3 ([ak 1,ay 137,ak 0]) ⟨rfl,by decide⟩]).to (by simp [wk,a7];decide)
theorem MU:eB 1:=(nD (d:= .aL [.agg [ak 3,ay 199,ak 0],ax true]) [aO,tT,tT,tT,tF,tF,tT,.fU ck 3 3 ([ak 3,ay 199,ak 0]) ⟨rfl,by decide⟩]).to (by simp [wk,a7];decide)
theorem MT:eB 2:=(nD (d:= .aL [.agg [ak 1,ay 1,ak 0],ax true]) [aO,tT,tT,tT,tF,tF,tT,.fU ck 6 3 ([ak 1,ay 1,ak 0]) ⟨rfl,by decide⟩]).to (by simp [wk,a7];decide)
theorem MS:eB 3:=(nD (d:= .aL [.agg [ak 1,ay 9,ak 0],ax true]) [aO,tT,tT,tT,tF,tF,tT,.fU ck 9 3 ([ak 1,ay 9,ak 0]) ⟨rfl,by decide⟩]).to (by simp [wk,a7];decide)
theorem MR:eB 4:=(nD (d:= .aL [.agg [ak 1,ay 33,ak 0],ax true]) [aO,tT,tT,tT,tF,tF,tT,.fU ck 12 3 ([ak 1,ay 33,ak 0]) ⟨rfl,by decide⟩]).to (by simp [wk,a7];decide)
theorem MQ:eB 5:=(nD (d:= .aL [.agg [ak 1,ay 41,ak 0],ax true]) [aO,tT,tT,tT,tF,tF,tT,.fU ck 15 3 ([ak 1,ay 41,ak 0]) ⟨rfl,by decide⟩]).to (by simp [wk,a7];decide)
theorem MP:eB 6:=(nD (d:= .aL [.agg [ak 1,ay 49,ak 0],ax true]) [aO,tT,tT,tT,tF,tF,tT,.fU ck 18 3 ([ak 1,ay 49,ak 0]) ⟨rfl,by decide⟩]).to (by simp [wk,a7];decide)
theorem MO:eB 7:=(nD (d:= .aL [.agg [ak 1,ay 57,ak 0],ax true]) [aO,tT,tT,tT,tF,tF,tT,.fU ck 21 3 ([ak 1,ay 57,ak 0]) ⟨rfl,by decide⟩]).to (by simp [wk,a7];decide)
theorem MN:eB 8:=(nD (d:= .aL [.agg [ak 1,ay 133,ak 0],ax true]) [aO,tT,tT,tT,tF,tF,tT,.fU ck 24 3 ([ak 1,ay 133,ak 0]) ⟨rfl,by decide⟩]).to (by simp [wk,a7];decide)
theorem ML:eB 9:=(nD (d:= .aL [.agg [ak 3,ay 129,ak 0],ax true]) [aO,tT,tT,tT,tF,tF,tT,.fU ck 27 3 ([ak 3,ay 129,ak 0]) ⟨rfl,by decide⟩]).to (by simp [wk,a7];decide)
theorem KG:eB 10:=(nD (d:= .aL [.agg [ak 3,ay 129,ak 1],ax true]) [aO,tT,tT,tT,tF,tF,tT,.fU ck 30 3 ([ak 3,ay 129,ak 1]) ⟨rfl,by decide⟩]).to (by simp [wk,a7];decide)
theorem KF:eB 11:=(nD (d:= .aL [.agg [ak 3,ay 129,ak 4],ax true]) [aO,tT,tT,tT,tF,tF,tT,.fU ck 33 3 ([ak 3,ay 129,ak 4]) ⟨rfl,by decide⟩]).to (by simp [wk,a7];decide)
theorem KE:eB 12:=(nD (d:= .aL [.agg [ak 3,ay 129,ak 5],ax true]) [aO,tT,tT,tT,tF,tF,tT,.fU ck 36 3 ([ak 3,ay 129,ak 5]) ⟨rfl,by decide⟩]).to (by simp [wk,a7];decide)
theorem KD:eB 13:=(nD (d:= .aL [.agg [ak 3,ay 129,ak 6],ax true]) [aO,tT,tT,tT,tF,tF,tT,.fU ck 39 3 ([ak 3,ay 129,ak 6]) ⟨rfl,by decide⟩]).to (by simp [wk,a7];decide)
theorem KC:eB 14:=(nD (d:= .aL [.agg [ak 3,ay 129,ak 7],ax true]) [aO,tT,tT,tT,tF,tF,tT,.fU ck 42 3 ([ak 3,ay 129,ak 7]) ⟨rfl,by decide⟩]).to (by simp [wk,a7];decide)
theorem KB:eB 15:=(nD (d:= .aL [.agg [ak 3,ay 247,ak 0],ax true]) [aO,tT,tT,tT,tF,tF,tT,.fU ck 45 3 ([ak 3,ay 247,ak 0]) ⟨rfl,by decide⟩]).to (by simp [wk,a7];decide)
theorem KA:eB 16:=(nD (d:= .aL [.agg [ak 2,ay 175,ak 0],ax true]) [aO,tT,tT,tT,tF,tF,tT,.fU ck 48 3 ([ak 2,ay 175,ak 0]) ⟨rfl,by decide⟩]).to (by simp [wk,a7];decide)
theorem Kz:eB 17:=(nD (d:= .aL [.agg [ak 4,ay 193,ak 4],ax true]) [aO,tT,tT,tT,tF,tF,tT,.fU ck 51 3 ([ak 4,ay 193,ak 4]) ⟨rfl,by decide⟩]).to (by simp [wk,a7];decide)
theorem Ky:eB 18:=(nD (d:= .aL [.agg [ak 4,ay 193,ak 5],ax true]) [aO,tT,tT,tT,tF,tF,tT,.fU ck 54 3 ([ak 4,ay 193,ak 5]) ⟨rfl,by decide⟩]).to (by simp [wk,a7];decide)
theorem Kx:eB 19:=(nD (d:= .aL [.agg [ak 4,ay 193,ak 7],ax true]) [aO,tT,tT,tT,tF,tF,tT,.fU ck 57 3 ([ak 4,ay 193,ak 7]) ⟨rfl,by decide⟩]).to (by simp [wk,a7];decide)
theorem Kw:eB 20:=(nD (d:= .aL [.agg [ak 5,ay 211,ak 4],ax true]) [aO,tT,tT,tT,tF,tF,tT,.fU ck 60 3 ([ak 5,ay 211,ak 4]) ⟨rfl,by decide⟩]).to (by simp [wk,a7];decide)
theorem Kv:eB 21:=(nD (d:= .aL [.agg [ak 5,ay 211,ak 5],ax true]) [aO,tT,tT,tT,tF,tF,tT,.fU ck 63 3 ([ak 5,ay 211,ak 5]) ⟨rfl,by decide⟩]).to (by simp [wk,a7];decide)
theorem Ku:eB 22:=(nD (d:= .aL [.agg [ak 5,ay 211,ak 7],ax true]) [aO,tT,tT,tT,tF,tF,tT,.fU ck 66 3 ([ak 5,ay 211,ak 7]) ⟨rfl,by decide⟩]).to (by simp [wk,a7];decide)
theorem Kt:eB 23:=(nD (d:= .aL [.agg [ak 5,ay 247,ak 3],ax true]) [aO,tT,tT,tT,tF,tF,tT,.fU ck 69 3 ([ak 5,ay 247,ak 3]) ⟨rfl,by decide⟩]).to (by simp [wk,a7];decide)
theorem Ks:eB 24:=(nD (d:= .aL [.agg [ak 5,ay 247,ak 6],ax true]) [aO,tT,tT,tT,tF,tF,tT,.fU ck 72 3 ([ak 5,ay 247,ak 6]) ⟨rfl,by decide⟩]).to (by simp [wk,a7];decide)
theorem Kr:eB 25:=(nD (d:= .aL [.agg [ak 6,ay 64,ak 0],ax true]) [aO,tT,tT,tT,tF,tF,tT,.fU ck 75 3 ([ak 6,ay 64,ak 0]) ⟨rfl,by decide⟩]).to (by simp [wk,a7];decide)
theorem Kq:eB 26:=(nD (d:= .aL [.agg [ak 7,ay 139,ak 0],ax true]) [aO,tT,tT,tT,tF,tF,tT,.fU ck 78 3 ([ak 7,ay 139,ak 0]) ⟨rfl,by decide⟩]).to (by simp [wk,a7];decide)
theorem Kp:eB 27:=(nD (d:= .aL [.agg [ak 8,ay 137,ak 0],ax true]) [aO,tT,tT,tT,tF,tF,tT,.fU ck 81 3 ([ak 8,ay 137,ak 0]) ⟨rfl,by decide⟩]).to (by simp [wk,a7];decide)
theorem Ko:eB 28:=(nD (d:= .aL [.agg [ak 9,ay 233,ak 0],ax true]) [aO,tT,tT,tT,tF,tF,tT,.fU ck 84 3 ([ak 9,ay 233,ak 0]) ⟨rfl,by decide⟩]).to (by simp [wk,a7];decide)
theorem Kn:eB 29:=(nD (d:= .aL [.agg [ak 10,ay 128,ak 0],ax true]) [aO,tT,tT,tT,tF,tF,tT,.fU ck 87 3 ([ak 10,ay 128,ak 0]) ⟨rfl,by decide⟩]).to (by simp [wk,a7];decide)
theorem Km:eB 30:=(nD (d:= .aL [.agg [ak 11,ay 195,ak 0],ax true]) [aO,tT,tT,tT,tF,tF,tT,.fU ck 90 3 ([ak 11,ay 195,ak 0]) ⟨rfl,by decide⟩]).to (by simp [wk,a7];decide)
theorem Kl:eB 31:=(nD (d:= .aL [.agg [ak 11,ay 5,ak 0],ax true]) [aO,tT,tT,tT,tF,tF,tT,.fU ck 93 3 ([ak 11,ay 5,ak 0]) ⟨rfl,by decide⟩]).to (by simp [wk,a7];decide)
theorem G3 (op:Int) (h:op<0):aQ Zy 73 ([ak op]) (.aL [.agg [ak 0,ay 0,ak 0],ax false]):=(nD (d:= .aL [.agg [ak 0,ay 0,ak 0],ax false]) ([aO]++Zx 3 (tC (eF (cq h)))++ [tC (cq h),tT])).to (by simp [wk,a7])
theorem CD (op:Int) (h:32≤op) (ho:op≤127):aQ Zy 73 ([ak op]) (.aL [.agg [ak 0,ay 0,ak 0],ax false]):=(nD (d:= .aL [.agg [ak 0,ay 0,ak 0],ax false]) ([aO]++Zx 3 (tC (eF (lz 0 (bM (Int.not_lt.2 h)))))++ [tC (lz 0 (bM (Int.not_lt.2 h))),tC (bK 32 (by (simp only [cO] at*;omega):(decide (IntKind.wrap IntKind.i64 op<32))=false))])).to (by simp [wk,a7])
theorem eg (n:Int):aQ Zy 99 ([ak n]) (ax (ba n)):=by
 rcases cI (decide (n<0)) with h0|h0
 ·exact (Sb (d:= .bool false) [tC (eT (bK 0 h0)),tC (eT (bK 0 h0)),tC (bK 0 h0)]).to (by (try simp only [cf,aB,ba,cT,aU,aP] at*);first|(simp [aB,ba,cT,aU,aP, *];done)|(simp [aB,ba,cT,aU,aP, *];omega)|(rw [ZB];simp [aB,ba,cT,aU,aP, *];done)|(rw [ZB];simp [aB,ba,cT,aU,aP, *];omega)|(rw [ZB];simp [aB,ba,cT,aU,aP, *];grind)|(subst_vars;rw [ZB];simp;grind))
 exact (Sb (d:= .bool (decide (n<16))) [tC (eT (bK 0 h0)),tC (eT (bK 0 h0)),tC (bK 0 h0)]).to (by (try simp only [cf,aB,ba,cT,aU,aP] at*);first|(simp [aB,ba,cT,aU,aP, *];done)|(simp [aB,ba,cT,aU,aP, *];omega)|(rw [ZB];simp [aB,ba,cT,aU,aP, *];done)|(rw [ZB];simp [aB,ba,cT,aU,aP, *];omega)|(rw [ZB];simp [aB,ba,cT,aU,aP, *];grind)|(subst_vars;rw [ZB];simp;grind))
theorem rD (n:Int):aQ Zy 101 ([ak n]) (ax (cT n)):=by
 rcases cI (decide (n<2)) with h0|h0
 ·exact (MY (d:= .bool false) [tC (eT (bK 2 h0)),tC (eT (bK 2 h0)),tC (bK 2 h0),tT,tT,tT,tC (eT (bK 12 (ub 12 h0))),tC (eT (bK 12 (ub 12 h0))),tT,tC (bK 12 (ub 12 h0)),tF]).to (by (try simp only [cf,aB,ba,cT,aU,aP] at*);first|(simp [aB,ba,cT,aU,aP, *];done)|(simp [aB,ba,cT,aU,aP, *];omega)|(rw [ZB];simp [aB,ba,cT,aU,aP, *];done)|(rw [ZB];simp [aB,ba,cT,aU,aP, *];omega)|(rw [ZB];simp [aB,ba,cT,aU,aP, *];grind)|(subst_vars;rw [ZB];simp;grind))
 let E1:EL:= [tC (eT (bK 2 h0)),tC (eT (bK 2 h0)),tC (bK 2 h0)]
 rcases cI (decide (n<8)) with h1|h1
 ·exact (MY (d:= .bool true) (E1++Zx 4 (tC (eF (eH 7 h1)))++ [tC (eH 7 h1)])).to (by clear E1;(try simp only [cf,aB,ba,cT,aU,aP] at*);first|(simp [aB,ba,cT,aU,aP, *];done)|(simp [aB,ba,cT,aU,aP, *];omega)|(rw [ZB];simp [aB,ba,cT,aU,aP, *];done)|(rw [ZB];simp [aB,ba,cT,aU,aP, *];omega)|(rw [ZB];simp [aB,ba,cT,aU,aP, *];grind)|(subst_vars;rw [ZB];simp;grind))
 rcases cI (decide (n<12)) with h2|h2
 ·exact (MY (d:= .bool false) (E1++Zx 3 (tC (eF (eH 7 h1)))++ [tC (eT (bK 12 h2)),tC (eT (bK 12 h2)),tC (eF (eH 7 h1)),tC (bK 12 h2),tC (eH 7 h1)])).to (by clear E1;(try simp only [cf,aB,ba,cT,aU,aP] at*);first|(simp [aB,ba,cT,aU,aP, *];done)|(simp [aB,ba,cT,aU,aP, *];omega)|(rw [ZB];simp [aB,ba,cT,aU,aP, *];done)|(rw [ZB];simp [aB,ba,cT,aU,aP, *];omega)|(rw [ZB];simp [aB,ba,cT,aU,aP, *];grind)|(subst_vars;rw [ZB];simp;grind))
 exact (MY (d:= .bool (decide (n≤15))) (E1++Zx 3 (tC (eF (eH 7 h1)))++ [tC (eT (bK 12 h2)),tC (eT (bK 12 h2)),tC (eF (eH 7 h1)),tC (bK 12 h2),tC (eH 7 h1)])).to (by clear E1;(try simp only [cf,aB,ba,cT,aU,aP] at*);first|(simp [aB,ba,cT,aU,aP, *];done)|(simp [aB,ba,cT,aU,aP, *];omega)|(rw [ZB];simp [aB,ba,cT,aU,aP, *];done)|(rw [ZB];simp [aB,ba,cT,aU,aP, *];omega)|(rw [ZB];simp [aB,ba,cT,aU,aP, *];grind)|(subst_vars;rw [ZB];simp;grind))
theorem b6 (n a b:Int):aQ Zy 100 ([aq n,aq a,aq b]) (ax (decide (a≤n)&&decide (n≤b))):=by
 rcases cI (decide (n≥a)) with h0|h0
 ·exact (Qs (d:= .bool (decide (n≤b))) [tC (eT h0),tC (eT h0),tC (eT h0),tC h0]).to (by (try simp only [cf,aB,ba,cT,aU,aP] at*);(simp [aB,ba,cT,aU,aP, *];done))
 exact (Qs (d:= .bool false) [tC (eT h0),tC (eT h0),tC (eT h0),tC h0]).to (by (try simp only [cf,aB,ba,cT,aU,aP] at*);(simp [aB,ba,cT,aU,aP, *];done))
theorem lB (n:Int):aQ Zy 102 ([ak n]) (ax (aU n)):=by
 by_cases h0:n=8
 ·subst h0
  exact (KI (d:= .bool true) [tT,tT]).to (by (try simp only [cf,aB,ba,cT,aU,aP] at*);(simp [aB,ba,cT,aU,aP, *];done))
 by_cases h1:n=16
 ·subst h1
  exact (KI (d:= .bool true) [tC (aR h0),tT,tT]).to (by (try simp only [cf,aB,ba,cT,aU,aP] at*);(simp [aB,ba,cT,aU,aP, *];done))
 by_cases h2:n=32
 ·subst h2
  exact (KI (d:= .bool true) [tC (aR h0),tC (aR h1),tT,tT]).to (by (try simp only [cf,aB,ba,cT,aU,aP] at*);(simp [aB,ba,cT,aU,aP, *];done))
 by_cases h3:n=64
 ·subst h3
  exact (KI (d:= .bool true) [tC (aR h0),tC (aR h1),tC (aR h2),tT]).to (by (try simp only [cf,aB,ba,cT,aU,aP] at*);(simp [aB,ba,cT,aU,aP, *];done))
 exact (KI (d:= .bool false) [tC (aR h0),tC (aR h1),tC (aR h2),tC (aR h3)]).to (by (try simp only [cf,aB,ba,cT,aU,aP] at*);(simp [aB,ba,cT,aU,aP, *];done))
theorem dq (n:Int):aQ Zy 61 ([ak n]) (ax (ba n)):=by
 rcases cI (decide (n<0)) with h0|h0
 ·exact (Sh (d:= .bool false) [tC (eT (bK 0 h0)),tC (eT (bK 0 h0)),tC (bK 0 h0)]).to (by (try simp only [cf,aB,ba,cT,aU,aP] at*);first|(simp [aB,ba,cT,aU,aP, *];done)|(simp [aB,ba,cT,aU,aP, *];omega)|(rw [ZB];simp [aB,ba,cT,aU,aP, *];done)|(rw [ZB];simp [aB,ba,cT,aU,aP, *];omega)|(rw [ZB];simp [aB,ba,cT,aU,aP, *];grind)|(subst_vars;rw [ZB];simp;grind))
 exact (Sh (d:= .bool (decide (n<16))) [tC (eT (bK 0 h0)),tC (eT (bK 0 h0)),tC (bK 0 h0)]).to (by (try simp only [cf,aB,ba,cT,aU,aP] at*);first|(simp [aB,ba,cT,aU,aP, *];done)|(simp [aB,ba,cT,aU,aP, *];omega)|(rw [ZB];simp [aB,ba,cT,aU,aP, *];done)|(rw [ZB];simp [aB,ba,cT,aU,aP, *];omega)|(rw [ZB];simp [aB,ba,cT,aU,aP, *];grind)|(subst_vars;rw [ZB];simp;grind))
theorem Ch (n:Int):aQ Zy 64 ([ak n]) (ax (cT n)):=by
 rcases cI (decide (n<2)) with h0|h0
 ·exact (Q9 (d:= .bool false) [tC (eT (bK 2 h0)),tC (eT (bK 2 h0)),tC (bK 2 h0),tT,tT,tT,tC (eT (bK 12 (ub 12 h0))),tC (eT (bK 12 (ub 12 h0))),tT,tC (bK 12 (ub 12 h0)),tF]).to (by (try simp only [cf,aB,ba,cT,aU,aP] at*);first|(simp [aB,ba,cT,aU,aP, *];done)|(simp [aB,ba,cT,aU,aP, *];omega)|(rw [ZB];simp [aB,ba,cT,aU,aP, *];done)|(rw [ZB];simp [aB,ba,cT,aU,aP, *];omega)|(rw [ZB];simp [aB,ba,cT,aU,aP, *];grind)|(subst_vars;rw [ZB];simp;grind))
 let E1:EL:= [tC (eT (bK 2 h0)),tC (eT (bK 2 h0)),tC (bK 2 h0)]
 rcases cI (decide (n<8)) with h1|h1
 ·exact (Q9 (d:= .bool true) (E1++Zx 4 (tC (eF (eH 7 h1)))++ [tC (eH 7 h1)])).to (by clear E1;(try simp only [cf,aB,ba,cT,aU,aP] at*);first|(simp [aB,ba,cT,aU,aP, *];done)|(simp [aB,ba,cT,aU,aP, *];omega)|(rw [ZB];simp [aB,ba,cT,aU,aP, *];done)|(rw [ZB];simp [aB,ba,cT,aU,aP, *];omega)|(rw [ZB];simp [aB,ba,cT,aU,aP, *];grind)|(subst_vars;rw [ZB];simp;grind))
 rcases cI (decide (n<12)) with h2|h2
 ·exact (Q9 (d:= .bool false) (E1++Zx 3 (tC (eF (eH 7 h1)))++ [tC (eT (bK 12 h2)),tC (eT (bK 12 h2)),tC (eF (eH 7 h1)),tC (bK 12 h2),tC (eH 7 h1)])).to (by clear E1;(try simp only [cf,aB,ba,cT,aU,aP] at*);first|(simp [aB,ba,cT,aU,aP, *];done)|(simp [aB,ba,cT,aU,aP, *];omega)|(rw [ZB];simp [aB,ba,cT,aU,aP, *];done)|(rw [ZB];simp [aB,ba,cT,aU,aP, *];omega)|(rw [ZB];simp [aB,ba,cT,aU,aP, *];grind)|(subst_vars;rw [ZB];simp;grind))
 exact (Q9 (d:= .bool (decide (n≤15))) (E1++Zx 3 (tC (eF (eH 7 h1)))++ [tC (eT (bK 12 h2)),tC (eT (bK 12 h2)),tC (eF (eH 7 h1)),tC (bK 12 h2),tC (eH 7 h1)])).to (by clear E1;(try simp only [cf,aB,ba,cT,aU,aP] at*);first|(simp [aB,ba,cT,aU,aP, *];done)|(simp [aB,ba,cT,aU,aP, *];omega)|(rw [ZB];simp [aB,ba,cT,aU,aP, *];done)|(rw [ZB];simp [aB,ba,cT,aU,aP, *];omega)|(rw [ZB];simp [aB,ba,cT,aU,aP, *];grind)|(subst_vars;rw [ZB];simp;grind))
theorem lF (n:Int):aQ Zy 63 ([ak n]) (ax (aP n)):=by
 by_cases h0:n=32
 ·subst h0
  exact (Sf (d:= .bool true) [tF,tF,tT]).to (by (try simp only [cf,aB,ba,cT,aU,aP] at*);first|(simp [aB,ba,cT,aU,aP, *];done)|(simp [aB,ba,cT,aU,aP, *];omega)|(rw [ZB];simp [aB,ba,cT,aU,aP, *];done)|(rw [ZB];simp [aB,ba,cT,aU,aP, *];omega)|(rw [ZB];simp [aB,ba,cT,aU,aP, *];grind)|(subst_vars;rw [ZB];simp;grind))
 exact (Sf (d:= .bool (n==64)) [tC (eF (aR h0)),tC (eF (aR h0)),tC (aR h0)]).to (by (try simp only [cf,aB,ba,cT,aU,aP] at*);first|(simp [aB,ba,cT,aU,aP, *];done)|(simp [aB,ba,cT,aU,aP, *];omega)|(rw [ZB];simp [aB,ba,cT,aU,aP, *];done)|(rw [ZB];simp [aB,ba,cT,aU,aP, *];omega)|(rw [ZB];simp [aB,ba,cT,aU,aP, *];grind)|(subst_vars;rw [ZB];simp;grind))
theorem iv (n:Int):aQ Zy 65 ([ak n]) (ax (aU n)):=by
 by_cases h0:n=8
 ·subst h0
  exact (Q8 (d:= .bool true) (cr 9 292)).to (by (try simp only [cf,aB,ba,cT,aU,aP] at*);first|(simp [aB,ba,cT,aU,aP, *];done)|(simp [aB,ba,cT,aU,aP, *];omega)|(rw [ZB];simp [aB,ba,cT,aU,aP, *];done)|(rw [ZB];simp [aB,ba,cT,aU,aP, *];omega)|(rw [ZB];simp [aB,ba,cT,aU,aP, *];grind)|(subst_vars;rw [ZB];simp;grind))
 let E1:EL:= [tC (eF (aR h0)),tC (eF (aR h0)),tC (aR h0)]
 by_cases h1:n=16
 ·subst h1
  exact (Q8 (d:= .bool true) (E1++ [tF,tF,tT,tF,tF,tT])).to (by clear E1;(try simp only [cf,aB,ba,cT,aU,aP] at*);first|(simp [aB,ba,cT,aU,aP, *];done)|(simp [aB,ba,cT,aU,aP, *];omega)|(rw [ZB];simp [aB,ba,cT,aU,aP, *];done)|(rw [ZB];simp [aB,ba,cT,aU,aP, *];omega)|(rw [ZB];simp [aB,ba,cT,aU,aP, *];grind)|(subst_vars;rw [ZB];simp;grind))
 by_cases h2:n=32
 ·subst h2
  exact (Q8 (d:= .bool true) (E1++ [tC (eF (aR h1)),tC (eF (aR h1)),tC (aR h1),tF,tF,tT])).to (by clear E1;(try simp only [cf,aB,ba,cT,aU,aP] at*);first|(simp [aB,ba,cT,aU,aP, *];done)|(simp [aB,ba,cT,aU,aP, *];omega)|(rw [ZB];simp [aB,ba,cT,aU,aP, *];done)|(rw [ZB];simp [aB,ba,cT,aU,aP, *];omega)|(rw [ZB];simp [aB,ba,cT,aU,aP, *];grind)|(subst_vars;rw [ZB];simp;grind))
 exact (Q8 (d:= .bool (n==64)) (E1++ [tC (eF (aR h1)),tC (eF (aR h1)),tC (aR h1),tC (eF (aR h2)),tC (eF (aR h2)),tC (aR h2)])).to (by clear E1;(try simp only [cf,aB,ba,cT,aU,aP] at*);first|(simp [aB,ba,cT,aU,aP, *];done)|(simp [aB,ba,cT,aU,aP, *];omega)|(rw [ZB];simp [aB,ba,cT,aU,aP, *];done)|(rw [ZB];simp [aB,ba,cT,aU,aP, *];omega)|(rw [ZB];simp [aB,ba,cT,aU,aP, *];grind)|(subst_vars;rw [ZB];simp;grind))
theorem dX (n:Int):aQ Zy 62 ([aq n]) (ax (decide (-2147483648≤n∧n≤2147483647))):=by
 rcases cI (decide (n<(-2147483648))) with h0|h0
 ·exact (Sg (d:= .bool false) [tC (eT (bK (-2147483648) h0)),tC (eT (bK (-2147483648) h0)),tC (bK (-2147483648) h0)]).to (by (try simp only [cf,aB,ba,cT,aU,aP] at*);first|(simp [aB,ba,cT,aU,aP, *];done)|(simp [aB,ba,cT,aU,aP, *];omega)|(rw [ZB];simp [aB,ba,cT,aU,aP, *];done)|(rw [ZB];simp [aB,ba,cT,aU,aP, *];omega)|(rw [ZB];simp [aB,ba,cT,aU,aP, *];grind)|(subst_vars;rw [ZB];simp;grind))
 exact (Sg (d:= .bool (decide (n<2147483648))) [tC (eT (bK (-2147483648) h0)),tC (eT (bK (-2147483648) h0)),tC (bK (-2147483648) h0)]).to (by (try simp only [cf,aB,ba,cT,aU,aP] at*);first|(simp [aB,ba,cT,aU,aP, *];done)|(simp [aB,ba,cT,aU,aP, *];omega)|(rw [ZB];simp [aB,ba,cT,aU,aP, *];done)|(rw [ZB];simp [aB,ba,cT,aU,aP, *];omega)|(rw [ZB];simp [aB,ba,cT,aU,aP, *];grind)|(subst_vars;rw [ZB];simp;grind))
theorem Ez (n:Int):aQ Zy 66 ([aq n]) (ax (decide (-128≤n∧n≤127))):=by
 rcases cI (decide (n<(-128))) with h0|h0
 ·exact (Se (d:= .bool false) [tC (eT (bK (-128) h0)),tC (eT (bK (-128) h0)),tC (bK (-128) h0)]).to (by (try simp only [cf,aB,ba,cT,aU,aP] at*);first|(simp [aB,ba,cT,aU,aP, *];done)|(simp [aB,ba,cT,aU,aP, *];omega)|(rw [ZB];simp [aB,ba,cT,aU,aP, *];done)|(rw [ZB];simp [aB,ba,cT,aU,aP, *];omega)|(rw [ZB];simp [aB,ba,cT,aU,aP, *];grind)|(subst_vars;rw [ZB];simp;grind))
 exact (Se (d:= .bool (decide (n<128))) [tC (eT (bK (-128) h0)),tC (eT (bK (-128) h0)),tC (bK (-128) h0)]).to (by (try simp only [cf,aB,ba,cT,aU,aP] at*);first|(simp [aB,ba,cT,aU,aP, *];done)|(simp [aB,ba,cT,aU,aP, *];omega)|(rw [ZB];simp [aB,ba,cT,aU,aP, *];done)|(rw [ZB];simp [aB,ba,cT,aU,aP, *];omega)|(rw [ZB];simp [aB,ba,cT,aU,aP, *];grind)|(subst_vars;rw [ZB];simp;grind))
theorem aH (op:Int):aQ Zy 58 ([ak op]) (aq (bq op)):=by
 by_cases h0:op=0
 ·subst h0
  exact (nQ (d:= .int .i64 1) [tT,tT]).to (by (simp only [wk,D.int.injEq,ee];decide))
 let E1:EL:= [tC (aR h0)]
 by_cases h1:op=2
 ·subst h1
  exact (nQ (d:= .int .i64 1) (E1++ [tT,tT])).to (by (simp only [wk,D.int.injEq,ee];decide))
 let E2:EL:=E1++ [tC (aR h1)]
 by_cases h2:op=3
 ·subst h2
  exact (nQ (d:= .int .i64 1) (E2++ [tT,tT])).to (by (simp only [wk,D.int.injEq,ee];decide))
 let E3:EL:=E2++ [tC (aR h2)]
 by_cases h3:op=4
 ·subst h3
  exact (nQ (d:= .int .i64 1) (E3++ [tT,tT])).to (by (simp only [wk,D.int.injEq,ee];decide))
 let E4:EL:=E3++ [tC (aR h3)]
 by_cases h4:op=5
 ·subst h4
  exact (nQ (d:= .int .i64 1) (E4++ [tT,tT])).to (by (simp only [wk,D.int.injEq,ee];decide))
 let E5:EL:=E4++ [tC (aR h4)]
 by_cases h5:op=6
 ·subst h5
  exact (nQ (d:= .int .i64 1) (E5++ [tT,tT])).to (by (simp only [wk,D.int.injEq,ee];decide))
 let E6:EL:=E5++ [tC (aR h5)]
 by_cases h6:op=7
 ·subst h6
  exact (nQ (d:= .int .i64 1) (E6++ [tT,tT])).to (by (simp only [wk,D.int.injEq,ee];decide))
 let E7:EL:=E6++ [tC (aR h6)]
 by_cases h7:op=8
 ·subst h7
  exact (nQ (d:= .int .i64 1) (E7++ [tT,tT])).to (by (simp only [wk,D.int.injEq,ee];decide))
 let E8:EL:=E7++ [tC (aR h7)]
 by_cases h8:op=16
 ·subst h8
  exact (nQ (d:= .int .i64 1) (E8++ [tT])).to (by (simp only [wk,D.int.injEq,ee];decide))
 let E9:EL:=E8++ [tC (aR h8)]
 by_cases h9:op=1
 ·subst h9
  exact (nQ (d:= .int .i64 2) (E9++ [tT,tT])).to (by (simp only [wk,D.int.injEq,ee];decide))
 let E10:EL:=E9++ [tC (aR h9)]
 by_cases UE:op=9
 ·subst UE
  exact (nQ (d:= .int .i64 2) (E10++ [tT,tT])).to (by (simp only [wk,D.int.injEq,ee];decide))
 let E11:EL:=E10++ [tC (aR UE)]
 by_cases Vn:op=10
 ·subst Vn
  exact (nQ (d:= .int .i64 2) (E11++ [tT,tT])).to (by (simp only [wk,D.int.injEq,ee];decide))
 let E12:EL:=E11++ [tC (aR Vn)]
 by_cases Wk:op=11
 ·subst Wk
  exact (nQ (d:= .int .i64 2) (E12++ [tT,tT])).to (by (simp only [wk,D.int.injEq,ee];decide))
 let E13:EL:=E12++ [tC (aR Wk)]
 by_cases h13:op=12
 ·subst h13
  exact (nQ (d:= .int .i64 2) (E13++ [tT,tT])).to (by (simp only [wk,D.int.injEq,ee];decide))
 let E14:EL:=E13++ [tC (aR h13)]
 by_cases h14:op=13
 ·subst h14
  exact (nQ (d:= .int .i64 2) (E14++ [tT,tT])).to (by (simp only [wk,D.int.injEq,ee];decide))
 let E15:EL:=E14++ [tC (aR h14)]
 by_cases h15:op=14
 ·subst h15
  exact (nQ (d:= .int .i64 2) (E15++ [tT,tT])).to (by (simp only [wk,D.int.injEq,ee];decide))
 let E16:EL:=E15++ [tC (aR h15)]
 by_cases h16:op=15
 ·subst h16
  exact (nQ (d:= .int .i64 2) (E16++ [tT])).to (by (simp only [wk,D.int.injEq,ee];decide))
 let E17:EL:=E16++ [tC (aR h16)]
 by_cases h17:op=17
 ·subst h17
  exact (nQ (d:= .int .i64 3) (E17++ [tT,tT])).to (by (simp only [wk,D.int.injEq,ee];decide))
 let E18:EL:=E17++ [tC (aR h17)]
 by_cases h18:op=18
 ·subst h18
  exact (nQ (d:= .int .i64 3) (E18++ [tT,tT])).to (by (simp only [wk,D.int.injEq,ee];decide))
 let E19:EL:=E18++ [tC (aR h18)]
 by_cases h19:op=19
 ·subst h19
  exact (nQ (d:= .int .i64 3) (E19++ [tT])).to (by (simp only [wk,D.int.injEq,ee];decide))
 let E20:EL:=E19++ [tC (aR h19)]
 by_cases h20:op=20
 ·subst h20
  exact (nQ (d:= .int .i64 4) (E20++ [tT,tT])).to (by (simp only [wk,D.int.injEq,ee];decide))
 let E21:EL:=E20++ [tC (aR h20)]
 by_cases h21:op=21
 ·subst h21
  exact (nQ (d:= .int .i64 4) (E21++ [tT,tT])).to (by (simp only [wk,D.int.injEq,ee];decide))
 let E22:EL:=E21++ [tC (aR h21)]
 by_cases h22:op=22
 ·subst h22
  exact (nQ (d:= .int .i64 4) (E22++ [tT,tT])).to (by (simp only [wk,D.int.injEq,ee];decide))
 let E23:EL:=E22++ [tC (aR h22)]
 by_cases h23:op=23
 ·subst h23
  exact (nQ (d:= .int .i64 4) (E23++ [tT,tT])).to (by (simp only [wk,D.int.injEq,ee];decide))
 let E24:EL:=E23++ [tC (aR h23)]
 by_cases h24:op=24
 ·subst h24
  exact (nQ (d:= .int .i64 4) (E24++ [tT])).to (by (simp only [wk,D.int.injEq,ee];decide))
 let E25:EL:=E24++ [tC (aR h24)]
 by_cases h25:op=25
 ·subst h25
  exact (nQ (d:= .int .i64 5) (E25++ [tT])).to (by (simp only [wk,D.int.injEq,ee];decide))
 let E26:EL:=E25++ [tC (aR h25)]
 by_cases h26:op=26
 ·subst h26
  exact (nQ (d:= .int .i64 6) (E26++ [tT])).to (by (simp only [wk,D.int.injEq,ee];decide))
 let E27:EL:=E26++ [tC (aR h26)]
 by_cases h27:op=27
 ·subst h27
  exact (nQ (d:= .int .i64 7) (E27++ [tT])).to (by (simp only [wk,D.int.injEq,ee];decide))
 by_cases h28:op=28
 ·subst h28
  exact (nQ (d:= .int .i64 8) (E27++ [tC (aR h27),tT])).to (by (simp only [wk,D.int.injEq,ee];decide))
 let E28:EL:=E27++ [tC (aR h27),tC (aR h28)]
 by_cases h29:op=29
 ·subst h29
  exact (nQ (d:= .int .i64 9) (E28++ [tT])).to (by (simp only [wk,D.int.injEq,ee];decide))
 by_cases h30:op=30
 ·subst h30
  exact (nQ (d:= .int .i64 10) (E28++ [tC (aR h29),tT,tT])).to (by (simp only [wk,D.int.injEq,ee];decide))
 by_cases h31:op=31
 ·subst h31
  exact (nQ (d:= .int .i64 10) (E28++ [tC (aR h29),tC (aR h30),tT])).to (by (simp only [wk,D.int.injEq,ee];decide))
 exact (nQ (d:= .int .i64 0) (E28++ [tC (aR h29),tC (aR h30),tC (aR h31)])).to (by (simp only [wk,D.int.injEq,ee];unfold bq aC;(repeat split)<;>omega))
theorem Ed (op w ab ae aa af ai cc:Int):aQ Zy 98 ([xD op w ab ae aa af ai cc,ak 1]) (xD 0 0 0 0 aa af ai cc):=by
 let E1:EL:= [tT,tT,tT,tT,tF,tF,.flat _ _ ep]
 by_cases h0:aa=0
 ·subst h0
  by_cases h1:af=0
  ·subst h1
   by_cases h2:ai=0
   ·subst h2
    by_cases h3:cc=0
    ·subst h3
     exact (js (d:=(xD 0 0 0 0 0 0 0 0)) (E1++ [tF])).to (by (simp [wk,a7,];done))
    exact (js (d:=(xD 0 0 0 0 0 0 0 cc)) (E1++ [tC (nt (aZ rfl (aZ rfl (aZ rfl (aZ rfl (aZ rfl (aZ rfl (aZ rfl (dy (y:=true) (aR h3))))))))))])).to (by (simp [wk,a7,h3];done))
   exact (js (d:=(xD 0 0 0 0 0 0 ai cc)) (E1++ [tC (nt (aZ rfl (aZ rfl (aZ rfl (aZ rfl (aZ rfl (aZ rfl (dy (y:=br [ak cc] [ak 0]) (aR h2)))))))))])).to (by (simp [wk,a7,h2];done))
  exact (js (d:=(xD 0 0 0 0 0 af ai cc)) (E1++ [tC (nt (aZ rfl (aZ rfl (aZ rfl (aZ rfl (aZ rfl (dy (y:=br [aq ai,ak cc] [aq 0,ak 0]) (aR h1))))))))])).to (by (simp [wk,a7,h1];done))
 exact (js (d:=(xD 0 0 0 0 aa af ai cc)) (E1++ [tC (nt (aZ rfl (aZ rfl (aZ rfl (aZ rfl (dy (y:=br [aq af,aq ai,ak cc] [aq 0,aq 0,ak 0]) (aR h0)))))))])).to (by (simp [wk,a7,h0];done))
theorem Ec (op w ab ae aa af ai cc:Int):aQ Zy 98 ([xD op w ab ae aa af ai cc,ak 2]) (xD 0 0 0 0 aa af ai cc):=by
 let E1:EL:= [tF,tT,tT,tT,tT,tF,tF,.flat _ _ ep]
 by_cases h0:aa=0
 ·subst h0
  by_cases h1:af=0
  ·subst h1
   by_cases h2:ai=0
   ·subst h2
    by_cases h3:cc=0
    ·subst h3
     exact (js (d:=(xD 0 0 0 0 0 0 0 0)) (E1++ [tF])).to (by (simp [wk,a7,];done))
    exact (js (d:=(xD 0 0 0 0 0 0 0 cc)) (E1++ [tC (nt (aZ rfl (aZ rfl (aZ rfl (aZ rfl (aZ rfl (aZ rfl (aZ rfl (dy (y:=true) (aR h3))))))))))])).to (by (simp [wk,a7,h3];done))
   exact (js (d:=(xD 0 0 0 0 0 0 ai cc)) (E1++ [tC (nt (aZ rfl (aZ rfl (aZ rfl (aZ rfl (aZ rfl (aZ rfl (dy (y:=br [ak cc] [ak 0]) (aR h2)))))))))])).to (by (simp [wk,a7,h2];done))
  exact (js (d:=(xD 0 0 0 0 0 af ai cc)) (E1++ [tC (nt (aZ rfl (aZ rfl (aZ rfl (aZ rfl (aZ rfl (dy (y:=br [aq ai,ak cc] [aq 0,ak 0]) (aR h1))))))))])).to (by (simp [wk,a7,h1];done))
 exact (js (d:=(xD 0 0 0 0 aa af ai cc)) (E1++ [tC (nt (aZ rfl (aZ rfl (aZ rfl (aZ rfl (dy (y:=br [aq af,aq ai,ak cc] [aq 0,aq 0,ak 0]) (aR h0)))))))])).to (by (simp [wk,a7,h0];done))
theorem Eb (op w ab ae aa af ai cc:Int):aQ Zy 98 ([xD op w ab ae aa af ai cc,ak 3]) (xD 0 0 0 ae aa af 0 cc):=by
 let E1:EL:=(cr 9 120++ [.flat _ _ ep])
 by_cases h0:ae=0
 ·subst h0
  by_cases h1:aa=0
  ·subst h1
   by_cases h2:af=0
   ·subst h2
    by_cases h3:cc=0
    ·subst h3
     exact (js (d:=(xD 0 0 0 0 0 0 0 0)) (E1++ [tF])).to (by (simp [wk,a7,];done))
    exact (js (d:=(xD 0 0 0 0 0 0 0 cc)) (E1++ [tC (nt (aZ rfl (aZ rfl (aZ rfl (aZ rfl (aZ rfl (aZ rfl (aZ rfl (dy (y:=true) (aR h3))))))))))])).to (by (simp [wk,a7,h3];done))
   exact (js (d:=(xD 0 0 0 0 0 af 0 cc)) (E1++ [tC (nt (aZ rfl (aZ rfl (aZ rfl (aZ rfl (aZ rfl (dy (y:=br [aq 0,ak cc] [aq 0,ak 0]) (aR h2))))))))])).to (by (simp [wk,a7,h2];done))
  exact (js (d:=(xD 0 0 0 0 aa af 0 cc)) (E1++ [tC (nt (aZ rfl (aZ rfl (aZ rfl (aZ rfl (dy (y:=br [aq af,aq 0,ak cc] [aq 0,aq 0,ak 0]) (aR h1)))))))])).to (by (simp [wk,a7,h1];done))
 exact (js (d:=(xD 0 0 0 ae aa af 0 cc)) (E1++ [tC (nt (aZ rfl (aZ rfl (aZ rfl (dy (y:=br [ak aa,aq af,aq 0,ak cc] [ak 0,aq 0,aq 0,ak 0]) (aR h0))))))])).to (by (simp [wk,a7,h0];done))
theorem Ea (op w ab ae aa af ai cc:Int):aQ Zy 98 ([xD op w ab ae aa af ai cc,ak 4]) (xD 0 0 0 ae aa af 0 cc):=by
 let E1:EL:=(cr 9 112++ [.flat _ _ ep])
 by_cases h0:ae=0
 ·subst h0
  by_cases h1:aa=0
  ·subst h1
   by_cases h2:af=0
   ·subst h2
    by_cases h3:cc=0
    ·subst h3
     exact (js (d:=(xD 0 0 0 0 0 0 0 0)) (E1++ [tF])).to (by (simp [wk,a7,];done))
    exact (js (d:=(xD 0 0 0 0 0 0 0 cc)) (E1++ [tC (nt (aZ rfl (aZ rfl (aZ rfl (aZ rfl (aZ rfl (aZ rfl (aZ rfl (dy (y:=true) (aR h3))))))))))])).to (by (simp [wk,a7,h3];done))
   exact (js (d:=(xD 0 0 0 0 0 af 0 cc)) (E1++ [tC (nt (aZ rfl (aZ rfl (aZ rfl (aZ rfl (aZ rfl (dy (y:=br [aq 0,ak cc] [aq 0,ak 0]) (aR h2))))))))])).to (by (simp [wk,a7,h2];done))
  exact (js (d:=(xD 0 0 0 0 aa af 0 cc)) (E1++ [tC (nt (aZ rfl (aZ rfl (aZ rfl (aZ rfl (dy (y:=br [aq af,aq 0,ak cc] [aq 0,aq 0,ak 0]) (aR h1)))))))])).to (by (simp [wk,a7,h1];done))
 exact (js (d:=(xD 0 0 0 ae aa af 0 cc)) (E1++ [tC (nt (aZ rfl (aZ rfl (aZ rfl (dy (y:=br [ak aa,aq af,aq 0,ak cc] [ak 0,aq 0,aq 0,ak 0]) (aR h0))))))])).to (by (simp [wk,a7,h0];done))
theorem D9 (op w ab ae aa af ai cc:Int):aQ Zy 98 ([xD op w ab ae aa af ai cc,ak 5]) (xD 0 0 0 ae aa af ai cc):=by
 let E1:EL:=(cr 10 224++ [.flat _ _ ep])
 by_cases h0:ae=0
 ·subst h0
  by_cases h1:aa=0
  ·subst h1
   by_cases h2:af=0
   ·subst h2
    by_cases h3:ai=0
    ·subst h3
     by_cases h4:cc=0
     ·subst h4
      exact (js (d:=(xD 0 0 0 0 0 0 0 0)) (E1++ [tF])).to (by (simp [wk,a7,];done))
     exact (js (d:=(xD 0 0 0 0 0 0 0 cc)) (E1++ [tC (nt (aZ rfl (aZ rfl (aZ rfl (aZ rfl (aZ rfl (aZ rfl (aZ rfl (dy (y:=true) (aR h4))))))))))])).to (by (simp [wk,a7,h4];done))
    exact (js (d:=(xD 0 0 0 0 0 0 ai cc)) (E1++ [tC (nt (aZ rfl (aZ rfl (aZ rfl (aZ rfl (aZ rfl (aZ rfl (dy (y:=br [ak cc] [ak 0]) (aR h3)))))))))])).to (by (simp [wk,a7,h3];done))
   exact (js (d:=(xD 0 0 0 0 0 af ai cc)) (E1++ [tC (nt (aZ rfl (aZ rfl (aZ rfl (aZ rfl (aZ rfl (dy (y:=br [aq ai,ak cc] [aq 0,ak 0]) (aR h2))))))))])).to (by (simp [wk,a7,h2];done))
  exact (js (d:=(xD 0 0 0 0 aa af ai cc)) (E1++ [tC (nt (aZ rfl (aZ rfl (aZ rfl (aZ rfl (dy (y:=br [aq af,aq ai,ak cc] [aq 0,aq 0,ak 0]) (aR h1)))))))])).to (by (simp [wk,a7,h1];done))
 exact (js (d:=(xD 0 0 0 ae aa af ai cc)) (E1++ [tC (nt (aZ rfl (aZ rfl (aZ rfl (dy (y:=br [ak aa,aq af,aq ai,ak cc] [ak 0,aq 0,aq 0,ak 0]) (aR h0))))))])).to (by (simp [wk,a7,h0];done))
theorem D8 (op w ab ae aa af ai cc:Int):aQ Zy 98 ([xD op w ab ae aa af ai cc,ak 6]) (xD 0 0 0 0 aa af ai 0):=by
 let E1:EL:= [tF,tF,tT,tF,tF,tT,tT,.flat _ _ ep]
 by_cases h0:aa=0
 ·subst h0
  by_cases h1:af=0
  ·subst h1
   by_cases h2:ai=0
   ·subst h2
    exact (js (d:=(xD 0 0 0 0 0 0 0 0)) (E1++ [tF])).to (by (simp [wk,a7,];done))
   exact (js (d:=(xD 0 0 0 0 0 0 ai 0)) (E1++ [tC (nt (aZ rfl (aZ rfl (aZ rfl (aZ rfl (aZ rfl (aZ rfl (dy (y:=true) (aR h2)))))))))])).to (by (simp [wk,a7,h2];done))
  exact (js (d:=(xD 0 0 0 0 0 af ai 0)) (E1++ [tC (nt (aZ rfl (aZ rfl (aZ rfl (aZ rfl (aZ rfl (dy (y:=br [aq ai,ak 0] [aq 0,ak 0]) (aR h1))))))))])).to (by (simp [wk,a7,h1];done))
 exact (js (d:=(xD 0 0 0 0 aa af ai 0)) (E1++ [tC (nt (aZ rfl (aZ rfl (aZ rfl (aZ rfl (dy (y:=br [aq af,aq ai,ak 0] [aq 0,aq 0,ak 0]) (aR h0)))))))])).to (by (simp [wk,a7,h0];done))
theorem D7 (op w ab ae aa af ai cc:Int):aQ Zy 98 ([xD op w ab ae aa af ai cc,ak 7]) (xD 0 0 0 ae 0 0 ai cc):=by
 let E1:EL:=(cr 11 448++ [.flat _ _ ep])
 by_cases h0:ae=0
 ·subst h0
  by_cases h1:ai=0
  ·subst h1
   by_cases h2:cc=0
   ·subst h2
    exact (js (d:=(xD 0 0 0 0 0 0 0 0)) (E1++ [tF])).to (by (simp [wk,a7,];done))
   exact (js (d:=(xD 0 0 0 0 0 0 0 cc)) (E1++ [tC (nt (aZ rfl (aZ rfl (aZ rfl (aZ rfl (aZ rfl (aZ rfl (aZ rfl (dy (y:=true) (aR h2))))))))))])).to (by (simp [wk,a7,h2];done))
  exact (js (d:=(xD 0 0 0 0 0 0 ai cc)) (E1++ [tC (nt (aZ rfl (aZ rfl (aZ rfl (aZ rfl (aZ rfl (aZ rfl (dy (y:=br [ak cc] [ak 0]) (aR h1)))))))))])).to (by (simp [wk,a7,h1];done))
 exact (js (d:=(xD 0 0 0 ae 0 0 ai cc)) (E1++ [tC (nt (aZ rfl (aZ rfl (aZ rfl (dy (y:=br [ak 0,aq 0,aq ai,ak cc] [ak 0,aq 0,aq 0,ak 0]) (aR h0))))))])).to (by (simp [wk,a7,h0];done))
theorem D6 (op w ab ae aa af ai cc:Int):aQ Zy 98 ([xD op w ab ae aa af ai cc,ak 8]) (xD 0 0 ab 0 0 0 ai cc):=by
 let E1:EL:=(cr 12 896++ [.flat _ _ ep])
 by_cases h0:ab=0
 ·subst h0
  by_cases h1:ai=0
  ·subst h1
   by_cases h2:cc=0
   ·subst h2
    exact (js (d:=(xD 0 0 0 0 0 0 0 0)) (E1++ [tF])).to (by (simp [wk,a7,];done))
   exact (js (d:=(xD 0 0 0 0 0 0 0 cc)) (E1++ [tC (nt (aZ rfl (aZ rfl (aZ rfl (aZ rfl (aZ rfl (aZ rfl (aZ rfl (dy (y:=true) (aR h2))))))))))])).to (by (simp [wk,a7,h2];done))
  exact (js (d:=(xD 0 0 0 0 0 0 ai cc)) (E1++ [tC (nt (aZ rfl (aZ rfl (aZ rfl (aZ rfl (aZ rfl (aZ rfl (dy (y:=br [ak cc] [ak 0]) (aR h1)))))))))])).to (by (simp [wk,a7,h1];done))
 exact (js (d:=(xD 0 0 ab 0 0 0 ai cc)) (E1++ [tC (nt (aZ rfl (aZ rfl (dy (y:=br [ak 0,ak 0,aq 0,aq ai,ak cc] [ak 0,ak 0,aq 0,aq 0,ak 0]) (aR h0)))))])).to (by (simp [wk,a7,h0];done))
theorem D5 (op w ab ae aa af ai cc:Int):aQ Zy 98 ([xD op w ab ae aa af ai cc,ak 9]) (xD 0 0 ab ae aa af 0 cc):=by
 let E1:EL:=(Zx 8 tF++ [tT,tT,tT,tT,tF,tF,.flat _ _ ep])
 by_cases h0:ab=0
 ·subst h0
  by_cases h1:ae=0
  ·subst h1
   by_cases h2:aa=0
   ·subst h2
    by_cases h3:af=0
    ·subst h3
     by_cases h4:cc=0
     ·subst h4
      exact (js (d:=(xD 0 0 0 0 0 0 0 0)) (E1++ [tF])).to (by (simp [wk,a7,];done))
     exact (js (d:=(xD 0 0 0 0 0 0 0 cc)) (E1++ [tC (nt (aZ rfl (aZ rfl (aZ rfl (aZ rfl (aZ rfl (aZ rfl (aZ rfl (dy (y:=true) (aR h4))))))))))])).to (by (simp [wk,a7,h4];done))
    exact (js (d:=(xD 0 0 0 0 0 af 0 cc)) (E1++ [tC (nt (aZ rfl (aZ rfl (aZ rfl (aZ rfl (aZ rfl (dy (y:=br [aq 0,ak cc] [aq 0,ak 0]) (aR h3))))))))])).to (by (simp [wk,a7,h3];done))
   exact (js (d:=(xD 0 0 0 0 aa af 0 cc)) (E1++ [tC (nt (aZ rfl (aZ rfl (aZ rfl (aZ rfl (dy (y:=br [aq af,aq 0,ak cc] [aq 0,aq 0,ak 0]) (aR h2)))))))])).to (by (simp [wk,a7,h2];done))
  exact (js (d:=(xD 0 0 0 ae aa af 0 cc)) (E1++ [tC (nt (aZ rfl (aZ rfl (aZ rfl (dy (y:=br [ak aa,aq af,aq 0,ak cc] [ak 0,aq 0,aq 0,ak 0]) (aR h1))))))])).to (by (simp [wk,a7,h1];done))
 exact (js (d:=(xD 0 0 ab ae aa af 0 cc)) (E1++ [tC (nt (aZ rfl (aZ rfl (dy (y:=br [ak ae,ak aa,aq af,aq 0,ak cc] [ak 0,ak 0,aq 0,aq 0,ak 0]) (aR h0)))))])).to (by (simp [wk,a7,h0];done))
theorem Bm (op w ab ae aa af ai cc:Int):aQ Zy 98 ([xD op w ab ae aa af ai cc,ak 10]) (xD 0 0 ab ae aa af 0 0):=by
 let E1:EL:=(Zx 9 tF++ [tT,tT,tT,tF,tT,.flat _ _ ep])
 by_cases h0:ab=0
 ·subst h0
  by_cases h1:ae=0
  ·subst h1
   by_cases h2:aa=0
   ·subst h2
    by_cases h3:af=0
    ·subst h3
     exact (js (d:=(xD 0 0 0 0 0 0 0 0)) (E1++ [tF])).to (by (simp [wk,a7,];done))
    exact (js (d:=(xD 0 0 0 0 0 af 0 0)) (E1++ [tC (nt (aZ rfl (aZ rfl (aZ rfl (aZ rfl (aZ rfl (dy (y:=true) (aR h3))))))))])).to (by (simp [wk,a7,h3];done))
   exact (js (d:=(xD 0 0 0 0 aa af 0 0)) (E1++ [tC (nt (aZ rfl (aZ rfl (aZ rfl (aZ rfl (dy (y:=br [aq af,aq 0,ak 0] [aq 0,aq 0,ak 0]) (aR h2)))))))])).to (by (simp [wk,a7,h2];done))
  exact (js (d:=(xD 0 0 0 ae aa af 0 0)) (E1++ [tC (nt (aZ rfl (aZ rfl (aZ rfl (dy (y:=br [ak aa,aq af,aq 0,ak 0] [ak 0,aq 0,aq 0,ak 0]) (aR h1))))))])).to (by (simp [wk,a7,h1];done))
 exact (js (d:=(xD 0 0 ab ae aa af 0 0)) (E1++ [tC (nt (aZ rfl (aZ rfl (dy (y:=br [ak ae,ak aa,aq af,aq 0,ak 0] [ak 0,ak 0,aq 0,aq 0,ak 0]) (aR h0)))))])).to (by (simp [wk,a7,h0];done))
theorem Bl (op w ab ae aa af ai cc:Int):aQ Zy 98 ([xD op w ab ae aa af ai cc,ak 11]) (xD 0 w ab ae aa af ai cc):=by
 let E1:EL:=(Zx 10 tF++ [tT,tT,tF,tF,.flat _ _ ep])
 by_cases h0:w=0
 ·subst h0
  by_cases h1:ab=0
  ·subst h1
   by_cases h2:ae=0
   ·subst h2
    by_cases h3:aa=0
    ·subst h3
     by_cases h4:af=0
     ·subst h4
      by_cases h5:ai=0
      ·subst h5
       by_cases h6:cc=0
       ·subst h6
        exact (js (d:=(xD 0 0 0 0 0 0 0 0)) (E1++ [tF])).to (by (simp [wk,a7,];done))
       exact (js (d:=(xD 0 0 0 0 0 0 0 cc)) (E1++ [tC (nt (aZ rfl (aZ rfl (aZ rfl (aZ rfl (aZ rfl (aZ rfl (aZ rfl (dy (y:=true) (aR h6))))))))))])).to (by (simp [wk,a7,h6];done))
      exact (js (d:=(xD 0 0 0 0 0 0 ai cc)) (E1++ [tC (nt (aZ rfl (aZ rfl (aZ rfl (aZ rfl (aZ rfl (aZ rfl (dy (y:=br [ak cc] [ak 0]) (aR h5)))))))))])).to (by (simp [wk,a7,h5];done))
     exact (js (d:=(xD 0 0 0 0 0 af ai cc)) (E1++ [tC (nt (aZ rfl (aZ rfl (aZ rfl (aZ rfl (aZ rfl (dy (y:=br [aq ai,ak cc] [aq 0,ak 0]) (aR h4))))))))])).to (by (simp [wk,a7,h4];done))
    exact (js (d:=(xD 0 0 0 0 aa af ai cc)) (E1++ [tC (nt (aZ rfl (aZ rfl (aZ rfl (aZ rfl (dy (y:=br [aq af,aq ai,ak cc] [aq 0,aq 0,ak 0]) (aR h3)))))))])).to (by (simp [wk,a7,h3];done))
   exact (js (d:=(xD 0 0 0 ae aa af ai cc)) (E1++ [tC (nt (aZ rfl (aZ rfl (aZ rfl (dy (y:=br [ak aa,aq af,aq ai,ak cc] [ak 0,aq 0,aq 0,ak 0]) (aR h2))))))])).to (by (simp [wk,a7,h2];done))
  exact (js (d:=(xD 0 0 ab ae aa af ai cc)) (E1++ [tC (nt (aZ rfl (aZ rfl (dy (y:=br [ak ae,ak aa,aq af,aq ai,ak cc] [ak 0,ak 0,aq 0,aq 0,ak 0]) (aR h1)))))])).to (by (simp [wk,a7,h1];done))
 exact (js (d:=(xD 0 w ab ae aa af ai cc)) (E1++ [tC (nt (aZ rfl (dy (y:=br [ak ab,ak ae,ak aa,aq af,aq ai,ak cc] [ak 0,ak 0,ak 0,aq 0,aq 0,ak 0]) (aR h0))))])).to (by (simp [wk,a7,h0];done))
theorem kl {op:Int} (h:op<0∨32≤op):aC op=0∧bh op=0∧bO op=0:=by
 refine ⟨?_,?_,?_⟩
 ·unfold aC;repeat (rw [if_neg (by omega)])
 ·unfold bh;repeat (rw [if_neg (by omega)])
 ·unfold bO;repeat (rw [if_neg (by omega)])
theorem dg (op:Int) (ho:op≤127):aQ Zy 73 [ak op] (.aL [.agg [ak (aC op),ay (bh op),ak (bO op)],ax (decide (0≤op∧op≤31))]):=by
 by_cases h1:op<0
 ·obtain ⟨e1,e2,e3⟩:=kl (.inl h1)
  rw [e1,e2,e3,bM (by omega)]
  exact G3 op h1
 ·by_cases h2:32≤op
  ·obtain ⟨e1,e2,e3⟩:=kl (.inr h2)
   rw [e1,e2,e3,bM (by omega)]
   exact CD op h2 ho
  ·rcases (by omega:op=0∨op=1∨op=2∨op=3∨op=4∨op=5∨op=6∨op=7∨op=8∨op=9∨op=10∨op=11∨op=12∨op=13∨op=14∨op=15∨op=16∨op=17∨op=18∨op=19∨op=20∨op=21∨op=22∨op=23∨op=24∨op=25∨op=26∨op=27∨op=28∨op=29∨op=30∨op=31) with rfl|rfl|rfl|rfl|rfl|rfl|rfl|rfl|rfl|rfl|rfl|rfl|rfl|rfl|rfl|rfl|rfl|rfl|rfl|rfl|rfl|rfl|rfl|rfl|rfl|rfl|rfl|rfl|rfl|rfl|rfl|rfl
   ·exact MV
   ·exact MU
   ·exact MT
   ·exact MS
   ·exact MR
   ·exact MQ
   ·exact MP
   ·exact MO
   ·exact MN
   ·exact ML
   ·exact KG
   ·exact KF
   ·exact KE
   ·exact KD
   ·exact KC
   ·exact KB
   ·exact KA
   ·exact Kz
   ·exact Ky
   ·exact Kx
   ·exact Kw
   ·exact Kv
   ·exact Ku
   ·exact Kt
   ·exact Ks
   ·exact Kr
   ·exact Kq
   ·exact Kp
   ·exact Ko
   ·exact Kn
   ·exact Km
   ·exact Kl
theorem IU (op w ab ae aa af ai cc sh:Int) (h:(sh==1)=true):aQ Zy 98 [xD op w ab ae aa af ai cc,ak sh] (xD 0 0 0 0 aa af ai cc):=by
 obtain rfl:=eq_of_beq h
 exact Ed op w ab ae aa af ai cc
theorem IT (op w ab ae aa af ai cc sh:Int) (h:(sh==2)=true):aQ Zy 98 [xD op w ab ae aa af ai cc,ak sh] (xD 0 0 0 0 aa af ai cc):=by
 obtain rfl:=eq_of_beq h
 exact Ec op w ab ae aa af ai cc
theorem IQ (op w ab ae aa af ai cc sh:Int) (h:(sh==3)=true):aQ Zy 98 [xD op w ab ae aa af ai cc,ak sh] (xD 0 0 0 ae aa af 0 cc):=by
 obtain rfl:=eq_of_beq h
 exact Eb op w ab ae aa af ai cc
theorem IP (op w ab ae aa af ai cc sh:Int) (h:(sh==4)=true):aQ Zy 98 [xD op w ab ae aa af ai cc,ak sh] (xD 0 0 0 ae aa af 0 cc):=by
 obtain rfl:=eq_of_beq h
 exact Ea op w ab ae aa af ai cc
theorem IM (op w ab ae aa af ai cc sh:Int) (h:(sh==5)=true):aQ Zy 98 [xD op w ab ae aa af ai cc,ak sh] (xD 0 0 0 ae aa af ai cc):=by
 obtain rfl:=eq_of_beq h
 exact D9 op w ab ae aa af ai cc
theorem IL (op w ab ae aa af ai cc sh:Int) (h:(sh==6)=true):aQ Zy 98 [xD op w ab ae aa af ai cc,ak sh] (xD 0 0 0 0 aa af ai 0):=by
 obtain rfl:=eq_of_beq h
 exact D8 op w ab ae aa af ai cc
theorem IK (op w ab ae aa af ai cc sh:Int) (h:(sh==7)=true):aQ Zy 98 [xD op w ab ae aa af ai cc,ak sh] (xD 0 0 0 ae 0 0 ai cc):=by
 obtain rfl:=eq_of_beq h
 exact D7 op w ab ae aa af ai cc
theorem IJ (op w ab ae aa af ai cc sh:Int) (h:(sh==8)=true):aQ Zy 98 [xD op w ab ae aa af ai cc,ak sh] (xD 0 0 ab 0 0 0 ai cc):=by
 obtain rfl:=eq_of_beq h
 exact D6 op w ab ae aa af ai cc
theorem II (op w ab ae aa af ai cc sh:Int) (h:(sh==9)=true):aQ Zy 98 [xD op w ab ae aa af ai cc,ak sh] (xD 0 0 ab ae aa af 0 cc):=by
 obtain rfl:=eq_of_beq h
 exact D5 op w ab ae aa af ai cc
theorem D4 (op w ab ae aa af ai cc sh:Int) (h:(sh==10)=true):aQ Zy 98 [xD op w ab ae aa af ai cc,ak sh] (xD 0 0 ab ae aa af 0 0):=by
 obtain rfl:=eq_of_beq h
 exact Bm op w ab ae aa af ai cc
theorem D3 (op w ab ae aa af ai cc sh:Int) (h:(sh==11)=true):aQ Zy 98 [xD op w ab ae aa af ai cc,ak sh] (xD 0 w ab ae aa af ai cc):=by
 obtain rfl:=eq_of_beq h
 exact Bl op w ab ae aa af ai cc
theorem sM:type_of%(ZI @bL.eq_1 (ZI @ba.eq_1 (ZI @iK.eq_1 (ZI @aP.eq_1 (ZI @aU.eq_1 (ZI @mC.eq_1 @cT.eq_1)))))):=(ZI @bL.eq_1 (ZI @ba.eq_1 (ZI @iK.eq_1 (ZI @aP.eq_1 (ZI @aU.eq_1 (ZI @mC.eq_1 @cT.eq_1))))))
theorem Hx (op w ab ae aa af ai cc:Int) (ho:op≤127) (h:(aC op==0)=true) (TD:decide (0≤op∧op≤31)=false):aQ Zy 72 ([xD op w ab ae aa af ai cc]) (ax (bL op w ab ae aa af ai cc)):=by
 have c0:= @dg op ho
 rw [show (aC op)=0 from (eq_of_beq h)] at c0
 generalize g2:bh op=r1 at c0
 generalize g4:bO op=r3 at c0
 exact (eE (d:= .bool false) ([aw c0]++Zx 6 (tC (eF (nt TD)))++([tC (nt TD)]++cr 26 50872848))).to (by (try simp only [cf,aB,sM] at*);(simp [aB,sM, *];done))
theorem Hw (op w ab ae aa af ai cc:Int) (ho:op≤127) (h:(aC op==1)=true) (TD:decide (0≤op∧op≤31)=true):aQ Zy 72 ([xD op w ab ae aa af ai cc]) (ax (bL op w ab ae aa af ai cc)):=by
 have c0:= @dg op ho
 rw [show (aC op)=1 from (eq_of_beq h)] at c0
 generalize g2:bh op=r1 at c0
 generalize g4:bO op=r3 at c0
 have c5:= @IU op w ab ae aa af ai cc 1 (rfl:true=true)
 let E1:EL:=([aw c0]++Zx 4 (tC (eF (nt TD)))++ [aw c5,tC (eF (nt TD)),tC (eF (nt TD)),.flat _ _ ep,tC (nt TD)])
 rcases cI (br [ak 0,ak 0,ak 0,ak 0,ak aa,aq af,aq ai,ak cc] [ak 0,ak 0,ak 0,ak 0,ak 0,aq 0,aq 0,ak 0]) with h6|h6
 ·have c7:= @eg ab
  generalize g9:ba ab=r8 at c7
  let E2:EL:=E1++Zx 3 (tC (eF (nt h6)))++ [aw c7,tC (eF (nt h6)),tC (nt h6)]
  cases r8
  ·exact (eE (d:= .bool false) (E2++(cr 21 1589776))).to (by clear E1 E2;(try simp only [cf,aB,sM] at*);(simp [aB,sM, *];done))
  have Tp:= @eg ae
  generalize g12:ba ae=TN at Tp
  let E3:EL:=E2++ [tT,tT,tT,aw Tp,tT,tF]
  cases TN
  ·exact (eE (d:= .bool false) (E3++(cr 16 49680))).to (by clear E1 E2 E3;(try simp only [cf,aB,sM] at*);(simp [aB,sM, *];done))
  have TF:= @eg aa
  generalize g15:ba aa=T4 at TF
  let E4:EL:=E3++ [tT,tT,tT,aw TF,tT,tF]
  cases T4
  ·exact (eE (d:= .bool false) (E4++(cr 11 1552))).to (by clear E1 E2 E3 E4;(try simp only [cf,aB,sM] at*);(simp [aB,sM, *];done))
  have TG:= @b6 af (-2147483648) 2147483647
  let E5:EL:=E4++ [tT,tT,tT,aw TG,tT,tF]
  rcases cI (decide (af<(-2147483648))) with h17|h17
  ·exact (eE (d:= .bool false) (E5++Zx 4 (tC (eF (nt (dy (y:=decide (af≤2147483647)) (bK (-2147483648) h17)))))++ [tC (nt (dy (y:=decide (af≤2147483647)) (bK (-2147483648) h17))),tT])).to (by clear E1 E2 E3 E4 E5;(try simp only [cf,aB,sM] at*);(simp [aB,sM, *];omega))
  rcases cI (decide (af<2147483648)) with h18|h18
  ·have T9:= @b6 ai (-2147483648) 2147483647
   let E6:EL:=E5++Zx 3 (tC (eF (nt (aZ (bK (-2147483648) h17) (eH 2147483647 h18)))))++ [aw T9,tC (eF (nt (aZ (bK (-2147483648) h17) (eH 2147483647 h18)))),tC (nt (aZ (bK (-2147483648) h17) (eH 2147483647 h18)))]
   rcases cI (decide (ai<(-2147483648))) with h20|h20
   ·exact (eE (d:= .bool false) (E6++ [tC (nt (dy (y:=decide (ai≤2147483647)) (bK (-2147483648) h20)))])).to (by clear E1 E2 E3 E4 E5 E6;(try simp only [cf,aB,sM] at*);(simp [aB,sM, *];omega))
   rcases cI (decide (ai<2147483648)) with h21|h21
   ·let E7:EL:=E6++ [tC (nt (aZ (bK (-2147483648) h20) (eH 2147483647 h21)))]
    by_cases h22:w=32
    ·subst h22
     exact (eE (d:= .bool true) (E7++(cr 12 3592))).to (by clear E1 E2 E3 E4 E5 E6 E7;(try simp only [cf,aB,sM] at*);(rw [ZB];simp [aB,sM, *];grind))
    let E8:EL:=E7++Zx 3 (tC (eF (aR h22)))++ [tC (aR h22)]++Zx 4 (tC (eF (aR h22)))
    by_cases h23:w=8
    ·subst h23
     have UG:= @b6 ai (-128) 127
     exact (eE (d:= .bool false) (E8++ [tT,tT,tT,aw UG,tT,tT,tF,tT,tT])).to (by clear E1 E2 E3 E4 E5 E6 E7 E8;(try simp only [cf,aB,sM] at*);(simp [aB,sM, *];done))
    exact (eE (d:= .bool (w==64)) (E8++Zx 3 (tC (eT (aR h23)))++ [tC (eF (aR h22)),tC (aR h23),tC (aR h22),tT,tT])).to (by clear E1 E2 E3 E4 E5 E6 E7 E8;(try simp only [cf,aB,sM] at*);(rw [ZB];simp [aB,sM, *];grind))
   exact (eE (d:= .bool false) (E6++ [tC (nt (aZ (bK (-2147483648) h20) (eH 2147483647 h21)))])).to (by clear E1 E2 E3 E4 E5 E6;(try simp only [cf,aB,sM] at*);(simp [aB,sM, *];omega))
  exact (eE (d:= .bool false) (E5++Zx 4 (tC (eF (nt (aZ (bK (-2147483648) h17) (eH 2147483647 h18)))))++ [tC (nt (aZ (bK (-2147483648) h17) (eH 2147483647 h18))),tT])).to (by clear E1 E2 E3 E4 E5;(try simp only [cf,aB,sM] at*);(simp [aB,sM, *];omega))
 exact (eE (d:= .bool false) (E1++Zx 4 (tC (eF (nt h6)))++([tC (nt h6)]++cr 21 1589776))).to (by clear E1;(try simp only [cf,aB,sM] at*);(rw [ZB];simp [aB,sM, *];grind))
theorem Hv (op w ab ae aa af ai cc:Int) (ho:op≤127) (h:(aC op==2)=true) (TD:decide (0≤op∧op≤31)=true):aQ Zy 72 ([xD op w ab ae aa af ai cc]) (ax (bL op w ab ae aa af ai cc)):=by
 have c0:= @dg op ho
 rw [show (aC op)=2 from (eq_of_beq h)] at c0
 generalize g2:bh op=r1 at c0
 generalize g4:bO op=r3 at c0
 have c5:= @IT op w ab ae aa af ai cc 2 (rfl:true=true)
 let E1:EL:=([aw c0]++Zx 4 (tC (eF (nt TD)))++ [aw c5,tC (eF (nt TD)),tC (eF (nt TD)),.flat _ _ ep,tC (nt TD)])
 rcases cI (br [ak 0,ak 0,ak 0,ak 0,ak aa,aq af,aq ai,ak cc] [ak 0,ak 0,ak 0,ak 0,ak 0,aq 0,aq 0,ak 0]) with h6|h6
 ·have c7:= @eg ab
  generalize g9:ba ab=r8 at c7
  let E2:EL:=E1++Zx 3 (tC (eF (nt h6)))++ [aw c7,tC (eF (nt h6)),tC (nt h6)]
  cases r8
  ·exact (eE (d:= .bool false) (E2++(cr 21 1589776))).to (by clear E1 E2;(try simp only [cf,aB,sM] at*);(simp [aB,sM, *];done))
  have Tp:= @eg ae
  generalize g12:ba ae=TN at Tp
  let E3:EL:=E2++ [tT,tT,tT,aw Tp,tT,tF]
  cases TN
  ·exact (eE (d:= .bool false) (E3++(cr 16 49680))).to (by clear E1 E2 E3;(try simp only [cf,aB,sM] at*);(simp [aB,sM, *];done))
  have TF:= @eg aa
  generalize g15:ba aa=T4 at TF
  let E4:EL:=E3++ [tT,tT,tT,aw TF,tT,tF]
  cases T4
  ·exact (eE (d:= .bool false) (E4++(cr 11 1552))).to (by clear E1 E2 E3 E4;(try simp only [cf,aB,sM] at*);(simp [aB,sM, *];done))
  have TG:= @b6 af (-2147483648) 2147483647
  let E5:EL:=E4++ [tT,tT,tT,aw TG,tT,tF]
  rcases cI (decide (af<(-2147483648))) with h17|h17
  ·exact (eE (d:= .bool false) (E5++Zx 4 (tC (eF (nt (dy (y:=decide (af≤2147483647)) (bK (-2147483648) h17)))))++ [tC (nt (dy (y:=decide (af≤2147483647)) (bK (-2147483648) h17))),tT])).to (by clear E1 E2 E3 E4 E5;(try simp only [cf,aB,sM] at*);(simp [aB,sM, *];omega))
  rcases cI (decide (af<2147483648)) with h18|h18
  ·have T9:= @b6 ai (-2147483648) 2147483647
   let E6:EL:=E5++Zx 3 (tC (eF (nt (aZ (bK (-2147483648) h17) (eH 2147483647 h18)))))++ [aw T9,tC (eF (nt (aZ (bK (-2147483648) h17) (eH 2147483647 h18)))),tC (nt (aZ (bK (-2147483648) h17) (eH 2147483647 h18)))]
   rcases cI (decide (ai<(-2147483648))) with h20|h20
   ·exact (eE (d:= .bool false) (E6++ [tC (nt (dy (y:=decide (ai≤2147483647)) (bK (-2147483648) h20)))])).to (by clear E1 E2 E3 E4 E5 E6;(try simp only [cf,aB,sM] at*);(simp [aB,sM, *];omega))
   rcases cI (decide (ai<2147483648)) with h21|h21
   ·let E7:EL:=E6++ [tC (nt (aZ (bK (-2147483648) h20) (eH 2147483647 h21)))]
    by_cases h22:w=32
    ·subst h22
     exact (eE (d:= .bool true) (E7++(cr 13 6664))).to (by clear E1 E2 E3 E4 E5 E6 E7;(try simp only [cf,aB,sM] at*);(rw [ZB];simp [aB,sM, *];grind))
    let E8:EL:=E7++Zx 3 (tC (eF (aR h22)))++ [tC (aR h22)]++Zx 4 (tC (eF (aR h22)))
    by_cases h23:w=8
    ·subst h23
     have UG:= @b6 ai (-128) 127
     exact (eE (d:= .bool false) (E8++ [tT,tT,tT,aw UG,tT,tT,tF,tF,tT,tT])).to (by clear E1 E2 E3 E4 E5 E6 E7 E8;(try simp only [cf,aB,sM] at*);(simp [aB,sM, *];done))
    exact (eE (d:= .bool (w==64)) (E8++Zx 3 (tC (eT (aR h23)))++ [tC (eF (aR h22)),tC (aR h23),tC (aR h22),tF,tT,tT])).to (by clear E1 E2 E3 E4 E5 E6 E7 E8;(try simp only [cf,aB,sM] at*);(rw [ZB];simp [aB,sM, *];grind))
   exact (eE (d:= .bool false) (E6++ [tC (nt (aZ (bK (-2147483648) h20) (eH 2147483647 h21)))])).to (by clear E1 E2 E3 E4 E5 E6;(try simp only [cf,aB,sM] at*);(simp [aB,sM, *];omega))
  exact (eE (d:= .bool false) (E5++Zx 4 (tC (eF (nt (aZ (bK (-2147483648) h17) (eH 2147483647 h18)))))++ [tC (nt (aZ (bK (-2147483648) h17) (eH 2147483647 h18))),tT])).to (by clear E1 E2 E3 E4 E5;(try simp only [cf,aB,sM] at*);(simp [aB,sM, *];omega))
 exact (eE (d:= .bool false) (E1++Zx 4 (tC (eF (nt h6)))++([tC (nt h6)]++cr 21 1589776))).to (by clear E1;(try simp only [cf,aB,sM] at*);(rw [ZB];simp [aB,sM, *];grind))
def tW (Tz:Int):Prop:= ∀(op w ab ae aa af ai cc:Int) (ho:op≤127) (h:(aC op==Tz)=true) (TD:decide (0≤op∧op≤31)=true),aQ Zy 72 ([xD op w ab ae aa af ai cc]) (ax (bL op w ab ae aa af ai cc))
theorem Hu:tW 3:=by
 intro op w ab ae aa af ai cc ho h TD
 have c0:= @dg op ho
 rw [eq_of_beq h] at c0
 generalize g2:bh op=r1 at c0
 generalize g4:bO op=r3 at c0
 have c5:= @IQ op w ab ae aa af ai cc 3 (rfl:true=true)
 let E1:EL:=([aw c0]++Zx 4 (tC (eF (nt TD)))++ [aw c5,tC (eF (nt TD)),tC (eF (nt TD)),.flat _ _ ep,tC (nt TD)])
 rcases cI (br [ak 0,ak 0,ak 0,ak ae,ak aa,aq af,aq 0,ak cc] [ak 0,ak 0,ak 0,ak 0,ak 0,aq 0,aq 0,ak 0]) with h6|h6
 ·have c7:= @eg ab
  generalize g9:ba ab=r8 at c7
  let E2:EL:=E1++Zx 3 (tC (eF (nt h6)))++ [aw c7,tC (eF (nt h6)),tC (nt h6)]
  cases r8
  ·exact (eE (d:= .bool false) (E2++(cr 21 1589776))).to (by clear E1 E2;(try simp only [cf,aB,sM] at*);(simp [aB,sM, *];done))
  have Tp:= @eg ae
  generalize g12:ba ae=TN at Tp
  let E3:EL:=E2++ [tT,tT,tT,aw Tp,tT,tF]
  cases TN
  ·exact (eE (d:= .bool false) (E3++(cr 16 49680))).to (by clear E1 E2 E3;(try simp only [cf,aB,sM] at*);(simp [aB,sM, *];done))
  have TF:= @eg aa
  generalize g15:ba aa=T4 at TF
  let E4:EL:=E3++ [tT,tT,tT,aw TF,tT,tF]
  cases T4
  ·exact (eE (d:= .bool false) (E4++(cr 11 1552))).to (by clear E1 E2 E3 E4;(try simp only [cf,aB,sM] at*);(simp [aB,sM, *];done))
  have TG:= @b6 af (-2147483648) 2147483647
  let E5:EL:=E4++ [tT,tT,tT,aw TG,tT,tF]
  rcases cI (decide (af<(-2147483648))) with h17|h17
  ·exact (eE (d:= .bool false) (E5++Zx 4 (tC (eF (nt (dy (y:=decide (af≤2147483647)) (bK (-2147483648) h17)))))++ [tC (nt (dy (y:=decide (af≤2147483647)) (bK (-2147483648) h17))),tT])).to (by clear E1 E2 E3 E4 E5;(try simp only [cf,aB,sM] at*);(simp [aB,sM, *];omega))
  rcases cI (decide (af<2147483648)) with h18|h18
  ·have T9:= @b6 ai (-2147483648) 2147483647
   let E6:EL:=E5++Zx 3 (tC (eF (nt (aZ (bK (-2147483648) h17) (eH 2147483647 h18)))))++ [aw T9,tC (eF (nt (aZ (bK (-2147483648) h17) (eH 2147483647 h18)))),tC (nt (aZ (bK (-2147483648) h17) (eH 2147483647 h18)))]
   rcases cI (decide (ai<(-2147483648))) with h20|h20
   ·exact (eE (d:= .bool false) (E6++ [tC (nt (dy (y:=decide (ai≤2147483647)) (bK (-2147483648) h20)))])).to (by clear E1 E2 E3 E4 E5 E6;(try simp only [cf,aB,sM] at*);(simp [aB,sM, *];omega))
   rcases cI (decide (ai<2147483648)) with h21|h21
   ·let E7:EL:=E6++ [tC (nt (aZ (bK (-2147483648) h20) (eH 2147483647 h21)))]
    by_cases h22:w=32
    ·subst h22
     exact (eE (d:= .bool true) (E7++(cr 14 12808))).to (by clear E1 E2 E3 E4 E5 E6 E7;(try simp only [cf,aB,sM] at*);(rw [ZB];simp [aB,sM, *];grind))
    let E8:EL:=E7++Zx 3 (tC (eF (aR h22)))++ [tC (aR h22)]++Zx 4 (tC (eF (aR h22)))
    by_cases h23:w=8
    ·subst h23
     have UG:= @b6 ai (-128) 127
     exact (eE (d:= .bool false) (E8++ [tT,tT,tT,aw UG,tT,tT,tF,tF,tF,tT,tT])).to (by clear E1 E2 E3 E4 E5 E6 E7 E8;(try simp only [cf,aB,sM] at*);(simp [aB,sM, *];done))
    exact (eE (d:= .bool (w==64)) (E8++Zx 3 (tC (eT (aR h23)))++ [tC (eF (aR h22)),tC (aR h23),tC (aR h22),tF,tF,tT,tT])).to (by clear E1 E2 E3 E4 E5 E6 E7 E8;(try simp only [cf,aB,sM] at*);(rw [ZB];simp [aB,sM, *];grind))
   exact (eE (d:= .bool false) (E6++ [tC (nt (aZ (bK (-2147483648) h20) (eH 2147483647 h21)))])).to (by clear E1 E2 E3 E4 E5 E6;(try simp only [cf,aB,sM] at*);(simp [aB,sM, *];omega))
  exact (eE (d:= .bool false) (E5++Zx 4 (tC (eF (nt (aZ (bK (-2147483648) h17) (eH 2147483647 h18)))))++ [tC (nt (aZ (bK (-2147483648) h17) (eH 2147483647 h18))),tT])).to (by clear E1 E2 E3 E4 E5;(try simp only [cf,aB,sM] at*);(simp [aB,sM, *];omega))
 exact (eE (d:= .bool false) (E1++Zx 4 (tC (eF (nt h6)))++([tC (nt h6)]++cr 21 1589776))).to (by clear E1;(try simp only [cf,aB,sM] at*);(rw [ZB];simp [aB,sM, *];grind))
theorem Ht:tW 4:=by
 intro op w ab ae aa af ai cc ho h TD
 have c0:= @dg op ho
 rw [eq_of_beq h] at c0
 generalize g2:bh op=r1 at c0
 generalize g4:bO op=r3 at c0
 have c5:= @IP op w ab ae aa af ai cc 4 (rfl:true=true)
 let E1:EL:=([aw c0]++Zx 4 (tC (eF (nt TD)))++ [aw c5,tC (eF (nt TD)),tC (eF (nt TD)),.flat _ _ ep,tC (nt TD)])
 rcases cI (br [ak 0,ak 0,ak 0,ak ae,ak aa,aq af,aq 0,ak cc] [ak 0,ak 0,ak 0,ak 0,ak 0,aq 0,aq 0,ak 0]) with h6|h6
 ·have c7:= @eg ab
  generalize g9:ba ab=r8 at c7
  let E2:EL:=E1++Zx 3 (tC (eF (nt h6)))++ [aw c7,tC (eF (nt h6)),tC (nt h6)]
  cases r8
  ·exact (eE (d:= .bool false) (E2++(cr 21 1589776))).to (by clear E1 E2;(try simp only [cf,aB,sM] at*);(simp [aB,sM, *];done))
  have Tp:= @eg ae
  generalize g12:ba ae=TN at Tp
  let E3:EL:=E2++ [tT,tT,tT,aw Tp,tT,tF]
  cases TN
  ·exact (eE (d:= .bool false) (E3++(cr 16 49680))).to (by clear E1 E2 E3;(try simp only [cf,aB,sM] at*);(simp [aB,sM, *];done))
  have TF:= @eg aa
  generalize g15:ba aa=T4 at TF
  let E4:EL:=E3++ [tT,tT,tT,aw TF,tT,tF]
  cases T4
  ·exact (eE (d:= .bool false) (E4++(cr 11 1552))).to (by clear E1 E2 E3 E4;(try simp only [cf,aB,sM] at*);(simp [aB,sM, *];done))
  have TG:= @b6 af (-2147483648) 2147483647
  let E5:EL:=E4++ [tT,tT,tT,aw TG,tT,tF]
  rcases cI (decide (af<(-2147483648))) with h17|h17
  ·exact (eE (d:= .bool false) (E5++Zx 4 (tC (eF (nt (dy (y:=decide (af≤2147483647)) (bK (-2147483648) h17)))))++ [tC (nt (dy (y:=decide (af≤2147483647)) (bK (-2147483648) h17))),tT])).to (by clear E1 E2 E3 E4 E5;(try simp only [cf,aB,sM] at*);(simp [aB,sM, *];omega))
  rcases cI (decide (af<2147483648)) with h18|h18
  ·have T9:= @b6 ai (-2147483648) 2147483647
   let E6:EL:=E5++Zx 3 (tC (eF (nt (aZ (bK (-2147483648) h17) (eH 2147483647 h18)))))++ [aw T9,tC (eF (nt (aZ (bK (-2147483648) h17) (eH 2147483647 h18)))),tC (nt (aZ (bK (-2147483648) h17) (eH 2147483647 h18)))]
   rcases cI (decide (ai<(-2147483648))) with h20|h20
   ·exact (eE (d:= .bool false) (E6++ [tC (nt (dy (y:=decide (ai≤2147483647)) (bK (-2147483648) h20)))])).to (by clear E1 E2 E3 E4 E5 E6;(try simp only [cf,aB,sM] at*);(simp [aB,sM, *];omega))
   rcases cI (decide (ai<2147483648)) with h21|h21
   ·let E7:EL:=E6++ [tC (nt (aZ (bK (-2147483648) h20) (eH 2147483647 h21)))]
    by_cases h22:w=32
    ·subst h22
     have Ua:= @b6 ai 0 31
     exact (eE (d:= .bool (decide (0≤ai)&&decide (ai≤31))) (E7++(cr 14 520)++Zx 8 tT++ [aw Ua,tT])).to (by clear E1 E2 E3 E4 E5 E6 E7;(try simp only [cf,aB,sM] at*);(rw [ZB];simp [aB,sM, *];grind))
    let E8:EL:=E7++Zx 3 (tC (eF (aR h22)))++ [tC (aR h22)]++Zx 4 (tC (eF (aR h22)))
    by_cases h24:w=8
    ·subst h24
     have WW:= @b6 ai (-128) 127
     exact (eE (d:= .bool false) (E8++([tT,tT,tT,aw WW]++cr 8 131)++Zx 8 tF)).to (by clear E1 E2 E3 E4 E5 E6 E7 E8;(try simp only [cf,aB,sM] at*);(simp [aB,sM, *];done))
    let E9:EL:=E8++Zx 3 (tC (eT (aR h24)))++ [tC (eF (aR h22)),tC (aR h24),tC (aR h22),tF,tF,tF,tF,tT]
    by_cases h26:w=64
    ·subst h26
     have Uj:= @b6 ai 0 63
     exact (eE (d:= .bool (decide (0≤ai)&&decide (ai≤63))) (E9++ [tT,tT,tT,tT,tT,tT,tT,aw Uj,tT])).to (by clear E1 E2 E3 E4 E5 E6 E7 E8 E9;(try simp only [cf,aB,sM] at*);(rw [ZB];simp [aB,sM, *];grind))
    exact (eE (d:= .bool false) (E9++Zx 7 (tC (eT (aR h26)))++ [tC (aR h26)])).to (by clear E1 E2 E3 E4 E5 E6 E7 E8 E9;(try simp only [cf,aB,sM] at*);(simp [aB,sM, *];done))
   exact (eE (d:= .bool false) (E6++ [tC (nt (aZ (bK (-2147483648) h20) (eH 2147483647 h21)))])).to (by clear E1 E2 E3 E4 E5 E6;(try simp only [cf,aB,sM] at*);(simp [aB,sM, *];omega))
  exact (eE (d:= .bool false) (E5++Zx 4 (tC (eF (nt (aZ (bK (-2147483648) h17) (eH 2147483647 h18)))))++ [tC (nt (aZ (bK (-2147483648) h17) (eH 2147483647 h18))),tT])).to (by clear E1 E2 E3 E4 E5;(try simp only [cf,aB,sM] at*);(simp [aB,sM, *];omega))
 exact (eE (d:= .bool false) (E1++Zx 4 (tC (eF (nt h6)))++([tC (nt h6)]++cr 21 1589776))).to (by clear E1;(try simp only [cf,aB,sM] at*);(rw [ZB];simp [aB,sM, *];grind))
theorem Hs:tW 5:=by
 intro op w ab ae aa af ai cc ho h TD
 have c0:= @dg op ho
 rw [eq_of_beq h] at c0
 generalize g2:bh op=r1 at c0
 generalize g4:bO op=r3 at c0
 have c5:= @IM op w ab ae aa af ai cc 5 (rfl:true=true)
 let E1:EL:=([aw c0]++Zx 4 (tC (eF (nt TD)))++ [aw c5,tC (eF (nt TD)),tC (eF (nt TD)),.flat _ _ ep,tC (nt TD)])
 rcases cI (br [ak 0,ak 0,ak 0,ak ae,ak aa,aq af,aq ai,ak cc] [ak 0,ak 0,ak 0,ak 0,ak 0,aq 0,aq 0,ak 0]) with h6|h6
 ·have c7:= @eg ab
  generalize g9:ba ab=r8 at c7
  let E2:EL:=E1++Zx 3 (tC (eF (nt h6)))++ [aw c7,tC (eF (nt h6)),tC (nt h6)]
  cases r8
  ·exact (eE (d:= .bool false) (E2++(cr 21 1589776))).to (by clear E1 E2;(try simp only [cf,aB,sM] at*);(simp [aB,sM, *];done))
  have Tp:= @eg ae
  generalize g12:ba ae=TN at Tp
  let E3:EL:=E2++ [tT,tT,tT,aw Tp,tT,tF]
  cases TN
  ·exact (eE (d:= .bool false) (E3++(cr 16 49680))).to (by clear E1 E2 E3;(try simp only [cf,aB,sM] at*);(simp [aB,sM, *];done))
  have TF:= @eg aa
  generalize g15:ba aa=T4 at TF
  let E4:EL:=E3++ [tT,tT,tT,aw TF,tT,tF]
  cases T4
  ·exact (eE (d:= .bool false) (E4++(cr 11 1552))).to (by clear E1 E2 E3 E4;(try simp only [cf,aB,sM] at*);(simp [aB,sM, *];done))
  have TG:= @b6 af (-2147483648) 2147483647
  let E5:EL:=E4++ [tT,tT,tT,aw TG,tT,tF]
  rcases cI (decide (af<(-2147483648))) with h17|h17
  ·exact (eE (d:= .bool false) (E5++Zx 4 (tC (eF (nt (dy (y:=decide (af≤2147483647)) (bK (-2147483648) h17)))))++ [tC (nt (dy (y:=decide (af≤2147483647)) (bK (-2147483648) h17))),tT])).to (by clear E1 E2 E3 E4 E5;(try simp only [cf,aB,sM] at*);(simp [aB,sM, *];omega))
  rcases cI (decide (af<2147483648)) with h18|h18
  ·have T9:= @b6 ai (-2147483648) 2147483647
   let E6:EL:=E5++Zx 3 (tC (eF (nt (aZ (bK (-2147483648) h17) (eH 2147483647 h18)))))++ [aw T9,tC (eF (nt (aZ (bK (-2147483648) h17) (eH 2147483647 h18)))),tC (nt (aZ (bK (-2147483648) h17) (eH 2147483647 h18)))]
   rcases cI (decide (ai<(-2147483648))) with h20|h20
   ·exact (eE (d:= .bool false) (E6++ [tC (nt (dy (y:=decide (ai≤2147483647)) (bK (-2147483648) h20)))])).to (by clear E1 E2 E3 E4 E5 E6;(try simp only [cf,aB,sM] at*);(simp [aB,sM, *];omega))
   rcases cI (decide (ai<2147483648)) with h21|h21
   ·let E7:EL:=E6++ [tC (nt (aZ (bK (-2147483648) h20) (eH 2147483647 h21)))]
    by_cases h22:w=32
    ·subst h22
     exact (eE (d:= .bool true) (E7++(cr 14 8712))).to (by clear E1 E2 E3 E4 E5 E6 E7;(try simp only [cf,aB,sM] at*);(rw [ZB];simp [aB,sM, *];grind))
    let E8:EL:=E7++Zx 3 (tC (eF (aR h22)))++ [tC (aR h22)]++Zx 4 (tC (eF (aR h22)))
    by_cases h23:w=8
    ·subst h23
     have UG:= @b6 ai (-128) 127
     exact (eE (d:= .bool false) (E8++ [tT,tT,tT,aw UG,tT,tT,tF,tF,tF,tF,tT])).to (by clear E1 E2 E3 E4 E5 E6 E7 E8;(try simp only [cf,aB,sM] at*);(simp [aB,sM, *];done))
    exact (eE (d:= .bool (w==64)) (E8++Zx 3 (tC (eT (aR h23)))++ [tC (eF (aR h22)),tC (aR h23),tC (aR h22),tF,tF,tF,tT])).to (by clear E1 E2 E3 E4 E5 E6 E7 E8;(try simp only [cf,aB,sM] at*);(rw [ZB];simp [aB,sM, *];grind))
   exact (eE (d:= .bool false) (E6++ [tC (nt (aZ (bK (-2147483648) h20) (eH 2147483647 h21)))])).to (by clear E1 E2 E3 E4 E5 E6;(try simp only [cf,aB,sM] at*);(simp [aB,sM, *];omega))
  exact (eE (d:= .bool false) (E5++Zx 4 (tC (eF (nt (aZ (bK (-2147483648) h17) (eH 2147483647 h18)))))++ [tC (nt (aZ (bK (-2147483648) h17) (eH 2147483647 h18))),tT])).to (by clear E1 E2 E3 E4 E5;(try simp only [cf,aB,sM] at*);(simp [aB,sM, *];omega))
 exact (eE (d:= .bool false) (E1++Zx 4 (tC (eF (nt h6)))++([tC (nt h6)]++cr 21 1589776))).to (by clear E1;(try simp only [cf,aB,sM] at*);(rw [ZB];simp [aB,sM, *];grind))
def tV (Tz:Int):Prop:= ∀(op w ab ae aa af ai cc:Int) (ho:op≤127) (h:(aC op==Tz)=true) (TD:decide (0≤op∧op≤31)=true),aQ Zy 72 ([xD op w ab ae aa af ai cc]) (ax (bL op w ab ae aa af ai cc))
theorem Hr:tV 6:=by
 intro op w ab ae aa af ai cc ho h TD
 have c0:= @dg op ho
 rw [eq_of_beq h] at c0
 generalize g2:bh op=r1 at c0
 generalize g4:bO op=r3 at c0
 have c5:= @IL op w ab ae aa af ai cc 6 (rfl:true=true)
 let E1:EL:=([aw c0]++Zx 4 (tC (eF (nt TD)))++ [aw c5,tC (eF (nt TD)),tC (eF (nt TD)),.flat _ _ ep,tC (nt TD)])
 rcases cI (br [ak 0,ak 0,ak 0,ak 0,ak aa,aq af,aq ai,ak 0] [ak 0,ak 0,ak 0,ak 0,ak 0,aq 0,aq 0,ak 0]) with h6|h6
 ·have c7:= @eg ab
  generalize g9:ba ab=r8 at c7
  let E2:EL:=E1++Zx 3 (tC (eF (nt h6)))++ [aw c7,tC (eF (nt h6)),tC (nt h6)]
  cases r8
  ·exact (eE (d:= .bool false) (E2++(cr 21 1589776))).to (by clear E1 E2;(try simp only [cf,aB,sM] at*);(simp [aB,sM, *];done))
  have Tp:= @eg ae
  generalize g12:ba ae=TN at Tp
  let E3:EL:=E2++ [tT,tT,tT,aw Tp,tT,tF]
  cases TN
  ·exact (eE (d:= .bool false) (E3++(cr 16 49680))).to (by clear E1 E2 E3;(try simp only [cf,aB,sM] at*);(simp [aB,sM, *];done))
  have TF:= @eg aa
  generalize g15:ba aa=T4 at TF
  let E4:EL:=E3++ [tT,tT,tT,aw TF,tT,tF]
  cases T4
  ·exact (eE (d:= .bool false) (E4++(cr 11 1552))).to (by clear E1 E2 E3 E4;(try simp only [cf,aB,sM] at*);(simp [aB,sM, *];done))
  have TG:= @b6 af (-2147483648) 2147483647
  let E5:EL:=E4++ [tT,tT,tT,aw TG,tT,tF]
  rcases cI (decide (af<(-2147483648))) with h17|h17
  ·exact (eE (d:= .bool false) (E5++Zx 4 (tC (eF (nt (dy (y:=decide (af≤2147483647)) (bK (-2147483648) h17)))))++ [tC (nt (dy (y:=decide (af≤2147483647)) (bK (-2147483648) h17))),tT])).to (by clear E1 E2 E3 E4 E5;(try simp only [cf,aB,sM] at*);(simp [aB,sM, *];omega))
  rcases cI (decide (af<2147483648)) with h18|h18
  ·have T9:= @b6 ai (-2147483648) 2147483647
   let E6:EL:=E5++Zx 3 (tC (eF (nt (aZ (bK (-2147483648) h17) (eH 2147483647 h18)))))++ [aw T9,tC (eF (nt (aZ (bK (-2147483648) h17) (eH 2147483647 h18)))),tC (nt (aZ (bK (-2147483648) h17) (eH 2147483647 h18)))]
   rcases cI (decide (ai<(-2147483648))) with h20|h20
   ·exact (eE (d:= .bool false) (E6++ [tC (nt (dy (y:=decide (ai≤2147483647)) (bK (-2147483648) h20)))])).to (by clear E1 E2 E3 E4 E5 E6;(try simp only [cf,aB,sM] at*);(simp [aB,sM, *];omega))
   rcases cI (decide (ai<2147483648)) with h21|h21
   ·let E7:EL:=E6++ [tC (nt (aZ (bK (-2147483648) h20) (eH 2147483647 h21)))]
    by_cases h22:w=32
    ·subst h22
     have Ua:= @rD cc
     generalize g25:cT cc=r24 at Ua
     exact (eE (d:= .bool r24) (E7++(cr 19 492040++ [aw Ua,tT]))).to (by clear E1 E2 E3 E4 E5 E6 E7;(try simp only [cf,aB,sM] at*);(rw [ZB];simp [aB,sM, *];grind))
    let E8:EL:=E7++Zx 3 (tC (eF (aR h22)))++ [tC (aR h22)]++Zx 4 (tC (eF (aR h22)))
    by_cases h26:w=8
    ·subst h26
     have Uj:= @b6 ai (-128) 127
     exact (eE (d:= .bool false) (E8++([tT,tT,tT,aw Uj]++cr 13 259))).to (by clear E1 E2 E3 E4 E5 E6 E7 E8;(try simp only [cf,aB,sM] at*);(simp [aB,sM, *];done))
    let E9:EL:=E8++Zx 3 (tC (eT (aR h26)))++ [tC (eF (aR h22)),tC (aR h26),tC (aR h22),tF,tF,tF,tF,tF,tT]
    by_cases h28:w=64
    ·subst h28
     have XU:= @rD cc
     generalize g31:cT cc=r30 at XU
     exact (eE (d:= .bool r30) (E9++ [tT,tT,tT,aw XU,tT])).to (by clear E1 E2 E3 E4 E5 E6 E7 E8 E9;(try simp only [cf,aB,sM] at*);(rw [ZB];simp [aB,sM, *];grind))
    exact (eE (d:= .bool false) (E9++Zx 3 (tC (eT (aR h28)))++ [tC (aR h28)])).to (by clear E1 E2 E3 E4 E5 E6 E7 E8 E9;(try simp only [cf,aB,sM] at*);(simp [aB,sM, *];done))
   exact (eE (d:= .bool false) (E6++ [tC (nt (aZ (bK (-2147483648) h20) (eH 2147483647 h21)))])).to (by clear E1 E2 E3 E4 E5 E6;(try simp only [cf,aB,sM] at*);(simp [aB,sM, *];omega))
  exact (eE (d:= .bool false) (E5++Zx 4 (tC (eF (nt (aZ (bK (-2147483648) h17) (eH 2147483647 h18)))))++ [tC (nt (aZ (bK (-2147483648) h17) (eH 2147483647 h18))),tT])).to (by clear E1 E2 E3 E4 E5;(try simp only [cf,aB,sM] at*);(simp [aB,sM, *];omega))
 exact (eE (d:= .bool false) (E1++Zx 4 (tC (eF (nt h6)))++([tC (nt h6)]++cr 21 1589776))).to (by clear E1;(try simp only [cf,aB,sM] at*);(rw [ZB];simp [aB,sM, *];grind))
theorem Hq:tV 7:=by
 intro op w ab ae aa af ai cc ho h TD
 have c0:= @dg op ho
 rw [eq_of_beq h] at c0
 generalize g2:bh op=r1 at c0
 generalize g4:bO op=r3 at c0
 have c5:= @IK op w ab ae aa af ai cc 7 (rfl:true=true)
 let E1:EL:=([aw c0]++Zx 4 (tC (eF (nt TD)))++ [aw c5,tC (eF (nt TD)),tC (eF (nt TD)),.flat _ _ ep,tC (nt TD)])
 rcases cI (br [ak 0,ak 0,ak 0,ak ae,ak 0,aq 0,aq ai,ak cc] [ak 0,ak 0,ak 0,ak 0,ak 0,aq 0,aq 0,ak 0]) with h6|h6
 ·have c7:= @eg ab
  generalize g9:ba ab=r8 at c7
  let E2:EL:=E1++Zx 3 (tC (eF (nt h6)))++ [aw c7,tC (eF (nt h6)),tC (nt h6)]
  cases r8
  ·exact (eE (d:= .bool false) (E2++(cr 21 1589776))).to (by clear E1 E2;(try simp only [cf,aB,sM] at*);(simp [aB,sM, *];done))
  have Tp:= @eg ae
  generalize g12:ba ae=TN at Tp
  let E3:EL:=E2++ [tT,tT,tT,aw Tp,tT,tF]
  cases TN
  ·exact (eE (d:= .bool false) (E3++(cr 16 49680))).to (by clear E1 E2 E3;(try simp only [cf,aB,sM] at*);(simp [aB,sM, *];done))
  have TF:= @eg aa
  generalize g15:ba aa=T4 at TF
  let E4:EL:=E3++ [tT,tT,tT,aw TF,tT,tF]
  cases T4
  ·exact (eE (d:= .bool false) (E4++(cr 11 1552))).to (by clear E1 E2 E3 E4;(try simp only [cf,aB,sM] at*);(simp [aB,sM, *];done))
  have TG:= @b6 af (-2147483648) 2147483647
  let E5:EL:=E4++ [tT,tT,tT,aw TG,tT,tF]
  rcases cI (decide (af<(-2147483648))) with h17|h17
  ·exact (eE (d:= .bool false) (E5++Zx 4 (tC (eF (nt (dy (y:=decide (af≤2147483647)) (bK (-2147483648) h17)))))++ [tC (nt (dy (y:=decide (af≤2147483647)) (bK (-2147483648) h17))),tT])).to (by clear E1 E2 E3 E4 E5;(try simp only [cf,aB,sM] at*);(simp [aB,sM, *];omega))
  rcases cI (decide (af<2147483648)) with h18|h18
  ·have T9:= @b6 ai (-2147483648) 2147483647
   let E6:EL:=E5++Zx 3 (tC (eF (nt (aZ (bK (-2147483648) h17) (eH 2147483647 h18)))))++ [aw T9,tC (eF (nt (aZ (bK (-2147483648) h17) (eH 2147483647 h18)))),tC (nt (aZ (bK (-2147483648) h17) (eH 2147483647 h18)))]
   rcases cI (decide (ai<(-2147483648))) with h20|h20
   ·exact (eE (d:= .bool false) (E6++ [tC (nt (dy (y:=decide (ai≤2147483647)) (bK (-2147483648) h20)))])).to (by clear E1 E2 E3 E4 E5 E6;(try simp only [cf,aB,sM] at*);(simp [aB,sM, *];omega))
   rcases cI (decide (ai<2147483648)) with h21|h21
   ·let E7:EL:=E6++ [tC (nt (aZ (bK (-2147483648) h20) (eH 2147483647 h21)))]
    by_cases h22:w=32
    ·subst h22
     have Ua:= @lB 32
     exact (eE (d:= .bool true) (E7++(cr 18 197128++ [aw Ua]))).to (by clear E1 E2 E3 E4 E5 E6 E7;(try simp only [cf,aB,sM] at*);(rw [ZB];simp [aB,sM, *];grind))
    let E8:EL:=E7++Zx 3 (tC (eF (aR h22)))++ [tC (aR h22)]++Zx 4 (tC (eF (aR h22)))
    by_cases h24:w=8
    ·subst h24
     have WW:= @b6 ai (-128) 127
     have UQ:= @lB 8
     exact (eE (d:= .bool true) (E8++([tT,tT,tT,aw WW]++cr 11 1539++ [aw UQ]))).to (by clear E1 E2 E3 E4 E5 E6 E7 E8;(try simp only [cf,aB,sM] at*);(rw [ZB];simp [aB,sM, *];grind))
    have Uj:= @lB w
    generalize g29:aU w=r28 at Uj
    exact (eE (d:= .bool r28) (E8++Zx 3 (tC (eT (aR h24)))++([tC (eF (aR h22)),tC (aR h24),tC (aR h22)]++cr 8 192++ [aw Uj]))).to (by clear E1 E2 E3 E4 E5 E6 E7 E8;(try simp only [cf,aB,sM] at*);(rw [ZB];simp [aB,sM, *];grind))
   exact (eE (d:= .bool false) (E6++ [tC (nt (aZ (bK (-2147483648) h20) (eH 2147483647 h21)))])).to (by clear E1 E2 E3 E4 E5 E6;(try simp only [cf,aB,sM] at*);(simp [aB,sM, *];omega))
  exact (eE (d:= .bool false) (E5++Zx 4 (tC (eF (nt (aZ (bK (-2147483648) h17) (eH 2147483647 h18)))))++ [tC (nt (aZ (bK (-2147483648) h17) (eH 2147483647 h18))),tT])).to (by clear E1 E2 E3 E4 E5;(try simp only [cf,aB,sM] at*);(simp [aB,sM, *];omega))
 exact (eE (d:= .bool false) (E1++Zx 4 (tC (eF (nt h6)))++([tC (nt h6)]++cr 21 1589776))).to (by clear E1;(try simp only [cf,aB,sM] at*);(rw [ZB];simp [aB,sM, *];grind))
theorem Hp:tV 8:=by
 intro op w ab ae aa af ai cc ho h TD
 have c0:= @dg op ho
 rw [eq_of_beq h] at c0
 generalize g2:bh op=r1 at c0
 generalize g4:bO op=r3 at c0
 have c5:= @IJ op w ab ae aa af ai cc 8 (rfl:true=true)
 let E1:EL:=([aw c0]++Zx 4 (tC (eF (nt TD)))++ [aw c5,tC (eF (nt TD)),tC (eF (nt TD)),.flat _ _ ep,tC (nt TD)])
 rcases cI (br [ak 0,ak 0,ak ab,ak 0,ak 0,aq 0,aq ai,ak cc] [ak 0,ak 0,ak 0,ak 0,ak 0,aq 0,aq 0,ak 0]) with h6|h6
 ·have c7:= @eg ab
  generalize g9:ba ab=r8 at c7
  let E2:EL:=E1++Zx 3 (tC (eF (nt h6)))++ [aw c7,tC (eF (nt h6)),tC (nt h6)]
  cases r8
  ·exact (eE (d:= .bool false) (E2++(cr 21 1589776))).to (by clear E1 E2;(try simp only [cf,aB,sM] at*);(simp [aB,sM, *];done))
  have Tp:= @eg ae
  generalize g12:ba ae=TN at Tp
  let E3:EL:=E2++ [tT,tT,tT,aw Tp,tT,tF]
  cases TN
  ·exact (eE (d:= .bool false) (E3++(cr 16 49680))).to (by clear E1 E2 E3;(try simp only [cf,aB,sM] at*);(simp [aB,sM, *];done))
  have TF:= @eg aa
  generalize g15:ba aa=T4 at TF
  let E4:EL:=E3++ [tT,tT,tT,aw TF,tT,tF]
  cases T4
  ·exact (eE (d:= .bool false) (E4++(cr 11 1552))).to (by clear E1 E2 E3 E4;(try simp only [cf,aB,sM] at*);(simp [aB,sM, *];done))
  have TG:= @b6 af (-2147483648) 2147483647
  let E5:EL:=E4++ [tT,tT,tT,aw TG,tT,tF]
  rcases cI (decide (af<(-2147483648))) with h17|h17
  ·exact (eE (d:= .bool false) (E5++Zx 4 (tC (eF (nt (dy (y:=decide (af≤2147483647)) (bK (-2147483648) h17)))))++ [tC (nt (dy (y:=decide (af≤2147483647)) (bK (-2147483648) h17))),tT])).to (by clear E1 E2 E3 E4 E5;(try simp only [cf,aB,sM] at*);(simp [aB,sM, *];omega))
  rcases cI (decide (af<2147483648)) with h18|h18
  ·have T9:= @b6 ai (-2147483648) 2147483647
   let E6:EL:=E5++Zx 3 (tC (eF (nt (aZ (bK (-2147483648) h17) (eH 2147483647 h18)))))++ [aw T9,tC (eF (nt (aZ (bK (-2147483648) h17) (eH 2147483647 h18)))),tC (nt (aZ (bK (-2147483648) h17) (eH 2147483647 h18)))]
   rcases cI (decide (ai<(-2147483648))) with h20|h20
   ·exact (eE (d:= .bool false) (E6++ [tC (nt (dy (y:=decide (ai≤2147483647)) (bK (-2147483648) h20)))])).to (by clear E1 E2 E3 E4 E5 E6;(try simp only [cf,aB,sM] at*);(simp [aB,sM, *];omega))
   rcases cI (decide (ai<2147483648)) with h21|h21
   ·let E7:EL:=E6++ [tC (nt (aZ (bK (-2147483648) h20) (eH 2147483647 h21)))]
    by_cases h22:w=32
    ·subst h22
     have Ua:= @lB 32
     exact (eE (d:= .bool true) (E7++(cr 18 131592++ [aw Ua]))).to (by clear E1 E2 E3 E4 E5 E6 E7;(try simp only [cf,aB,sM] at*);(rw [ZB];simp [aB,sM, *];grind))
    let E8:EL:=E7++Zx 3 (tC (eF (aR h22)))++ [tC (aR h22)]++Zx 4 (tC (eF (aR h22)))
    by_cases h24:w=8
    ·subst h24
     have WW:= @b6 ai (-128) 127
     have UQ:= @lB 8
     exact (eE (d:= .bool true) (E8++ [tT,tT,tT,aw WW,tT,tT]++Zx 8 tF++ [tT,aw UQ])).to (by clear E1 E2 E3 E4 E5 E6 E7 E8;(try simp only [cf,aB,sM] at*);(rw [ZB];simp [aB,sM, *];grind))
    have Uj:= @lB w
    generalize g29:aU w=r28 at Uj
    exact (eE (d:= .bool r28) (E8++Zx 3 (tC (eT (aR h24)))++([tC (eF (aR h22)),tC (aR h24),tC (aR h22)]++cr 8 128++ [aw Uj]))).to (by clear E1 E2 E3 E4 E5 E6 E7 E8;(try simp only [cf,aB,sM] at*);(rw [ZB];simp [aB,sM, *];grind))
   exact (eE (d:= .bool false) (E6++ [tC (nt (aZ (bK (-2147483648) h20) (eH 2147483647 h21)))])).to (by clear E1 E2 E3 E4 E5 E6;(try simp only [cf,aB,sM] at*);(simp [aB,sM, *];omega))
  exact (eE (d:= .bool false) (E5++Zx 4 (tC (eF (nt (aZ (bK (-2147483648) h17) (eH 2147483647 h18)))))++ [tC (nt (aZ (bK (-2147483648) h17) (eH 2147483647 h18))),tT])).to (by clear E1 E2 E3 E4 E5;(try simp only [cf,aB,sM] at*);(simp [aB,sM, *];omega))
 exact (eE (d:= .bool false) (E1++Zx 4 (tC (eF (nt h6)))++([tC (nt h6)]++cr 21 1589776))).to (by clear E1;(try simp only [cf,aB,sM] at*);(rw [ZB];simp [aB,sM, *];grind))
end Go.Proofs.YtbfpahigdpigpaaGreat
