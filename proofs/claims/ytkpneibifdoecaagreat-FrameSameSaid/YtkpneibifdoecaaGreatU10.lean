import Derived.Test.YtkpneibifdoecaaGreatU05
import Derived.Test.YtkpneibifdoecaaGreatU06
import Derived.Test.YtkpneibifdoecaaGreatU09
open List renaming replicate→Vc,length_append→Vd,length_cons→Vf,length_nil→Vg,length_set→Vj,length→Vt,map→VG,length_singleton→VX,drop_eq_getElem_cons→VZ,append_assoc→Wa,append_nil→Wb,drop_zero→Wu,map_cons→WG,drop_length→WL
open Go.Fn renaming func→Ve
open BitVec renaming ofInt→Vh,toNat→Vy
open Bool renaming and_eq_true→Vi,not_eq_true'→Vm,eq_iff_iff→Vn
open Nat renaming le_refl→Vq
open Int renaming toNat→VB
open True renaming intro→VS
open And renaming intro→VY
open Go.Program renaming cellsOf→Wc
open Go.Operand renaming tmp→WC,const→WN
open Go.Value renaming int→WD
open Go renaming IntKind→WO
/- Contracts and plain laws that a statement's proof leans on (texts merged:MV1,MV1A,MV2,MV2A,MW3B,MW4,MW4A,MW5,RH1,RH1A,RH2,RH2A,RH3,E0). -/
set_option linter.unusedVariables false
set_option linter.unusedSimpArgs false
set_option maxRecDepth 100000
set_option maxHeartbeats 8000000
namespace Go.Proofs.YtkpneibifdoecaaGreat
open Go Go.Ev
theorem jJ (r:Int):aZ Tryz.prog 95 ([.int .i8 r]) (.bool (l9 r)):=by
 rcases de (decide (r<0)) with h0|h0
 ·exact (LZ (d:= .bool false) [tC (eT (bk 0 h0)),tC (eT (bk 0 h0)),tC (bk 0 h0)] (by kernel_rfl)).to (by (try simp only [cJ,wk,aB,aK,ae,ak,l9] at*);first|(simp [wk,aB,aK,ae,ak,l9, *];done)|(simp [wk,aB,aK,ae,ak,l9, *];omega)|(rw [Vn];simp [wk,aB,aK,ae,ak,l9, *];done)|(rw [Vn];simp [wk,aB,aK,ae,ak,l9, *];omega)|(rw [Vn];simp [wk,aB,aK,ae,ak,l9, *];grind)|(subst_vars;rw [Vn];simp;grind))
 exact (LZ (d:= .bool (decide (r<16))) [tC (eT (bk 0 h0)),tC (eT (bk 0 h0)),tC (bk 0 h0)] (by kernel_rfl)).to (by (try simp only [cJ,wk,aB,aK,ae,ak,l9] at*);first|(simp [wk,aB,aK,ae,ak,l9, *];done)|(simp [wk,aB,aK,ae,ak,l9, *];omega)|(rw [Vn];simp [wk,aB,aK,ae,ak,l9, *];done)|(rw [Vn];simp [wk,aB,aK,ae,ak,l9, *];omega)|(rw [Vn];simp [wk,aB,aK,ae,ak,l9, *];grind)|(subst_vars;rw [Vn];simp;grind))
theorem Hw (l:List D) (m k:Nat) (es:List (Int×D)) (h:m≤k):ao Tryz.prog (aI Tryz.f96 0) ⟨[],[],[]⟩ 1 [uu,uu,uu,D.bp (0:Nat),uu,uu,uu,.aj .no 2 l,.int .i64 (↑m:Int),.int .i64 (↑k:Int),uu,uu,uu,uu,uu,uu,uu,uu,uu,uu,uu,uu,uu,uu,uu,uu,uu,uu,uu,uu,uu,uu,uu,uu,uu,uu] [Ob.mp WO.i8 es] (.exit 0) [uu,uu,uu,uu,uu,uu,uu,uu,uu,uu,uu,uu,uu,uu,uu,uu,uu,uu,uu,uu,uu,uu,uu,uu,uu,uu,uu,uu,uu,uu,uu,uu,uu,uu,uu,uu] ([.dead]):=by
 exact (ao.aw (sp:=⟨[],[],[]⟩) (n0:=1) (ex:=Ex.exit (0:Nat)) (t':= [uu,uu,uu,uu,uu,uu,uu,uu,uu,uu,uu,uu,uu,uu,uu,uu,uu,uu,uu,uu,uu,uu,uu,uu,uu,uu,uu,uu,uu,uu,uu,uu,uu,uu,uu,uu]) (s':= [.dead]) mixed [tC (by ((try simp only [Vd,Vf,Vg,Vj,cf] at*);(try unfold cy at*);omega):(decide ((↑k:Int)<(↑m:Int)))=false)] (by kernel_rfl)).cast (by rfl) (by rfl)
theorem Hx (l:List D) (m k:Nat) (es:List (Int×D)) (hk:k<m) (a b:Int) (hx:l[k]? =some (.agg [.int .i8 a,.int .i8 b])) (hm:m≤64) (hl:dR es a=some (.int .i64 1)):ao Tryz.prog (aI Tryz.f96 0) ⟨[2],[],[]⟩ 1 [uu,uu,uu,D.bp (0:Nat),uu,uu,uu,.aj .no 2 l,.int .i64 (↑m:Int),.int .i64 (↑k:Int),uu,uu,uu,uu,uu,uu,uu,uu,uu,uu,uu,uu,uu,uu,uu,uu,uu,uu,uu,uu,uu,uu,uu,uu,uu,uu] [Ob.mp WO.i8 es] (Ex.ret) [uu,uu,.bool false,uu,uu,uu,uu,uu,uu,uu,uu,uu,uu,uu,uu,uu,uu,uu,uu,uu,uu,uu,uu,uu,uu,uu,uu,uu,uu,uu,uu,uu,uu,uu,uu,uu] ([.dead]):=by
 exact (ao.aw (sp:=⟨[2],[],[]⟩) (n0:=1) (ex:=Ex.ret) (t':= [uu,uu,.bool false,uu,uu,uu,uu,uu,uu,uu,uu,uu,uu,uu,uu,uu,uu,uu,uu,uu,uu,uu,uu,uu,uu,uu,uu,uu,uu,uu,uu,uu,uu,uu,uu,uu]) (s':= [.dead]) mixed [tC (by ((try simp only [Vd,Vf,Vg,Vj,cf] at*);(try unfold cy at*);omega):(decide ((↑k:Int)<(↑m:Int)))=true),tT,.get _ _ _ hx,.e9 _ _ _ hl,.e9 _ _ _ (@kV es a (bB [uu,uu,uu,D.bp (0:Nat),uu,.ptr false 1 0,uu,.aj .no 2 l,.int .i64 (↑m:Int),.int .i64 (↑k:Int),.bool (decide ((↑k:Int)<(↑m:Int))),D.cT false (.agg [.int .i8 a,.int .i8 b]) (0:Nat),.agg [.int .i8 a,.int .i8 b],D.bp (0:Nat),.ptr false 1 0,.int .i8 a,.int .i64 1,.int .i64 2,uu,uu,uu,uu,uu,uu,uu,uu,uu,uu,uu,uu,uu,uu,uu,uu,uu,uu] (WC (17:Nat)))),tF,tF,tF,tF,tT,tF,tF,tF,tF,tT,tT] (by kernel_rfl)).cast (by rfl) (by rfl)
theorem KW (l:List D) (m k:Nat) (es:List (Int×D)) (hk:k<m) (a b:Int) (hx:l[k]? =some (.agg [.int .i8 a,.int .i8 b])) (hm:m≤64) (hl:dR es a=none) (ra:l9 a=false):ao Tryz.prog (aI Tryz.f96 0) ⟨[2],[],[]⟩ 1 [uu,uu,uu,D.bp (0:Nat),uu,uu,uu,.aj .no 2 l,.int .i64 (↑m:Int),.int .i64 (↑k:Int),uu,uu,uu,uu,uu,uu,uu,uu,uu,uu,uu,uu,uu,uu,uu,uu,uu,uu,uu,uu,uu,uu,uu,uu,uu,uu] [Ob.mp WO.i8 es] (Ex.ret) [uu,uu,.bool false,uu,uu,uu,uu,uu,uu,uu,uu,uu,uu,uu,uu,uu,uu,uu,uu,uu,uu,uu,uu,uu,uu,uu,uu,uu,uu,uu,uu,uu,uu,uu,uu,uu] ([.dead]):=by
 have c0:= @jJ a
 exact (ao.aw (sp:=⟨[2],[],[]⟩) (n0:=1) (ex:=Ex.ret) (t':= [uu,uu,.bool false,uu,uu,uu,uu,uu,uu,uu,uu,uu,uu,uu,uu,uu,uu,uu,uu,uu,uu,uu,uu,uu,uu,uu,uu,uu,uu,uu,uu,uu,uu,uu,uu,uu]) (s':= [.dead]) mixed ([tC (by ((try simp only [Vd,Vf,Vg,Vj,cf] at*);(try unfold cy at*);omega):(decide ((↑k:Int)<(↑m:Int)))=true),tT,.get _ _ _ hx,.e9 _ _ _ hl,.e9 _ _ _ (@kV es a (bB [uu,uu,uu,D.bp (0:Nat),uu,.ptr false 1 0,uu,.aj .no 2 l,.int .i64 (↑m:Int),.int .i64 (↑k:Int),.bool (decide ((↑k:Int)<(↑m:Int))),D.cT false (.agg [.int .i8 a,.int .i8 b]) (0:Nat),.agg [.int .i8 a,.int .i8 b],D.bp (0:Nat),.ptr false 1 0,.int .i8 a,.int .i64 0,.int .i64 1,uu,uu,uu,uu,uu,uu,uu,uu,uu,uu,uu,uu,uu,uu,uu,uu,uu,uu] (WC (17:Nat)))),tT,tT,tT,.ret _ _ _ c0,tT,tF]++Vc 4 (tC (eF (nt ra)))++ [tC (nt ra),tT]) (by kernel_rfl)).cast (by rfl) (by rfl)
theorem KV (l:List D) (m k:Nat) (es:List (Int×D)) (hk:k<m) (a b:Int) (hx:l[k]? =some (.agg [.int .i8 a,.int .i8 b])) (hm:m≤64) (hl:dR es a=none) (ra:l9 a=true) (rb:l9 b=false):ao Tryz.prog (aI Tryz.f96 0) ⟨[2],[],[]⟩ 1 [uu,uu,uu,D.bp (0:Nat),uu,uu,uu,.aj .no 2 l,.int .i64 (↑m:Int),.int .i64 (↑k:Int),uu,uu,uu,uu,uu,uu,uu,uu,uu,uu,uu,uu,uu,uu,uu,uu,uu,uu,uu,uu,uu,uu,uu,uu,uu,uu] [Ob.mp WO.i8 es] (Ex.ret) [uu,uu,.bool false,uu,uu,uu,uu,uu,uu,uu,uu,uu,uu,uu,uu,uu,uu,uu,uu,uu,uu,uu,uu,uu,uu,uu,uu,uu,uu,uu,uu,uu,uu,uu,uu,uu] ([.dead]):=by
 have c0:= @jJ a
 have c1:= @jJ b
 exact (ao.aw (sp:=⟨[2],[],[]⟩) (n0:=1) (ex:=Ex.ret) (t':= [uu,uu,.bool false,uu,uu,uu,uu,uu,uu,uu,uu,uu,uu,uu,uu,uu,uu,uu,uu,uu,uu,uu,uu,uu,uu,uu,uu,uu,uu,uu,uu,uu,uu,uu,uu,uu]) (s':= [.dead]) mixed ([tC (by ((try simp only [Vd,Vf,Vg,Vj,cf] at*);(try unfold cy at*);omega):(decide ((↑k:Int)<(↑m:Int)))=true),tT,.get _ _ _ hx,.e9 _ _ _ hl,.e9 _ _ _ (@kV es a (bB [uu,uu,uu,D.bp (0:Nat),uu,.ptr false 1 0,uu,.aj .no 2 l,.int .i64 (↑m:Int),.int .i64 (↑k:Int),.bool (decide ((↑k:Int)<(↑m:Int))),D.cT false (.agg [.int .i8 a,.int .i8 b]) (0:Nat),.agg [.int .i8 a,.int .i8 b],D.bp (0:Nat),.ptr false 1 0,.int .i8 a,.int .i64 0,.int .i64 1,uu,uu,uu,uu,uu,uu,uu,uu,uu,uu,uu,uu,uu,uu,uu,uu,uu,uu] (WC (17:Nat)))),tT,tT,tT,.ret _ _ _ c0,tT,tF]++Vc 3 (tC (eF (nt ra)))++ [.ret _ _ _ c1,tC (eF (nt ra)),tC (nt ra),tC (nt rb)]) (by kernel_rfl)).cast (by rfl) (by rfl)
theorem GO (l:List D) (m k:Nat) (es:List (Int×D)) (hk:k<m) (a b:Int) (hx:l[k]? =some (.agg [.int .i8 a,.int .i8 b])) (hm:m≤64) (hl:dR es a=none) (ra:l9 a=true) (rb:l9 b=true):ao Tryz.prog (aI Tryz.f96 0) ⟨[3,7,8,9],[0],[]⟩ 1 [uu,uu,uu,D.bp (0:Nat),uu,uu,uu,.aj .no 2 l,.int .i64 (↑m:Int),.int .i64 (↑k:Int),uu,uu,uu,uu,uu,uu,uu,uu,uu,uu,uu,uu,uu,uu,uu,uu,uu,uu,uu,uu,uu,uu,uu,uu,uu,uu] [Ob.mp WO.i8 es] .norm [uu,uu,uu,D.bp (0:Nat),uu,uu,uu,.aj .no 2 l,.int .i64 (↑m:Int),.int .i64 (WO.i64.wrap ((↑k:Int)+1)),uu,uu,uu,uu,uu,uu,uu,uu,uu,uu,uu,uu,uu,uu,uu,uu,uu,uu,uu,uu,uu,uu,uu,uu,uu,uu] ([.mp .i8 (fq es a (.int .i64 1))]):=by
 have c0:= @jJ a
 have c1:= @jJ b
 exact (ao.aw (sp:=⟨[3,7,8,9],[0],[]⟩) (n0:=1) (ex:=Ex.norm) (t':= [uu,uu,uu,D.bp (0:Nat),uu,uu,uu,.aj .no 2 l,.int .i64 (↑m:Int),.int .i64 (WO.i64.wrap ((↑k:Int)+1)),uu,uu,uu,uu,uu,uu,uu,uu,uu,uu,uu,uu,uu,uu,uu,uu,uu,uu,uu,uu,uu,uu,uu,uu,uu,uu]) (s':= [Ob.mp WO.i8 (fq es a (bB [uu,uu,uu,D.bp (0:Nat),uu,.ptr false (Vt [Ob.mp WO.i8 es]) (0:Nat),uu,.aj .no 2 l,.int .i64 (↑m:Int),.int .i64 (↑k:Int),.bool (decide ((↑k:Int)<(↑m:Int))),D.cT false (.agg [.int .i8 a,.int .i8 b]) (0:Nat),.agg [.int .i8 a,.int .i8 b],D.bp (0:Nat),.ptr (false|| !isConst (WN (WD WO.i64 0))) (Vt [Ob.mp WO.i8 es]) ((0:Nat)+VB 0*Wc Tryz.prog (23:Nat)),.int .i8 a,.int .i64 0,.int .i64 (WO.i64.wrap (0+1)),uu,uu,uu,uu,uu,uu,uu,uu,uu,uu,uu,uu,uu,uu,uu,uu,uu,uu] (WC (17:Nat))))]) mixed ([tC (by ((try simp only [Vd,Vf,Vg,Vj,cf] at*);(try unfold cy at*);omega):(decide ((↑k:Int)<(↑m:Int)))=true),tT,.get _ _ _ hx,.e9 _ _ _ hl,.e9 _ _ _ (@kV es a (bB [uu,uu,uu,D.bp (0:Nat),uu,.ptr false 1 0,uu,.aj .no 2 l,.int .i64 (↑m:Int),.int .i64 (↑k:Int),.bool (decide ((↑k:Int)<(↑m:Int))),D.cT false (.agg [.int .i8 a,.int .i8 b]) (0:Nat),.agg [.int .i8 a,.int .i8 b],D.bp (0:Nat),.ptr false 1 0,.int .i8 a,.int .i64 0,.int .i64 1,uu,uu,uu,uu,uu,uu,uu,uu,uu,uu,uu,uu,uu,uu,uu,uu,uu,uu] (WC (17:Nat)))),tT,tT,tT,.ret _ _ _ c0,tT,tF]++Vc 3 (tC (eF (nt ra)))++ [.ret _ _ _ c1,tC (eF (nt ra)),tC (nt ra),tC (nt rb)]) (by kernel_rfl)).cast (by rfl) (by rfl)
theorem HA (l:List D) (m k:Nat) (sc:Int) (h:m≤k):ao Tryz.prog (aI Tryz.f65 0) ⟨[0,1],[],[]⟩ 0 [.aj .no 2 l,.int .i8 sc,uu,uu,uu,uu,uu,.aj .no 2 l,.int .i64 (↑m:Int),.int .i64 (↑k:Int),uu,uu,uu,uu,uu,uu,uu,uu,uu,uu,uu,uu,uu,uu,uu,uu,uu,uu,uu,uu] [] (.exit 0) [.aj .no 2 l,.int .i8 sc,uu,uu,uu,uu,uu,uu,uu,uu,uu,uu,uu,uu,uu,uu,uu,uu,uu,uu,uu,uu,uu,uu,uu,uu,uu,uu,uu,uu] ([]):=by
 exact (ao.aw (sp:=⟨[0,1],[],[]⟩) (n0:=0) (ex:=Ex.exit (0:Nat)) (t':= [.aj .no 2 l,.int .i8 sc,uu,uu,uu,uu,uu,uu,uu,uu,uu,uu,uu,uu,uu,uu,uu,uu,uu,uu,uu,uu,uu,uu,uu,uu,uu,uu,uu,uu]) (s':= []) mixed [tC (by ((try simp only [Vd,Vf,Vg,Vj,cf] at*);(try unfold cy at*);omega):(decide ((↑k:Int)<(↑m:Int)))=false)] (by kernel_rfl)).cast (by rfl) (by rfl)
theorem K0 (l:List D) (m k:Nat) (sc:Int) (hk:k<m) (a b:Int) (hx:l[k]? =some (.agg [.int .i8 a,.int .i8 b])) (hm:m≤64) (h1:(a==sc)=true):ao Tryz.prog (aI Tryz.f65 0) ⟨[4],[],[]⟩ 0 [.aj .no 2 l,.int .i8 sc,uu,uu,uu,uu,uu,.aj .no 2 l,.int .i64 (↑m:Int),.int .i64 (↑k:Int),uu,uu,uu,uu,uu,uu,uu,uu,uu,uu,uu,uu,uu,uu,uu,uu,uu,uu,uu,uu] [] (Ex.ret) [uu,uu,uu,uu,.bool false,uu,uu,uu,uu,uu,uu,uu,uu,uu,uu,uu,uu,uu,uu,uu,uu,uu,uu,uu,uu,uu,uu,uu,uu,uu] ([]):=by
 exact (ao.aw (sp:=⟨[4],[],[]⟩) (n0:=0) (ex:=Ex.ret) (t':= [uu,uu,uu,uu,.bool false,uu,uu,uu,uu,uu,uu,uu,uu,uu,uu,uu,uu,uu,uu,uu,uu,uu,uu,uu,uu,uu,uu,uu,uu,uu]) (s':= []) mixed ([tC (by ((try simp only [Vd,Vf,Vg,Vj,cf] at*);(try unfold cy at*);omega):(decide ((↑k:Int)<(↑m:Int)))=true),tT,.get _ _ _ hx]++Vc 4 (tC (eF h1))++ [tC h1,tT]) (by kernel_rfl)).cast (by rfl) (by rfl)
theorem KZ (l:List D) (m k:Nat) (sc:Int) (hk:k<m) (a b:Int) (hx:l[k]? =some (.agg [.int .i8 a,.int .i8 b])) (hm:m≤64) (h1:(a==sc)=false) (h2:(b==sc)=true):ao Tryz.prog (aI Tryz.f65 0) ⟨[4],[],[]⟩ 0 [.aj .no 2 l,.int .i8 sc,uu,uu,uu,uu,uu,.aj .no 2 l,.int .i64 (↑m:Int),.int .i64 (↑k:Int),uu,uu,uu,uu,uu,uu,uu,uu,uu,uu,uu,uu,uu,uu,uu,uu,uu,uu,uu,uu] [] (Ex.ret) [uu,uu,uu,uu,.bool false,uu,uu,uu,uu,uu,uu,uu,uu,uu,uu,uu,uu,uu,uu,uu,uu,uu,uu,uu,uu,uu,uu,uu,uu,uu] ([]):=by
 exact (ao.aw (sp:=⟨[4],[],[]⟩) (n0:=0) (ex:=Ex.ret) (t':= [uu,uu,uu,uu,.bool false,uu,uu,uu,uu,uu,uu,uu,uu,uu,uu,uu,uu,uu,uu,uu,uu,uu,uu,uu,uu,uu,uu,uu,uu,uu]) (s':= []) mixed ([tC (by ((try simp only [Vd,Vf,Vg,Vj,cf] at*);(try unfold cy at*);omega):(decide ((↑k:Int)<(↑m:Int)))=true),tT,.get _ _ _ hx]++Vc 4 (tC (eF h1))++ [tC h1,tC h2]) (by kernel_rfl)).cast (by rfl) (by rfl)
theorem GQ (l:List D) (m k:Nat) (sc:Int) (hk:k<m) (a b:Int) (hx:l[k]? =some (.agg [.int .i8 a,.int .i8 b])) (hm:m≤64) (h1:(a==sc)=false) (h2:(b==sc)=false):ao Tryz.prog (aI Tryz.f65 0) ⟨[0,1,7,8,9],[],[]⟩ 0 [.aj .no 2 l,.int .i8 sc,uu,uu,uu,uu,uu,.aj .no 2 l,.int .i64 (↑m:Int),.int .i64 (↑k:Int),uu,uu,uu,uu,uu,uu,uu,uu,uu,uu,uu,uu,uu,uu,uu,uu,uu,uu,uu,uu] [] .norm [.aj .no 2 l,.int .i8 sc,uu,uu,uu,uu,uu,.aj .no 2 l,.int .i64 (↑m:Int),.int .i64 (WO.i64.wrap ((↑k:Int)+1)),uu,uu,uu,uu,uu,uu,uu,uu,uu,uu,uu,uu,uu,uu,uu,uu,uu,uu,uu,uu] ([]):=by
 exact (ao.aw (sp:=⟨[0,1,7,8,9],[],[]⟩) (n0:=0) (ex:=Ex.norm) (t':= [.aj .no 2 l,.int .i8 sc,uu,uu,uu,uu,uu,.aj .no 2 l,.int .i64 (↑m:Int),.int .i64 (WO.i64.wrap ((↑k:Int)+1)),uu,uu,uu,uu,uu,uu,uu,uu,uu,uu,uu,uu,uu,uu,uu,uu,uu,uu,uu,uu]) (s':= []) mixed ([tC (by ((try simp only [Vd,Vf,Vg,Vj,cf] at*);(try unfold cy at*);omega):(decide ((↑k:Int)<(↑m:Int)))=true),tT,.get _ _ _ hx]++Vc 4 (tC (eF h1))++ [tC h1,tC h2]) (by kernel_rfl)).cast (by rfl) (by rfl)
theorem Fo (cs:List D) (OJ:∀c∈cs,c.clean=true) (es:List (Int×D)) (m k:Nat) (hm:m≤64) (Px:cs.length=m*2) (h:m≤k):ao Tryz.prog (aI Tryz.f66 0) ⟨[0,4],[3,5,1000004],[]⟩ 6 [.bR 4 2 m,uu,uu,uu,D.bp (5:Nat),uu,uu,uu,uu,uu,uu,.bR 4 2 m,.int .i64 (↑m:Int),.int .i64 (↑k:Int),uu,uu,uu,uu,uu,uu,uu,uu,uu,uu,uu,uu,uu,uu,uu,uu,uu,uu,uu,uu,uu,uu,uu,uu,uu,uu,uu,uu,uu] [.dead,.dead,.dead,.bz 0 2,.box cs,Ob.mp WO.i8 es] (.exit 0) [.bR 4 2 m,uu,uu,uu,D.bp (5:Nat),uu,uu,uu,uu,uu,uu,uu,uu,uu,uu,uu,uu,uu,uu,uu,uu,uu,uu,uu,uu,uu,uu,uu,uu,uu,uu,uu,uu,uu,uu,uu,uu,uu,uu,uu,uu,uu,uu] ([.dead,.dead,.dead,.bz 0 2,.box (VG D.aJ cs),Ob.mp WO.i8 es]):=by
 exact (ao.aw (sp:=⟨[0,4],[3,5,1000004],[]⟩) (n0:=6) (ex:=Ex.exit (0:Nat)) (t':= [.bR 4 2 m,uu,uu,uu,D.bp (5:Nat),uu,uu,uu,uu,uu,uu,uu,uu,uu,uu,uu,uu,uu,uu,uu,uu,uu,uu,uu,uu,uu,uu,uu,uu,uu,uu,uu,uu,uu,uu,uu,uu,uu,uu,uu,uu,uu,uu]) (s':= [.dead,.dead,.dead,.bz 0 2,.box (VG D.aJ cs),Ob.mp WO.i8 es]) mixed [tC (by ((try simp only [Vd,Vf,Vg,Vj,cf] at*);(try unfold cy at*);omega):(decide ((↑k:Int)<(↑m:Int)))=false),.cl cs (by first|exact dn rfl|exact OJ|exact dD OJ rfl|exact gY OJ rfl|exact eQ OJ)] (by kernel_rfl)).cast (by rfl) (by rfl)
theorem Fm (cs:List D) (OJ:∀c∈cs,c.clean=true) (es:List (Int×D)) (m k:Nat) (hm:m≤64) (Px:cs.length=m*2) (hk:k<m) (a b:Int) (hA:hH cs (k*2) 2 [.int .i8 a,.int .i8 b]) (hl:dR es b=none):ao Tryz.prog (aI Tryz.f66 0) ⟨[0,4,11,12,13],[3,5,1000004],[]⟩ 6 [.bR 4 2 m,uu,uu,uu,D.bp (5:Nat),uu,uu,uu,uu,uu,uu,.bR 4 2 m,.int .i64 (↑m:Int),.int .i64 (↑k:Int),uu,uu,uu,uu,uu,uu,uu,uu,uu,uu,uu,uu,uu,uu,uu,uu,uu,uu,uu,uu,uu,uu,uu,uu,uu,uu,uu,uu,uu] [.dead,.dead,.dead,.bz 0 2,.box cs,Ob.mp WO.i8 es] .norm [.bR 4 2 m,uu,uu,uu,D.bp (5:Nat),uu,uu,uu,uu,uu,uu,.bR 4 2 m,.int .i64 (↑m:Int),.int .i64 (WO.i64.wrap ((↑k:Int)+1)),uu,uu,uu,uu,uu,uu,uu,uu,uu,uu,uu,uu,uu,uu,uu,uu,uu,uu,uu,uu,uu,uu,uu,uu,uu,uu,uu,uu,uu] ([.dead,.dead,.dead,.bz 0 2,.box (VG D.aJ cs),.mp .i8 (fq es b (.int .i64 1))]):=by
 exact (ao.aw (sp:=⟨[0,4,11,12,13],[3,5,1000004],[]⟩) (n0:=6) (ex:=Ex.norm) (t':= [.bR 4 2 m,uu,uu,uu,D.bp (5:Nat),uu,uu,uu,uu,uu,uu,.bR 4 2 m,.int .i64 (↑m:Int),.int .i64 (WO.i64.wrap ((↑k:Int)+1)),uu,uu,uu,uu,uu,uu,uu,uu,uu,uu,uu,uu,uu,uu,uu,uu,uu,uu,uu,uu,uu,uu,uu,uu,uu,uu,uu,uu,uu]) (s':= [.dead,.dead,.dead,.bz 0 2,.box (VG D.aJ cs),Ob.mp WO.i8 (fq es b (bB [.bR 4 2 m,uu,uu,uu,D.bp (5:Nat),uu,.ptr false (Vt [.dead,.dead,.dead,.bz 0 2,.box cs,Ob.mp WO.i8 es]) (0:Nat),uu,uu,uu,uu,.bR 4 2 m,.int .i64 (↑m:Int),.int .i64 (↑k:Int),.bool (decide ((↑k:Int)<(↑m:Int))),.ptr true (4:Nat) (VB (↑k:Int)*(2:Nat)),.agg [.int .i8 a,.int .i8 b],D.bp (5:Nat),.ptr (false|| !isConst (WN (WD WO.i64 1))) (Vt [.dead,.dead,.dead,.bz 0 2,.box cs,Ob.mp WO.i8 es]) ((0:Nat)+VB 1*Wc Tryz.prog (23:Nat)),.int .i8 b,.int .i64 0,.int .i64 (WO.i64.wrap (0+1)),uu,uu,uu,uu,uu,uu,uu,uu,uu,uu,uu,uu,uu,uu,uu,uu,uu,uu,uu,uu,uu] (WC (21:Nat))))]) mixed [tC (by ((try simp only [Vd,Vf,Vg,Vj,cf] at*);(try unfold cy at*);omega):(decide ((↑k:Int)<(↑m:Int)))=true),.cH (decide (0≤(↑k:Int)∧(↑k:Int)<(↑m:Int))) true (by ((try simp only [Vd,Vf,Vg,Vj,cf] at*);(try unfold cy at*);omega)),.bV _ _ _ _ (@iT cs (VB (↑k:Int)*(2:Nat)) ((2:Nat)) _ hA),.e9 _ _ _ hl,.cl cs (by first|exact dn rfl|exact OJ|exact dD OJ rfl|exact gY OJ rfl|exact eQ OJ)] (by kernel_rfl)).cast (by rfl) (by rfl)
theorem Fl (cs:List D) (OJ:∀c∈cs,c.clean=true) (es:List (Int×D)) (m k:Nat) (hm:m≤64) (Px:cs.length=m*2) (hk:k<m) (a b:Int) (hA:hH cs (k*2) 2 [.int .i8 a,.int .i8 b]) (c:Int) (hl:dR es b=some (.int .i64 c)):ao Tryz.prog (aI Tryz.f66 0) ⟨[0,4,11,12,13],[3,5,1000004],[]⟩ 6 [.bR 4 2 m,uu,uu,uu,D.bp (5:Nat),uu,uu,uu,uu,uu,uu,.bR 4 2 m,.int .i64 (↑m:Int),.int .i64 (↑k:Int),uu,uu,uu,uu,uu,uu,uu,uu,uu,uu,uu,uu,uu,uu,uu,uu,uu,uu,uu,uu,uu,uu,uu,uu,uu,uu,uu,uu,uu] [.dead,.dead,.dead,.bz 0 2,.box cs,Ob.mp WO.i8 es] .norm [.bR 4 2 m,uu,uu,uu,D.bp (5:Nat),uu,uu,uu,uu,uu,uu,.bR 4 2 m,.int .i64 (↑m:Int),.int .i64 (WO.i64.wrap ((↑k:Int)+1)),uu,uu,uu,uu,uu,uu,uu,uu,uu,uu,uu,uu,uu,uu,uu,uu,uu,uu,uu,uu,uu,uu,uu,uu,uu,uu,uu,uu,uu] ([.dead,.dead,.dead,.bz 0 2,.box (VG D.aJ cs),.mp .i8 (fq es b (.int .i64 (WO.i64.wrap (c+1))))]):=by
 exact (ao.aw (sp:=⟨[0,4,11,12,13],[3,5,1000004],[]⟩) (n0:=6) (ex:=Ex.norm) (t':= [.bR 4 2 m,uu,uu,uu,D.bp (5:Nat),uu,uu,uu,uu,uu,uu,.bR 4 2 m,.int .i64 (↑m:Int),.int .i64 (WO.i64.wrap ((↑k:Int)+1)),uu,uu,uu,uu,uu,uu,uu,uu,uu,uu,uu,uu,uu,uu,uu,uu,uu,uu,uu,uu,uu,uu,uu,uu,uu,uu,uu,uu,uu]) (s':= [.dead,.dead,.dead,.bz 0 2,.box (VG D.aJ cs),Ob.mp WO.i8 (fq es b (bB [.bR 4 2 m,uu,uu,uu,D.bp (5:Nat),uu,.ptr false (Vt [.dead,.dead,.dead,.bz 0 2,.box cs,Ob.mp WO.i8 es]) (0:Nat),uu,uu,uu,uu,.bR 4 2 m,.int .i64 (↑m:Int),.int .i64 (↑k:Int),.bool (decide ((↑k:Int)<(↑m:Int))),.ptr true (4:Nat) (VB (↑k:Int)*(2:Nat)),.agg [.int .i8 a,.int .i8 b],D.bp (5:Nat),.ptr (false|| !isConst (WN (WD WO.i64 1))) (Vt [.dead,.dead,.dead,.bz 0 2,.box cs,Ob.mp WO.i8 es]) ((0:Nat)+VB 1*Wc Tryz.prog (23:Nat)),.int .i8 b,.int .i64 c,.int .i64 (WO.i64.wrap (c+1)),uu,uu,uu,uu,uu,uu,uu,uu,uu,uu,uu,uu,uu,uu,uu,uu,uu,uu,uu,uu,uu] (WC (21:Nat))))]) mixed [tC (by ((try simp only [Vd,Vf,Vg,Vj,cf] at*);(try unfold cy at*);omega):(decide ((↑k:Int)<(↑m:Int)))=true),.cH (decide (0≤(↑k:Int)∧(↑k:Int)<(↑m:Int))) true (by ((try simp only [Vd,Vf,Vg,Vj,cf] at*);(try unfold cy at*);omega)),.bV _ _ _ _ (@iT cs (VB (↑k:Int)*(2:Nat)) ((2:Nat)) _ hA),.e9 _ _ _ hl,.cl cs (by first|exact dn rfl|exact OJ|exact dD OJ rfl|exact gY OJ rfl|exact eQ OJ)] (by kernel_rfl)).cast (by rfl) (by rfl)
theorem Fk (cs:List D) (OJ:∀c∈cs,c.clean=true) (es:List (Int×D)) (m k:Nat) (hm:m≤64) (Px:cs.length=m*2) (h:m≤k):ao Tryz.prog (aI Tryz.f66 1) ⟨[],[3,1000004],[]⟩ 6 [uu,uu,uu,uu,D.bp (5:Nat),uu,uu,uu,uu,uu,uu,uu,uu,uu,uu,uu,uu,uu,uu,uu,uu,uu,uu,.bR 4 2 m,.int .i64 (↑m:Int),.int .i64 (↑k:Int),uu,uu,uu,uu,uu,uu,uu,uu,uu,uu,uu,uu,uu,uu,uu,uu,uu] [.dead,.dead,.dead,.bz 0 2,.box cs,Ob.mp WO.i8 es] (.exit 2) [uu,uu,uu,uu,uu,uu,uu,uu,uu,uu,uu,uu,uu,uu,uu,uu,uu,uu,uu,uu,uu,uu,uu,uu,uu,uu,uu,uu,uu,uu,uu,uu,uu,uu,uu,uu,uu,uu,uu,uu,uu,uu,uu] ([.dead,.dead,.dead,.bz 0 2,.box (VG D.aJ cs),.dead]):=by
 exact (ao.aw (sp:=⟨[],[3,1000004],[]⟩) (n0:=6) (ex:=Ex.exit (2:Nat)) (t':= [uu,uu,uu,uu,uu,uu,uu,uu,uu,uu,uu,uu,uu,uu,uu,uu,uu,uu,uu,uu,uu,uu,uu,uu,uu,uu,uu,uu,uu,uu,uu,uu,uu,uu,uu,uu,uu,uu,uu,uu,uu,uu,uu]) (s':= [.dead,.dead,.dead,.bz 0 2,.box (VG D.aJ cs),.dead]) mixed [tC (by ((try simp only [Vd,Vf,Vg,Vj,cf] at*);(try unfold cy at*);omega):(decide ((↑k:Int)<(↑m:Int)))=false),.cl cs (by first|exact dn rfl|exact OJ|exact dD OJ rfl|exact gY OJ rfl|exact eQ OJ)] (by kernel_rfl)).cast (by rfl) (by rfl)
theorem Fj (cs:List D) (OJ:∀c∈cs,c.clean=true) (es:List (Int×D)) (m k:Nat) (hm:m≤64) (Px:cs.length=m*2) (hk:k<m) (a b:Int) (hA:hH cs (k*2) 2 [.int .i8 a,.int .i8 b]) (O0:(a==b)=false) (hl:dR es a=none):ao Tryz.prog (aI Tryz.f66 1) ⟨[2,3],[3,1000004],[]⟩ 6 [uu,uu,uu,uu,D.bp (5:Nat),uu,uu,uu,uu,uu,uu,uu,uu,uu,uu,uu,uu,uu,uu,uu,uu,uu,uu,.bR 4 2 m,.int .i64 (↑m:Int),.int .i64 (↑k:Int),uu,uu,uu,uu,uu,uu,uu,uu,uu,uu,uu,uu,uu,uu,uu,uu,uu] [.dead,.dead,.dead,.bz 0 2,.box cs,Ob.mp WO.i8 es] (Ex.ret) [uu,uu,.int .i64 (↑k:Int),.bool true,uu,uu,uu,uu,uu,uu,uu,uu,uu,uu,uu,uu,uu,uu,uu,uu,uu,uu,uu,uu,uu,uu,uu,uu,uu,uu,uu,uu,uu,uu,uu,uu,uu,uu,uu,uu,uu,uu,uu] ([.dead,.dead,.dead,.bz 0 2,.box (VG D.aJ cs),.dead]):=by
 exact (ao.aw (sp:=⟨[2,3],[3,1000004],[]⟩) (n0:=6) (ex:=Ex.ret) (t':= [uu,uu,.int .i64 (↑k:Int),.bool true,uu,uu,uu,uu,uu,uu,uu,uu,uu,uu,uu,uu,uu,uu,uu,uu,uu,uu,uu,uu,uu,uu,uu,uu,uu,uu,uu,uu,uu,uu,uu,uu,uu,uu,uu,uu,uu,uu,uu]) (s':= [.dead,.dead,.dead,.bz 0 2,.box (VG D.aJ cs),.dead]) mixed [tC (by ((try simp only [Vd,Vf,Vg,Vj,cf] at*);(try unfold cy at*);omega):(decide ((↑k:Int)<(↑m:Int)))=true),.cH (decide (0≤(↑k:Int)∧(↑k:Int)<(↑m:Int))) true (by ((try simp only [Vd,Vf,Vg,Vj,cf] at*);(try unfold cy at*);omega)),.bV _ _ _ _ (@iT cs (VB (↑k:Int)*(2:Nat)) ((2:Nat)) _ hA),tC O0,.e9 _ _ _ hl,tT,.cl cs (by first|exact dn rfl|exact OJ|exact dD OJ rfl|exact gY OJ rfl|exact eQ OJ)] (by kernel_rfl)).cast (by rfl) (by rfl)
theorem Hf (cs:List D) (OJ:∀c∈cs,c.clean=true) (es:List (Int×D)) (m k:Nat) (hm:m≤64) (Px:cs.length=m*2) (hk:k<m) (a b:Int) (hA:hH cs (k*2) 2 [.int .i8 a,.int .i8 b]) (O0:(a==b)=false) (c:Int) (hl:dR es a=some (.int .i64 c)) (hc:(c==0)=false):ao Tryz.prog (aI Tryz.f66 1) ⟨[4,23,24,25],[3,5,1000004],[]⟩ 6 [uu,uu,uu,uu,D.bp (5:Nat),uu,uu,uu,uu,uu,uu,uu,uu,uu,uu,uu,uu,uu,uu,uu,uu,uu,uu,.bR 4 2 m,.int .i64 (↑m:Int),.int .i64 (↑k:Int),uu,uu,uu,uu,uu,uu,uu,uu,uu,uu,uu,uu,uu,uu,uu,uu,uu] [.dead,.dead,.dead,.bz 0 2,.box cs,Ob.mp WO.i8 es] .norm [uu,uu,uu,uu,D.bp (5:Nat),uu,uu,uu,uu,uu,uu,uu,uu,uu,uu,uu,uu,uu,uu,uu,uu,uu,uu,.bR 4 2 m,.int .i64 (↑m:Int),.int .i64 (WO.i64.wrap ((↑k:Int)+1)),uu,uu,uu,uu,uu,uu,uu,uu,uu,uu,uu,uu,uu,uu,uu,uu,uu] ([.dead,.dead,.dead,.bz 0 2,.box (VG D.aJ cs),Ob.mp WO.i8 es]):=by
 exact (ao.aw (sp:=⟨[4,23,24,25],[3,5,1000004],[]⟩) (n0:=6) (ex:=Ex.norm) (t':= [uu,uu,uu,uu,D.bp (5:Nat),uu,uu,uu,uu,uu,uu,uu,uu,uu,uu,uu,uu,uu,uu,uu,uu,uu,uu,.bR 4 2 m,.int .i64 (↑m:Int),.int .i64 (WO.i64.wrap ((↑k:Int)+1)),uu,uu,uu,uu,uu,uu,uu,uu,uu,uu,uu,uu,uu,uu,uu,uu,uu]) (s':= [.dead,.dead,.dead,.bz 0 2,.box (VG D.aJ cs),Ob.mp WO.i8 es]) mixed [tC (by ((try simp only [Vd,Vf,Vg,Vj,cf] at*);(try unfold cy at*);omega):(decide ((↑k:Int)<(↑m:Int)))=true),.cH (decide (0≤(↑k:Int)∧(↑k:Int)<(↑m:Int))) true (by ((try simp only [Vd,Vf,Vg,Vj,cf] at*);(try unfold cy at*);omega)),.bV _ _ _ _ (@iT cs (VB (↑k:Int)*(2:Nat)) ((2:Nat)) _ hA),tC O0,.e9 _ _ _ hl,tC hc,.cl cs (by first|exact dn rfl|exact OJ|exact dD OJ rfl|exact gY OJ rfl|exact eQ OJ)] (by kernel_rfl)).cast (by rfl) (by rfl)
theorem Hi (l:List D) (m k:Nat) (sc:Int) (es:List (List D×D)) (h:m≤k):ao Tryz.prog (aI Tryz.f47 0) ⟨[1,4,6],[],[]⟩ 2 ((uu)::(.int .i8 sc)::(uu)::(uu)::(.aj .tight 0 [])::(uu)::(.aj .tight 0 [])::(D.bp (1:Nat))::(un 16++(.aj .no 2 l)::(.int .i64 (↑m:Int))::(.int .i64 (↑k:Int))::(un 74))) [.dead,Ob.mf [LK.int WO.i8,LK.int WO.i8] es] (.exit 1) ((uu)::(.int .i8 sc)::(uu)::(uu)::(.aj .tight 0 [])::(uu)::(.aj .tight 0 [])::(un 94)) ([.dead,.dead]):=by
 exact (ao.aw (sp:=⟨[1,4,6],[],[]⟩) (n0:=2) (ex:=Ex.exit (1:Nat)) (t':=((uu)::(.int .i8 sc)::(uu)::(uu)::(.aj .tight 0 [])::(uu)::(.aj .tight 0 [])::(un 94))) (s':= [.dead,.dead]) mixed [tC (by ((try simp only [Vd,Vf,Vg,Vj,cf] at*);(try unfold cy at*);omega):(decide ((↑k:Int)<(↑m:Int)))=false)] (by kernel_rfl)).cast (by rfl) (by rfl)
theorem zw (l:List D) (m k:Nat) (sc:Int) (es:List (List D×D)) (hk:k<m) (a b:Int) (hx:l[k]? =some (.agg [.int .i8 a,.int .i8 b])) (hm:m≤64) (he:(a==b)=true):ao Tryz.prog (aI Tryz.f47 0) ⟨[1,4,6,7,24,25,26],[1],[]⟩ 2 ((uu)::(.int .i8 sc)::(uu)::(uu)::(.aj .tight 0 [])::(uu)::(.aj .tight 0 [])::(D.bp (1:Nat))::(un 16++(.aj .no 2 l)::(.int .i64 (↑m:Int))::(.int .i64 (↑k:Int))::(un 74))) [.dead,Ob.mf [LK.int WO.i8,LK.int WO.i8] es] .norm ((uu)::(.int .i8 sc)::(uu)::(uu)::(.aj .tight 0 [])::(uu)::(.aj .tight 0 [])::(D.bp (1:Nat))::(un 16++(.aj .no 2 l)::(.int .i64 (↑m:Int))::(.int .i64 (WO.i64.wrap ((↑k:Int)+1)))::(un 74))) ([.dead,.mf [.int .i8,.int .i8] (gw es [.int .i8 a,.int .i8 b] (.bool (a==b)))]):=by
 exact (ao.aw (sp:=⟨[1,4,6,7,24,25,26],[1],[]⟩) (n0:=2) (ex:=Ex.norm) (t':=((uu)::(.int .i8 sc)::(uu)::(uu)::(.aj .tight 0 [])::(uu)::(.aj .tight 0 [])::(D.bp (1:Nat))::(un 16++(.aj .no 2 l)::(.int .i64 (↑m:Int))::(.int .i64 (WO.i64.wrap ((↑k:Int)+1)))::(un 74)))) (s':= [.dead,Ob.mf [LK.int WO.i8,LK.int WO.i8] (gw es [.int .i8 a,.int .i8 b] (bB ((uu)::(.int .i8 sc)::(uu)::(uu)::(.aj .tight 0 [])::(uu)::(.aj .tight 0 [])::(D.bp (1:Nat))::(uu)::(.ptr false (Vt [.dead,Ob.mf [LK.int WO.i8,LK.int WO.i8] es]) (0:Nat))::(un 14++(.aj .no 2 l)::(.int .i64 (↑m:Int))::(.int .i64 (↑k:Int))::(.bool (decide ((↑k:Int)<(↑m:Int))))::(D.cT false (.agg [.int .i8 a,.int .i8 b]) (0:Nat))::(.agg [.int .i8 a,.int .i8 b])::(D.bp (1:Nat))::(.agg [.int .i8 a,.int .i8 b])::(.ptr (false|| !isConst (WN (WD WO.i64 0))) (Vt [.dead,Ob.mf [LK.int WO.i8,LK.int WO.i8] es]) ((0:Nat)+VB 0*Wc Tryz.prog (23:Nat)))::(.int .i8 a)::(.ptr (false|| !isConst (WN (WD WO.i64 1))) (Vt [.dead,Ob.mf [LK.int WO.i8,LK.int WO.i8] es]) ((0:Nat)+VB 1*Wc Tryz.prog (23:Nat)))::(.int .i8 b)::(.bool (a==b))::(un 64))) (WC (36:Nat))))]) mixed [tC (by ((try simp only [Vd,Vf,Vg,Vj,cf] at*);(try unfold cy at*);omega):(decide ((↑k:Int)<(↑m:Int)))=true),tT,.get _ _ _ hx,.ot _ _ fM,.raw,.ot _ _ fM,.rf _ _ _ (@iQ es a b (bB ((uu)::(.int .i8 sc)::(uu)::(uu)::(.aj .tight 0 [])::(uu)::(.aj .tight 0 [])::(D.bp (1:Nat))::(uu)::(.ptr false 2 0)::(un 14++(.aj .no 2 l)::(.int .i64 (↑m:Int))::(.int .i64 (↑k:Int))::(.bool (decide ((↑k:Int)<(↑m:Int))))::(D.cT false (.agg [.int .i8 a,.int .i8 b]) (0:Nat))::(.agg [.int .i8 a,.int .i8 b])::(D.bp (1:Nat))::(.agg [.int .i8 a,.int .i8 b])::(.ptr false 2 0)::(.int .i8 a)::(.ptr false 2 1)::(.int .i8 b)::(.bool (a==b))::(un 64))) (WC (36:Nat)))),tC (nt he)] (by kernel_rfl)).cast (by rfl) (by rfl)
theorem CW (l:List D) (m k:Nat) (sc:Int) (es:List (List D×D)) (hk:k<m) (a b:Int) (hx:l[k]? =some (.agg [.int .i8 a,.int .i8 b])) (hm:m≤64) (he:(a==b)=false):ao Tryz.prog (aI Tryz.f47 0) ⟨[1,4,7,24,25,26],[1],[(6,2)]⟩ 2 ((uu)::(.int .i8 sc)::(uu)::(uu)::(.aj .tight 0 [])::(uu)::(.aj .tight 0 [])::(D.bp (1:Nat))::(un 16++(.aj .no 2 l)::(.int .i64 (↑m:Int))::(.int .i64 (↑k:Int))::(un 74))) [.dead,Ob.mf [LK.int WO.i8,LK.int WO.i8] es] .norm ((uu)::(.int .i8 sc)::(uu)::(uu)::(.aj .tight 0 [])::(uu)::(.bR 2 2 1)::(D.bp (1:Nat))::(un 16++(.aj .no 2 l)::(.int .i64 (↑m:Int))::(.int .i64 (WO.i64.wrap ((↑k:Int)+1)))::(un 74))) ([.dead,.mf [.int .i8,.int .i8] (gw es [.int .i8 a,.int .i8 b] (.bool (a==b))),.box [.int .i8 a,.int .i8 b]]):=by
 exact (ao.aw (sp:=⟨[1,4,7,24,25,26],[1],[(6,2)]⟩) (n0:=2) (ex:=Ex.norm) (t':=((uu)::(.int .i8 sc)::(uu)::(uu)::(.aj .tight 0 [])::(uu)::(.bR 2 2 1)::(D.bp (1:Nat))::(un 16++(.aj .no 2 l)::(.int .i64 (↑m:Int))::(.int .i64 (WO.i64.wrap ((↑k:Int)+1)))::(un 74)))) (s':= [.dead,Ob.mf [LK.int WO.i8,LK.int WO.i8] (gw es [.int .i8 a,.int .i8 b] (bB ((uu)::(.int .i8 sc)::(uu)::(uu)::(.aj .tight 0 [])::(uu)::(.aj .tight 0 [])::(D.bp (1:Nat))::(uu)::(.ptr false (Vt [.dead,Ob.mf [LK.int WO.i8,LK.int WO.i8] es]) (0:Nat))::(un 14++(.aj .no 2 l)::(.int .i64 (↑m:Int))::(.int .i64 (↑k:Int))::(.bool (decide ((↑k:Int)<(↑m:Int))))::(D.cT false (.agg [.int .i8 a,.int .i8 b]) (0:Nat))::(.agg [.int .i8 a,.int .i8 b])::(D.bp (1:Nat))::(.agg [.int .i8 a,.int .i8 b])::(.ptr (false|| !isConst (WN (WD WO.i64 0))) (Vt [.dead,Ob.mf [LK.int WO.i8,LK.int WO.i8] es]) ((0:Nat)+VB 0*Wc Tryz.prog (23:Nat)))::(.int .i8 a)::(.ptr (false|| !isConst (WN (WD WO.i64 1))) (Vt [.dead,Ob.mf [LK.int WO.i8,LK.int WO.i8] es]) ((0:Nat)+VB 1*Wc Tryz.prog (23:Nat)))::(.int .i8 b)::(.bool (a==b))::(un 64))) (WC (36:Nat)))),.box [.int .i8 a,.int .i8 b]]) mixed [tC (by ((try simp only [Vd,Vf,Vg,Vj,cf] at*);(try unfold cy at*);omega):(decide ((↑k:Int)<(↑m:Int)))=true),tT,.get _ _ _ hx,.ot _ _ fM,.raw,.ot _ _ fM,.rf _ _ _ (@iQ es a b (bB ((uu)::(.int .i8 sc)::(uu)::(uu)::(.aj .tight 0 [])::(uu)::(.aj .tight 0 [])::(D.bp (1:Nat))::(uu)::(.ptr false 2 0)::(un 14++(.aj .no 2 l)::(.int .i64 (↑m:Int))::(.int .i64 (↑k:Int))::(.bool (decide ((↑k:Int)<(↑m:Int))))::(D.cT false (.agg [.int .i8 a,.int .i8 b]) (0:Nat))::(.agg [.int .i8 a,.int .i8 b])::(D.bp (1:Nat))::(.agg [.int .i8 a,.int .i8 b])::(.ptr false 2 0)::(.int .i8 a)::(.ptr false 2 1)::(.int .i8 b)::(.bool (a==b))::(un 64))) (WC (36:Nat)))),tC (nt he),.go 0,.len 1 2147483648 (by decide),.cl ([.int .i8 a,.int .i8 b]) (by exact dn rfl)] (by kernel_rfl)).cast (by rfl) (by rfl)
theorem Hh (l:List D) (m k:Nat) (sc:Int) (es:List (List D×D)) (cs:List D) (OJ:∀c∈cs,c.clean=true) (q:Nat) (hq:cs.length=q*2) (q1:q≤64) (h:m≤k):ao Tryz.prog (aI Tryz.f47 0) ⟨[1,4],[],[(6,2)]⟩ 2 ((uu)::(.int .i8 sc)::(uu)::(uu)::(.aj .tight 0 [])::(uu)::(.bR 2 2 q)::(D.bp (1:Nat))::(un 16++(.aj .no 2 l)::(.int .i64 (↑m:Int))::(.int .i64 (↑k:Int))::(un 74))) [.dead,Ob.mf [LK.int WO.i8,LK.int WO.i8] es,.box cs] (.exit 1) ((uu)::(.int .i8 sc)::(uu)::(uu)::(.aj .tight 0 [])::(uu)::(.bR 2 2 q)::(un 94)) ([.dead,.dead,.box (VG D.aJ cs)]):=by
 exact (ao.aw (sp:=⟨[1,4],[],[(6,2)]⟩) (n0:=2) (ex:=Ex.exit (1:Nat)) (t':=((uu)::(.int .i8 sc)::(uu)::(uu)::(.aj .tight 0 [])::(uu)::(.bR 2 2 q)::(un 94))) (s':= [.dead,.dead,.box (VG D.aJ cs)]) mixed [tC (by ((try simp only [Vd,Vf,Vg,Vj,cf] at*);(try unfold cy at*);omega):(decide ((↑k:Int)<(↑m:Int)))=false),.cl cs (by first|exact dn rfl|exact OJ|exact dD OJ rfl|exact gY OJ rfl|exact eQ OJ)] (by kernel_rfl)).cast (by rfl) (by rfl)
theorem Fp (l:List D) (m k:Nat) (sc:Int) (es:List (List D×D)) (cs:List D) (OJ:∀c∈cs,c.clean=true) (q:Nat) (hq:cs.length=q*2) (q1:q≤64) (hk:k<m) (a b:Int) (hx:l[k]? =some (.agg [.int .i8 a,.int .i8 b])) (hm:m≤64) (he:(a==b)=true):ao Tryz.prog (aI Tryz.f47 0) ⟨[1,4,7,24,25,26],[1],[(6,2)]⟩ 2 ((uu)::(.int .i8 sc)::(uu)::(uu)::(.aj .tight 0 [])::(uu)::(.bR 2 2 q)::(D.bp (1:Nat))::(un 16++(.aj .no 2 l)::(.int .i64 (↑m:Int))::(.int .i64 (↑k:Int))::(un 74))) [.dead,Ob.mf [LK.int WO.i8,LK.int WO.i8] es,.box cs] .norm ((uu)::(.int .i8 sc)::(uu)::(uu)::(.aj .tight 0 [])::(uu)::(.bR 2 2 q)::(D.bp (1:Nat))::(un 16++(.aj .no 2 l)::(.int .i64 (↑m:Int))::(.int .i64 (WO.i64.wrap ((↑k:Int)+1)))::(un 74))) ([.dead,.mf [.int .i8,.int .i8] (gw es [.int .i8 a,.int .i8 b] (.bool (a==b))),.box (VG D.aJ cs)]):=by
 exact (ao.aw (sp:=⟨[1,4,7,24,25,26],[1],[(6,2)]⟩) (n0:=2) (ex:=Ex.norm) (t':=((uu)::(.int .i8 sc)::(uu)::(uu)::(.aj .tight 0 [])::(uu)::(.bR 2 2 q)::(D.bp (1:Nat))::(un 16++(.aj .no 2 l)::(.int .i64 (↑m:Int))::(.int .i64 (WO.i64.wrap ((↑k:Int)+1)))::(un 74)))) (s':= [.dead,Ob.mf [LK.int WO.i8,LK.int WO.i8] (gw es [.int .i8 a,.int .i8 b] (bB ((uu)::(.int .i8 sc)::(uu)::(uu)::(.aj .tight 0 [])::(uu)::(.bR 2 2 q)::(D.bp (1:Nat))::(uu)::(.ptr false (Vt [.dead,Ob.mf [LK.int WO.i8,LK.int WO.i8] es,.box cs]) (0:Nat))::(un 14++(.aj .no 2 l)::(.int .i64 (↑m:Int))::(.int .i64 (↑k:Int))::(.bool (decide ((↑k:Int)<(↑m:Int))))::(D.cT false (.agg [.int .i8 a,.int .i8 b]) (0:Nat))::(.agg [.int .i8 a,.int .i8 b])::(D.bp (1:Nat))::(.agg [.int .i8 a,.int .i8 b])::(.ptr (false|| !isConst (WN (WD WO.i64 0))) (Vt [.dead,Ob.mf [LK.int WO.i8,LK.int WO.i8] es,.box cs]) ((0:Nat)+VB 0*Wc Tryz.prog (23:Nat)))::(.int .i8 a)::(.ptr (false|| !isConst (WN (WD WO.i64 1))) (Vt [.dead,Ob.mf [LK.int WO.i8,LK.int WO.i8] es,.box cs]) ((0:Nat)+VB 1*Wc Tryz.prog (23:Nat)))::(.int .i8 b)::(.bool (a==b))::(un 64))) (WC (36:Nat)))),.box (VG D.aJ cs)]) mixed [tC (by ((try simp only [Vd,Vf,Vg,Vj,cf] at*);(try unfold cy at*);omega):(decide ((↑k:Int)<(↑m:Int)))=true),tT,.get _ _ _ hx,.ot _ _ fM,.raw,.ot _ _ fM,.rf _ _ _ (@iQ es a b (bB ((uu)::(.int .i8 sc)::(uu)::(uu)::(.aj .tight 0 [])::(uu)::(.bR 2 2 q)::(D.bp (1:Nat))::(uu)::(.ptr false 3 0)::(un 14++(.aj .no 2 l)::(.int .i64 (↑m:Int))::(.int .i64 (↑k:Int))::(.bool (decide ((↑k:Int)<(↑m:Int))))::(D.cT false (.agg [.int .i8 a,.int .i8 b]) (0:Nat))::(.agg [.int .i8 a,.int .i8 b])::(D.bp (1:Nat))::(.agg [.int .i8 a,.int .i8 b])::(.ptr false 3 0)::(.int .i8 a)::(.ptr false 3 1)::(.int .i8 b)::(.bool (a==b))::(un 64))) (WC (36:Nat)))),tC (nt he),.cl cs (by first|exact dn rfl|exact OJ|exact dD OJ rfl|exact gY OJ rfl|exact eQ OJ)] (by kernel_rfl)).cast (by rfl) (by rfl)
theorem Hg (l:List D) (m k:Nat) (sc:Int) (es:List (List D×D)) (cs:List D) (OJ:∀c∈cs,c.clean=true) (q:Nat) (hq:cs.length=q*2) (q1:q≤64) (hk:k<m) (a b:Int) (hx:l[k]? =some (.agg [.int .i8 a,.int .i8 b])) (hm:m≤64) (he:(a==b)=false):ao Tryz.prog (aI Tryz.f47 0) ⟨[1,4,7,24,25,26],[1],[(6,2)]⟩ 2 ((uu)::(.int .i8 sc)::(uu)::(uu)::(.aj .tight 0 [])::(uu)::(.bR 2 2 q)::(D.bp (1:Nat))::(un 16++(.aj .no 2 l)::(.int .i64 (↑m:Int))::(.int .i64 (↑k:Int))::(un 74))) [.dead,Ob.mf [LK.int WO.i8,LK.int WO.i8] es,.box cs] .norm ((uu)::(.int .i8 sc)::(uu)::(uu)::(.aj .tight 0 [])::(uu)::(.bR 2 2 (q+(1:Nat)))::(D.bp (1:Nat))::(un 16++(.aj .no 2 l)::(.int .i64 (↑m:Int))::(.int .i64 (WO.i64.wrap ((↑k:Int)+1)))::(un 74))) ([.dead,.mf [.int .i8,.int .i8] (gw es [.int .i8 a,.int .i8 b] (.bool (a==b))),.box (VG D.aJ (cs++ [.int .i8 a,.int .i8 b]))]):=by
 exact (ao.aw (sp:=⟨[1,4,7,24,25,26],[1],[(6,2)]⟩) (n0:=2) (ex:=Ex.norm) (t':=((uu)::(.int .i8 sc)::(uu)::(uu)::(.aj .tight 0 [])::(uu)::(.bR 2 2 (q+(1:Nat)))::(D.bp (1:Nat))::(un 16++(.aj .no 2 l)::(.int .i64 (↑m:Int))::(.int .i64 (WO.i64.wrap ((↑k:Int)+1)))::(un 74)))) (s':= [.dead,Ob.mf [LK.int WO.i8,LK.int WO.i8] (gw es [.int .i8 a,.int .i8 b] (bB ((uu)::(.int .i8 sc)::(uu)::(uu)::(.aj .tight 0 [])::(uu)::(.bR 2 2 q)::(D.bp (1:Nat))::(uu)::(.ptr false (Vt [.dead,Ob.mf [LK.int WO.i8,LK.int WO.i8] es,.box cs]) (0:Nat))::(un 14++(.aj .no 2 l)::(.int .i64 (↑m:Int))::(.int .i64 (↑k:Int))::(.bool (decide ((↑k:Int)<(↑m:Int))))::(D.cT false (.agg [.int .i8 a,.int .i8 b]) (0:Nat))::(.agg [.int .i8 a,.int .i8 b])::(D.bp (1:Nat))::(.agg [.int .i8 a,.int .i8 b])::(.ptr (false|| !isConst (WN (WD WO.i64 0))) (Vt [.dead,Ob.mf [LK.int WO.i8,LK.int WO.i8] es,.box cs]) ((0:Nat)+VB 0*Wc Tryz.prog (23:Nat)))::(.int .i8 a)::(.ptr (false|| !isConst (WN (WD WO.i64 1))) (Vt [.dead,Ob.mf [LK.int WO.i8,LK.int WO.i8] es,.box cs]) ((0:Nat)+VB 1*Wc Tryz.prog (23:Nat)))::(.int .i8 b)::(.bool (a==b))::(un 64))) (WC (36:Nat)))),.box (VG D.aJ (cs++ [.int .i8 a,.int .i8 b]))]) mixed [tC (by ((try simp only [Vd,Vf,Vg,Vj,cf] at*);(try unfold cy at*);omega):(decide ((↑k:Int)<(↑m:Int)))=true),tT,.get _ _ _ hx,.ot _ _ fM,.raw,.ot _ _ fM,.rf _ _ _ (@iQ es a b (bB ((uu)::(.int .i8 sc)::(uu)::(uu)::(.aj .tight 0 [])::(uu)::(.bR 2 2 q)::(D.bp (1:Nat))::(uu)::(.ptr false 3 0)::(un 14++(.aj .no 2 l)::(.int .i64 (↑m:Int))::(.int .i64 (↑k:Int))::(.bool (decide ((↑k:Int)<(↑m:Int))))::(D.cT false (.agg [.int .i8 a,.int .i8 b]) (0:Nat))::(.agg [.int .i8 a,.int .i8 b])::(D.bp (1:Nat))::(.agg [.int .i8 a,.int .i8 b])::(.ptr false 3 0)::(.int .i8 a)::(.ptr false 3 1)::(.int .i8 b)::(.bool (a==b))::(un 64))) (WC (36:Nat)))),tC (nt he),.len (q+(1:Nat)) ((2147483648:Nat)) (by first|decide|omega|(simp;omega)),tC (v:=true) (@Ep cs q hq),.cl (cs++ [.int .i8 a,.int .i8 b]) (by first|exact dn rfl|exact OJ|exact dD OJ rfl|exact gY OJ rfl|exact eQ OJ)] (by kernel_rfl)).cast (by rfl) (by rfl)
theorem G8 (cs outs:List D) (OJ:∀c∈cs,c.clean=true) (sc f:Int) (m k:Nat) (hm:m≤64) (Px:cs.length=m*2) (h:m≤k):ao Tryz.prog (aI Tryz.f47 2) ⟨[1,4,6],[3,1000004],[]⟩ 6 ((uu)::(.int .i8 sc)::(uu)::(uu)::(.aj (.tok 3 1) 2 outs)::(uu)::(.bR 4 2 m)::(un 5++(.int .i8 f)::(un 54++(.int .i64 (↑m:Int))::(.int .i64 (↑k:Int))::(un 32)))) [.dead,.dead,.dead,.bz 1 2,.box cs,.dead] (.exit 5) ((uu)::(.int .i8 sc)::(uu)::(uu)::(.aj (.tok 3 1) 2 outs)::(uu)::(.bR 4 2 m)::(un 94)) ([.dead,.dead,.dead,.bz 1 2,.box (VG D.aJ cs),.dead]):=by
 exact (ao.aw (sp:=⟨[1,4,6],[3,1000004],[]⟩) (n0:=6) (ex:=Ex.exit (5:Nat)) (t':=((uu)::(.int .i8 sc)::(uu)::(uu)::(.aj (.tok 3 1) 2 outs)::(uu)::(.bR 4 2 m)::(un 94))) (s':= [.dead,.dead,.dead,.bz 1 2,.box (VG D.aJ cs),.dead]) mixed [tC (by ((try simp only [Vd,Vf,Vg,Vj,cf] at*);(try unfold cy at*);omega):(decide ((↑k:Int)<(↑m:Int)))=false),.cl cs (by first|exact dn rfl|exact OJ|exact dD OJ rfl|exact gY OJ rfl|exact eQ OJ)] (by kernel_rfl)).cast (by rfl) (by rfl)
theorem Ix (cs outs:List D) (OJ:∀c∈cs,c.clean=true) (sc f:Int) (m k:Nat) (hm:m≤64) (Px:cs.length=m*2) (hk:k<m) (b:Int) (hb:cs[k*2+1]? =some (.int .i8 b)) (he:(b==f)=true):ao Tryz.prog (aI Tryz.f47 2) ⟨[1,4,6,12,67,68],[3,1000004],[]⟩ 6 ((uu)::(.int .i8 sc)::(uu)::(uu)::(.aj (.tok 3 1) 2 outs)::(uu)::(.bR 4 2 m)::(un 5++(.int .i8 f)::(un 54++(.int .i64 (↑m:Int))::(.int .i64 (↑k:Int))::(un 32)))) [.dead,.dead,.dead,.bz 1 2,.box cs,.dead] .norm ((uu)::(.int .i8 sc)::(uu)::(uu)::(.aj (.tok 3 1) 2 outs)::(uu)::(.bR 4 2 m)::(un 5++(.int .i8 f)::(un 54++(.int .i64 (↑m:Int))::(.int .i64 (WO.i64.wrap ((↑k:Int)+1)))::(un 32)))) ([.dead,.dead,.dead,.bz 1 2,.box (VG D.aJ (List.set cs (VB (↑k:Int)*(2:Nat)+(1:Nat)) (.int .i8 sc))),.dead]):=by
 exact (ao.aw (sp:=⟨[1,4,6,12,67,68],[3,1000004],[]⟩) (n0:=6) (ex:=Ex.norm) (t':=((uu)::(.int .i8 sc)::(uu)::(uu)::(.aj (.tok 3 1) 2 outs)::(uu)::(.bR 4 2 m)::(un 5++(.int .i8 f)::(un 54++(.int .i64 (↑m:Int))::(.int .i64 (WO.i64.wrap ((↑k:Int)+1)))::(un 32))))) (s':= [.dead,.dead,.dead,.bz 1 2,.box (VG D.aJ (List.set cs (VB (↑k:Int)*(2:Nat)+(1:Nat)) (.int .i8 sc))),.dead]) mixed [tC (by ((try simp only [Vd,Vf,Vg,Vj,cf] at*);(try unfold cy at*);omega):(decide ((↑k:Int)<(↑m:Int)))=true),.cH (decide (0≤(↑k:Int)∧(↑k:Int)<(↑m:Int))) true (by ((try simp only [Vd,Vf,Vg,Vj,cf] at*);(try unfold cy at*);omega)),.get _ _ _ hb,tC he,.cH (decide (0≤(↑k:Int)∧(↑k:Int)<(↑m:Int))) true (by ((try simp only [Vd,Vf,Vg,Vj,cf] at*);(try unfold cy at*);omega)),.fK _ _ _ _ (@sJ cs (VB (↑k:Int)*(2:Nat)+(1:Nat)) (.int .i8 sc) (by ((try simp only [Vd,Vf,Vg,Vj,cf] at*);(try unfold cy at*);omega))),.raw,.cl (List.set cs (VB (↑k:Int)*(2:Nat)+(1:Nat)) (.int .i8 sc)) (by first|exact dn rfl|exact OJ|exact dD OJ rfl|exact gY OJ rfl|exact eQ OJ)] (by kernel_rfl)).cast (by rfl) (by rfl)
theorem GD (cs outs:List D) (OJ:∀c∈cs,c.clean=true) (sc f:Int) (m k:Nat) (hm:m≤64) (Px:cs.length=m*2) (hk:k<m) (b:Int) (hb:cs[k*2+1]? =some (.int .i8 b)) (he:(b==f)=false):ao Tryz.prog (aI Tryz.f47 2) ⟨[1,4,6,12,67,68],[3,1000004],[]⟩ 6 ((uu)::(.int .i8 sc)::(uu)::(uu)::(.aj (.tok 3 1) 2 outs)::(uu)::(.bR 4 2 m)::(un 5++(.int .i8 f)::(un 54++(.int .i64 (↑m:Int))::(.int .i64 (↑k:Int))::(un 32)))) [.dead,.dead,.dead,.bz 1 2,.box cs,.dead] .norm ((uu)::(.int .i8 sc)::(uu)::(uu)::(.aj (.tok 3 1) 2 outs)::(uu)::(.bR 4 2 m)::(un 5++(.int .i8 f)::(un 54++(.int .i64 (↑m:Int))::(.int .i64 (WO.i64.wrap ((↑k:Int)+1)))::(un 32)))) ([.dead,.dead,.dead,.bz 1 2,.box (VG D.aJ cs),.dead]):=by
 exact (ao.aw (sp:=⟨[1,4,6,12,67,68],[3,1000004],[]⟩) (n0:=6) (ex:=Ex.norm) (t':=((uu)::(.int .i8 sc)::(uu)::(uu)::(.aj (.tok 3 1) 2 outs)::(uu)::(.bR 4 2 m)::(un 5++(.int .i8 f)::(un 54++(.int .i64 (↑m:Int))::(.int .i64 (WO.i64.wrap ((↑k:Int)+1)))::(un 32))))) (s':= [.dead,.dead,.dead,.bz 1 2,.box (VG D.aJ cs),.dead]) mixed [tC (by ((try simp only [Vd,Vf,Vg,Vj,cf] at*);(try unfold cy at*);omega):(decide ((↑k:Int)<(↑m:Int)))=true),.cH (decide (0≤(↑k:Int)∧(↑k:Int)<(↑m:Int))) true (by ((try simp only [Vd,Vf,Vg,Vj,cf] at*);(try unfold cy at*);omega)),.get _ _ _ hb,tC he,.cl cs (by first|exact dn rfl|exact OJ|exact dD OJ rfl|exact gY OJ rfl|exact eQ OJ)] (by kernel_rfl)).cast (by rfl) (by rfl)
theorem eM {l:List Mv} {k:Nat} (h:k<l.length):(eN l)[k]? =some (.agg [.int .i8 l[k].1,.int .i8 l[k].2]):=by simp [eN,h]
theorem mw (l:List Mv):(eN l).length=l.length:=by simp [eN]
theorem tY {k:Nat} (h:k≤1000):WO.i64.wrap ((k:Int)+1)=((k+1:Nat):Int):=by rw [aH];omega
abbrev Kh (l:List Mv) (k:Nat):List D:= [.undef,.undef,.undef,.bp 0,.undef,.undef,.undef,.aj .no 2 (eN l),.int .i64 (l.length:Int),.int .i64 (k:Int),.undef,.undef,.undef,.undef,.undef,.undef,.undef,.undef,.undef,.undef,.undef,.undef,.undef,.undef,.undef,.undef,.undef,.undef,.undef,.undef,.undef,.undef,.undef,.undef,.undef,.undef]
abbrev L8:List D:= [.undef,.undef,.bool false,.undef,.undef,.undef,.undef,.undef,.undef,.undef,.undef,.undef,.undef,.undef,.undef,.undef,.undef,.undef,.undef,.undef,.undef,.undef,.undef,.undef,.undef,.undef,.undef,.undef,.undef,.undef,.undef,.undef,.undef,.undef,.undef,.undef]
abbrev L9:List D:= [.undef,.undef,.undef,.undef,.undef,.undef,.undef,.undef,.undef,.undef,.undef,.undef,.undef,.undef,.undef,.undef,.undef,.undef,.undef,.undef,.undef,.undef,.undef,.undef,.undef,.undef,.undef,.undef,.undef,.undef,.undef,.undef,.undef,.undef,.undef,.undef]
theorem Ds (l:List Mv) (OW:l.length≤64):∀(n k:Nat) (seen:List Int),k+n=l.length→wN seen (l.drop k)=true→
  aF Tryz.prog (aI Tryz.f96 0) 1 (Kh l k) [.mp .i8 (kq seen)] (.exit 0) L9 [.dead]
 |0,k,seen,hk,_=>aF.last (Hw (eN l) _ _ _ (by omega)) (fun h=>by cases h)
 |n+1,k,seen,hk,h=>by
  have OK:k<l.length:=by omega
  rw [VZ OK,wN] at h
  simp only [Vi,Vm] at h
  obtain ⟨h1,h2,h3,h4⟩:=h
  have:=GO (eN l) l.length k (kq seen) OK l[k].1 l[k].2 (eM OK) OW (by rw [jF,if_neg (by rw [h1];simp)]) h2 h3
  rw [tY (by omega)] at this
  exact aF.cG this (Ds l OW n (k+1) (l[k].1::seen) (by omega) h4)
theorem GP (l:List Mv) (OW:l.length≤64):∀(n k:Nat) (seen:List Int),k+n=l.length→wN seen (l.drop k)=false→
  aF Tryz.prog (aI Tryz.f96 0) 1 (Kh l k) [.mp .i8 (kq seen)] .ret L8 [.dead]
 |0,k,seen,hk,h=>by
  obtain rfl:k=l.length:=by omega
  rw [WL] at h
  cases h
 |n+1,k,seen,hk,h=>by
  have OK:k<l.length:=by omega
  rw [VZ OK,wN] at h
  cases h1:seen.contains l[k].1 with
  |true=>exact aF.last (Hx (eN l) l.length k (kq seen) OK l[k].1 l[k].2 (eM OK) OW (by rw [jF,if_pos h1])) (fun h=>by cases h)
  |false=>
   have hl:dR (kq seen) l[k].1=none:=by rw [jF,if_neg (by rw [h1];simp)]
   cases h2:l9 l[k].1 with
   |false=>exact aF.last (KW (eN l) l.length k (kq seen) OK l[k].1 l[k].2 (eM OK) OW hl h2) (fun h=>by cases h)
   |true=>
    cases h3:l9 l[k].2 with
    |false=>exact aF.last (KV (eN l) l.length k (kq seen) OK l[k].1 l[k].2 (eM OK) OW hl h2 h3) (fun h=>by cases h)
    |true=>
     have:=GO (eN l) l.length k (kq seen) OK l[k].1 l[k].2 (eM OK) OW hl h2 h3
     rw [tY (by omega)] at this
     exact aF.cG this (GP l OW n (k+1) (l[k].1::seen) (by omega) (by rw [h1,h2,h3] at h;exact h))
abbrev FU (l:List Mv):List D:= [.undef,.undef,.undef,.bp 0,.undef,.undef,.undef,.aj .no 2 (eN l),.int .i64 ((eN l).length:Int),.int .i64 0,.undef,.undef,.undef,.undef,.undef,.undef,.undef,.undef,.undef,.undef,.undef,.undef,.undef,.undef,.undef,.undef,.undef,.undef,.undef,.undef,.undef,.undef,.undef,.undef,.undef,.undef]
theorem zJ (l:List Mv):FU l=Kh l 0:=by simp only [FU,Kh,mw];rfl
theorem FT (l:List Mv) (OW:l.length≤64) (h:wN [] l=true):aU Tryz.prog 1 (.loop (aI Tryz.f96 0)) (FU l) [.mp .i8 []] (.exit 0) L9 [.dead]:=by
 rw [zJ]
 exact aU.bA (Vq _) (Ds l OW l.length 0 [] (by omega) h)
theorem Hv (l:List Mv) (OW:l.length≤64) (h:wN [] l=false):aU Tryz.prog 1 (.loop (aI Tryz.f96 0)) (FU l) [.mp .i8 []] .ret L8 [.dead]:=by
 rw [zJ]
 exact aU.bA (Vq _) (GP l OW l.length 0 [] (by omega) h)
abbrev Ki (l:List Mv) (sc:Int) (k:Nat):List D:= [.aj .no 2 (eN l),.int .i8 sc,.undef,.undef,.undef,.undef,.undef,.aj .no 2 (eN l),.int .i64 (l.length:Int),.int .i64 (k:Int),.undef,.undef,.undef,.undef,.undef,.undef,.undef,.undef,.undef,.undef,.undef,.undef,.undef,.undef,.undef,.undef,.undef,.undef,.undef,.undef]
abbrev Mc (l:List Mv) (sc:Int):List D:= [.aj .no 2 (eN l),.int .i8 sc,.undef,.undef,.undef,.undef,.undef,.undef,.undef,.undef,.undef,.undef,.undef,.undef,.undef,.undef,.undef,.undef,.undef,.undef,.undef,.undef,.undef,.undef,.undef,.undef,.undef,.undef,.undef,.undef]
abbrev Mb:List D:= [.undef,.undef,.undef,.undef,.bool false,.undef,.undef,.undef,.undef,.undef,.undef,.undef,.undef,.undef,.undef,.undef,.undef,.undef,.undef,.undef,.undef,.undef,.undef,.undef,.undef,.undef,.undef,.undef,.undef,.undef]
theorem Dx (l:List Mv) (OW:l.length≤64) (sc:Int):∀(n k:Nat),k+n=l.length→ofM sc (l.drop k)=true→
  aF Tryz.prog (aI Tryz.f65 0) 0 (Ki l sc k) [] (.exit 0) (Mc l sc) []
 |0,k,hk,_=>aF.last (HA (eN l) _ _ _ (by omega)) (fun h=>by cases h)
 |n+1,k,hk,h=>by
  have OK:k<l.length:=by omega
  rw [VZ OK,ofM,List.all_cons] at h
  simp only [Vi,Vm] at h
  have:=GQ (eN l) l.length k sc OK l[k].1 l[k].2 (eM OK) OW h.1.1 h.1.2
  rw [tY (by omega)] at this
  exact aF.cG this (Dx l OW sc n (k+1) (by omega) h.2)
theorem GR (l:List Mv) (OW:l.length≤64) (sc:Int):∀(n k:Nat),k+n=l.length→ofM sc (l.drop k)=false→
  aF Tryz.prog (aI Tryz.f65 0) 0 (Ki l sc k) [] .ret Mb []
 |0,k,hk,h=>by
  obtain rfl:k=l.length:=by omega
  rw [WL] at h
  cases h
 |n+1,k,hk,h=>by
  have OK:k<l.length:=by omega
  rw [VZ OK,ofM,List.all_cons] at h
  cases h1:(l[k].1==sc) with
  |true=>exact aF.last (K0 (eN l) l.length k sc OK l[k].1 l[k].2 (eM OK) OW h1) (fun h=>by cases h)
  |false=>
   cases h2:(l[k].2==sc) with
   |true=>exact aF.last (KZ (eN l) l.length k sc OK l[k].1 l[k].2 (eM OK) OW h1 h2) (fun h=>by cases h)
   |false=>
    have:=GQ (eN l) l.length k sc OK l[k].1 l[k].2 (eM OK) OW h1 h2
    rw [tY (by omega)] at this
    exact aF.cG this (GR l OW sc n (k+1) (by omega) (by rw [h1,h2] at h;exact h))
abbrev FV (l:List Mv) (sc:Int):List D:= [.aj .no 2 (eN l),.int .i8 sc,.undef,.undef,.undef,.undef,.undef,.aj .no 2 (eN l),.int .i64 ((eN l).length:Int),.int .i64 0,.undef,.undef,.undef,.undef,.undef,.undef,.undef,.undef,.undef,.undef,.undef,.undef,.undef,.undef,.undef,.undef,.undef,.undef,.undef,.undef]
theorem zN (l:List Mv) (sc:Int):FV l sc=Ki l sc 0:=by simp only [FV,Ki,mw];rfl
theorem zM (l:List Mv) (OW:l.length≤64) (sc:Int) (h:ofM sc l=true):aU Tryz.prog 0 (.loop (aI Tryz.f65 0)) (FV l sc) [] (.exit 0) (Mc l sc) []:=by
 rw [zN]
 exact aU.bA (Vq _) (Dx l OW sc l.length 0 (by omega) h)
theorem Hz (l:List Mv) (OW:l.length≤64) (sc:Int) (h:ofM sc l=false):aU Tryz.prog 0 (.loop (aI Tryz.f65 0)) (FV l sc) [] .ret Mb []:=by
 rw [zN]
 exact aU.bA (Vq _) (GR l OW sc l.length 0 (by omega) h)
theorem qb (a:Int):∀l:List Int,fS l.reverse a=fS l a
 | []=>rfl
 |b::l=>by rw [List.reverse_cons,wq,qb a l,fS,fS,fS];omega
abbrev LR (l:List Mv) (k:Nat):List D:= [.bR 4 2 l.length,.undef,.undef,.undef,.bp 5,.undef,.undef,.undef,.undef,.undef,.undef,.bR 4 2 l.length,.int .i64 (l.length:Int),.int .i64 (k:Int),.undef,.undef,.undef,.undef,.undef,.undef,.undef,.undef,.undef,.undef,.undef,.undef,.undef,.undef,.undef,.undef,.undef,.undef,.undef,.undef,.undef,.undef,.undef,.undef,.undef,.undef,.undef,.undef,.undef]
abbrev LS (l:List Mv):List D:= [.bR 4 2 l.length,.undef,.undef,.undef,.bp 5,.undef,.undef,.undef,.undef,.undef,.undef,.undef,.undef,.undef,.undef,.undef,.undef,.undef,.undef,.undef,.undef,.undef,.undef,.undef,.undef,.undef,.undef,.undef,.undef,.undef,.undef,.undef,.undef,.undef,.undef,.undef,.undef,.undef,.undef,.undef,.undef,.undef,.undef]
abbrev IL (l:List Mv) (q:List Int):List Ob:= [.dead,.dead,.dead,.bz 0 2,.box (dU l),.mp .i8 (j6 q)]
theorem LU (l:List Mv) (OW:l.length≤64):∀(n k:Nat) (q:List Int),k+n=l.length→q.length≤k→
  aF Tryz.prog (aI Tryz.f66 0) 6 (LR l k) (IL l q) (.exit 0) (LS l) (IL l (((l.drop k).map Prod.snd).reverse++q))
 |0,k,q,hk,hq=>by
  obtain rfl:k=l.length:=by omega
  have:=Fo (dU l) (cm l) (j6 q) l.length l.length OW (ey l) (Vq _)
  rw [ca] at this
  rw [WL]
  exact aF.last this (fun h=>by cases h)
 |n+1,k,q,hk,hq=>by
  have OK:k<l.length:=by omega
  have ih:=LU l OW n (k+1) (l[k].2::q) (by omega) (by rw [Vf];omega)
  rw [VZ OK,WG,List.reverse_cons,Wa]
  have hle:=Ae l[k].2 q
  by_cases h0:fS q l[k].2=0
  ·have:=Fm (dU l) (cm l) (j6 q) l.length k OW (ey l) OK l[k].1 l[k].2 (ku OK) (by rw [ju,wu,if_pos h0])
   rw [tY (by omega),ca] at this
   have e:j6 (l[k].2::q)=fq (j6 q) l[k].2 (.int .i64 1):=by rw [j6,fS,if_pos rfl,h0];rfl
   rw [← e] at this
   exact aF.cG this ih
  ·have:=Fl (dU l) (cm l) (j6 q) l.length k OW (ey l) OK l[k].1 l[k].2 (ku OK) (fS q l[k].2) (by rw [ju,wu,if_neg h0])
   rw [tY (by omega),ca] at this
   have e:j6 (l[k].2::q)=fq (j6 q) l[k].2 (.int .i64 (WO.i64.wrap ((fS q l[k].2:Int)+1))):=by rw [j6,fS,if_pos rfl,tY (by omega),Nat.add_comm]
   rw [← e] at this
   exact aF.cG this ih
abbrev Kb (l:List Mv) (k:Nat):List D:= [.undef,.undef,.undef,.undef,.bp 5,.undef,.undef,.undef,.undef,.undef,.undef,.undef,.undef,.undef,.undef,.undef,.undef,.undef,.undef,.undef,.undef,.undef,.undef,.bR 4 2 l.length,.int .i64 (l.length:Int),.int .i64 (k:Int),.undef,.undef,.undef,.undef,.undef,.undef,.undef,.undef,.undef,.undef,.undef,.undef,.undef,.undef,.undef,.undef,.undef]
abbrev LP (k:Nat):List D:= [.undef,.undef,.int .i64 (k:Int),.bool true,.undef,.undef,.undef,.undef,.undef,.undef,.undef,.undef,.undef,.undef,.undef,.undef,.undef,.undef,.undef,.undef,.undef,.undef,.undef,.undef,.undef,.undef,.undef,.undef,.undef,.undef,.undef,.undef,.undef,.undef,.undef,.undef,.undef,.undef,.undef,.undef,.undef,.undef,.undef]
abbrev LQ:List D:= [.undef,.undef,.undef,.undef,.undef,.undef,.undef,.undef,.undef,.undef,.undef,.undef,.undef,.undef,.undef,.undef,.undef,.undef,.undef,.undef,.undef,.undef,.undef,.undef,.undef,.undef,.undef,.undef,.undef,.undef,.undef,.undef,.undef,.undef,.undef,.undef,.undef,.undef,.undef,.undef,.undef,.undef,.undef]
abbrev Kc (l:List Mv):List Ob:= [.dead,.dead,.dead,.bz 0 2,.box (dU l),.dead]
abbrev uw (l:List Mv):List Int:=(l.map Prod.snd).reverse
theorem KC (l:List Mv) (OW:l.length≤64) (O0:∀p∈l,p.1≠p.2):∀(n k:Nat),k+n=l.length→
  match fY l (l.drop k) k with
  |some j=>aF Tryz.prog (aI Tryz.f66 1) 6 (Kb l k) (IL l (uw l)) .ret (LP j) (Kc l)
  |none=>aF Tryz.prog (aI Tryz.f66 1) 6 (Kb l k) (IL l (uw l)) (.exit 2) LQ (Kc l)
 |0,k,hk=>by
  obtain rfl:k=l.length:=by omega
  rw [WL]
  have:=Fk (dU l) (cm l) (j6 (uw l)) l.length l.length OW (ey l) (Vq _)
  rw [ca] at this
  exact aF.last this (fun h=>by cases h)
 |n+1,k,hk=>by
  have OK:k<l.length:=by omega
  have ih:=KC l OW O0 n (k+1) (by omega)
  rw [VZ OK,fY]
  have hn:(l[k].1==l[k].2)=false:=by simpa using O0 l[k] (List.getElem_mem OK)
  by_cases h0:fS (l.map Prod.snd) l[k].1=0
  ·rw [if_pos h0]
   have:=Fj (dU l) (cm l) (j6 (uw l)) l.length k OW (ey l) OK l[k].1 l[k].2 (ku OK) hn (by rw [ju,wu,qb,if_pos h0])
   rw [ca] at this
   exact aF.last this (fun h=>by cases h)
  ·rw [if_neg h0]
   have:=Hf (dU l) (cm l) (j6 (uw l)) l.length k OW (ey l) OK l[k].1 l[k].2 (ku OK) hn (fS (l.map Prod.snd) l[k].1) (by rw [ju,wu,qb,if_neg h0]) (by rw [beq_eq_false_iff_ne];omega)
   rw [tY (by omega),ca] at this
   revert ih
   cases fY l (l.drop (k+1)) (k+1) with
   |some j=>exact fun ih=>aF.cG this ih
   |none=>exact fun ih=>aF.cG this ih
theorem IM (l:List Mv) (OW:l.length≤64):aU Tryz.prog 6 (.loop (aI Tryz.f66 0)) (LR l 0) [.dead,.dead,.dead,.bz 0 2,.box (VG D.aJ (dU l)),.mp .i8 []] (.exit 0) (LS l) (IL l (uw l)):=by
 have:=LU l OW l.length 0 [] (by omega) (Vq _)
 rw [Wu,Wb] at this
 rw [ca]
 exact aU.bA (Vq _) this
theorem KA (l:List Mv) (OW:l.length≤64) (O0:∀p∈l,p.1≠p.2) (j:Nat) (hj:fY l l 0=some j):aU Tryz.prog 6 (.loop (aI Tryz.f66 1)) (Kb l 0) [.dead,.dead,.dead,.bz 0 2,.box (VG D.aJ (dU l)),.mp .i8 (j6 (uw l))] .ret (LP j) (Kc l):=by
 have:=KC l OW O0 l.length 0 (by omega)
 rw [Wu,hj] at this
 rw [ca]
 exact aU.bA (Vq _) this
theorem KB (l:List Mv) (OW:l.length≤64) (O0:∀p∈l,p.1≠p.2) (hj:fY l l 0=none):aU Tryz.prog 6 (.loop (aI Tryz.f66 1)) (Kb l 0) [.dead,.dead,.dead,.bz 0 2,.box (VG D.aJ (dU l)),.mp .i8 (j6 (uw l))] (.exit 2) LQ (Kc l):=by
 have:=KC l OW O0 l.length 0 (by omega)
 rw [Wu,hj] at this
 rw [ca]
 exact aU.bA (Vq _) this
theorem xF (l:List Mv) (OW:l.length≤64) (h:wN [] l=true):aZ Tryz.prog 96 ([.aj .no 2 (eN l)]) (.bool true):=by
 have c0:= @FT l OW h
 exact (LY (d:= .bool true) [.head ⟨[3,7,8,9],[0],[]⟩ _ _ _ _ _ _ _ c0] (by kernel_rfl)).to (by simp [wk,aB,aK, *])
theorem xG (l:List Mv) (OW:l.length≤64) (h:wN [] l=false):aZ Tryz.prog 96 ([.aj .no 2 (eN l)]) (.bool false):=by
 have c0:= @Hv l OW h
 exact (LY (d:= .bool false) [.head ⟨[3,7,8,9],[0],[]⟩ _ _ _ _ _ _ _ c0] (by kernel_rfl)).to (by simp [wk,aB,aK, *])
theorem DE (l:List Mv) (OW:l.length≤64) (sc:Int) (h:ofM sc l=false):aZ Tryz.prog 65 ([.aj .no 2 (eN l),.int .i8 sc]) (.bool false):=by
 have c0:= @Hz l OW sc h
 exact (KJ (d:= .bool false) [.head ⟨[0,1,7,8,9],[],[]⟩ _ _ _ _ _ _ _ c0] (by kernel_rfl)).to (by simp [wk,aB,aK, *])
theorem DD (l:List Mv) (OW:l.length≤64) (sc:Int) (h:ofM sc l=true) (h2:l9 sc=false):aZ Tryz.prog 65 ([.aj .no 2 (eN l),.int .i8 sc]) (.bool false):=by
 have c0:= @zM l OW sc h
 have c1:= @jJ sc
 exact (KJ (d:= .bool false) [.head ⟨[0,1,7,8,9],[],[]⟩ _ _ _ _ _ _ _ c0,.ret _ _ _ c1,tC (eT h2),tC (eT h2),tC h2] (by kernel_rfl)).to (by simp [wk,aB,aK, *])
theorem DC (l:List Mv) (OW:l.length≤64) (sc:Int) (h:ofM sc l=true) (h2:l9 sc=true) (q:Bool) (hn:aZ Tryz.prog 96 [.aj .no 2 (eN l)] (.bool q)):aZ Tryz.prog 65 ([.aj .no 2 (eN l),.int .i8 sc]) (.bool q):=by
 have c0:= @zM l OW sc h
 have c1:= @jJ sc
 exact (KJ (d:= .bool q) [.head ⟨[0,1,7,8,9],[],[]⟩ _ _ _ _ _ _ _ c0,.ret _ _ _ c1,tC (eT h2),tC (eT h2),.ret _ _ _ hn,tC h2] (by kernel_rfl)).to (by simp [wk,aB,aK, *])
theorem vm (l:List Mv) (OW:l.length≤64) (O0:∀p∈l,p.1≠p.2) (j:Nat) (hj:fY l l 0=some j):cO Tryz.prog 66 ([.bR 4 2 l.length]) ([.dead,.dead,.dead,.bz 0 2,.box (dU l)]) (.aM [.int .i64 (j:Int),.bool true]) ([.dead,.dead,.dead,.bz 0 2,.box (dU l),.dead]):=by
 have c0:= @IM l OW
 have c1:= @KA l OW O0 _ hj
 exact (cO.aw (bn:= [3,4]) (d:= .aM [.int .i64 (↑j:Int),.bool true]) (s':= [.dead,.dead,.dead,.bz 0 2,.box (dU l),.dead]) mixed [.head ⟨[0,4,11,12,13],[3,5,1000004],[]⟩ _ _ _ _ _ _ _ c0,.cl (dU l) (by first|exact dn rfl|exact cm _),.head ⟨[4,23,24,25],[3,5,1000004],[]⟩ _ _ _ _ _ _ _ c1,.cl (dU l) (by first|exact dn rfl|exact cm _)] (by kernel_rfl)).cast (by simp [wk,aB,aK, *]) (by simp only [ca])
theorem CV (l:List Mv) (OW:l.length≤64) (O0:∀p∈l,p.1≠p.2) (hj:fY l l 0=none):cO Tryz.prog 66 ([.bR 4 2 l.length]) ([.dead,.dead,.dead,.bz 0 2,.box (dU l)]) (.aM [.int .i64 0,.bool false]) ([.dead,.dead,.dead,.bz 0 2,.box (dU l),.dead]):=by
 have c0:= @IM l OW
 have c1:= @KB l OW O0 hj
 exact (cO.aw (bn:= [3,4]) (d:= .aM [.int .i64 0,.bool false]) (s':= [.dead,.dead,.dead,.bz 0 2,.box (dU l),.dead]) mixed [.head ⟨[0,4,11,12,13],[3,5,1000004],[]⟩ _ _ _ _ _ _ _ c0,.cl (dU l) (by first|exact dn rfl|exact cm _),.head ⟨[4,23,24,25],[3,5,1000004],[]⟩ _ _ _ _ _ _ _ c1,.cl (dU l) (by first|exact dn rfl|exact cm _)] (by kernel_rfl)).cast (by simp [wk,aB,aK, *]) (by simp only [ca])
theorem Dw (l:List Mv) (OW:l.length≤64):aZ Tryz.prog 96 [.aj .no 2 (eN l)] (.bool (wN [] l)):=by
 cases h:wN [] l with
 |true=>exact xF l OW h
 |false=>exact xG l OW h
theorem vH (l:List Mv) (OW:l.length≤64) (sc:Int):aZ Tryz.prog 65 [.aj .no 2 (eN l),.int .i8 sc] (.bool (lB l sc)):=by
 unfold lB
 cases h:ofM sc l with
 |false=>exact DE l OW sc h
 |true=>
  cases h2:l9 sc with
  |false=>exact DD l OW sc h h2
  |true=>exact DC l OW sc h h2 _ (Dw l OW)
abbrev Kd (l:List Mv) (sc:Int) (k:Nat):List D:=((.undef)::(.int .i8 sc)::(.undef)::(.undef)::(.aj .tight 0 [])::(.undef)::(.aj .tight 0 [])::(.bp 1)::(un 16++(.aj .no 2 (eN l))::(.int .i64 (l.length:Int))::(.int .i64 (k:Int))::(un 74)))
abbrev LX (sc:Int):List D:=((.undef)::(.int .i8 sc)::(.undef)::(.undef)::(.aj .tight 0 [])::(.undef)::(.aj .tight 0 [])::(un 94))
abbrev Nc (l:List Mv) (sc:Int) (q k:Nat):List D:=((.undef)::(.int .i8 sc)::(.undef)::(.undef)::(.aj .tight 0 [])::(.undef)::(.bR 2 2 q)::(.bp 1)::(un 16++(.aj .no 2 (eN l))::(.int .i64 (l.length:Int))::(.int .i64 (k:Int))::(un 74)))
abbrev KE (sc:Int) (q:Nat):List D:=((.undef)::(.int .i8 sc)::(.undef)::(.undef)::(.aj .tight 0 [])::(.undef)::(.bR 2 2 q)::(un 94))
abbrev kP:List LK:= [.int .i8,.int .i8]
theorem lQ (p:Mv) (r:List Mv):cS (p::r)=if (p.1==p.2)=true then cS r else p::cS r:=by
 unfold cS
 rw [List.filter_cons]
 cases h:(p.1==p.2)<;>simp
theorem KD (l:List Mv) (OW:l.length≤64) (sc:Int):∀(n k:Nat) (es:List (List D×D)) (f:List Mv),k+n=l.length→f.length≤k→
  aF Tryz.prog (aI Tryz.f47 0) 2 (Nc l sc f.length k) [.dead,.mf kP es,.box (dU f)] (.exit 1) (KE sc (f++cS (l.drop k)).length) [.dead,.dead,.box (dU (f++cS (l.drop k)))]
 |0,k,es,f,hk,hf=>by
  obtain rfl:k=l.length:=by omega
  have:=Hh (eN l) l.length l.length sc es (dU f) (cm f) f.length (ey f) (by omega) (Vq _)
  rw [ca] at this
  rw [WL,show cS []= [] from rfl,Wb]
  exact aF.last this (fun h=>by cases h)
 |n+1,k,es,f,hk,hf=>by
  have OK:k<l.length:=by omega
  rw [VZ OK,lQ]
  cases he:(l[k].1==l[k].2) with
  |true=>
   have:=Fp (eN l) l.length k sc es (dU f) (cm f) f.length (ey f) (by omega) OK l[k].1 l[k].2 (eM OK) OW he
   rw [tY (by omega),ca] at this
   rw [if_pos rfl]
   exact aF.cG this (KD l OW sc n (k+1) _ f (by omega) (by omega))
  |false=>
   have:=Hg (eN l) l.length k sc es (dU f) (cm f) f.length (ey f) (by omega) OK l[k].1 l[k].2 (eM OK) OW he
   have e:dU f++ [.int .i8 l[k].1,.int .i8 l[k].2]=dU (f++ [l[k]]):=by rw [sT];rfl
   rw [tY (by omega),e,ca] at this
   rw [if_neg (by simp)]
   have ih:=KD l OW sc n (k+1) (gw es [.int .i8 l[k].1,.int .i8 l[k].2] (.bool (l[k].1==l[k].2))) (f++ [l[k]]) (by omega) (by rw [Vd,VX];omega)
   rw [Wa,show (f++ [l[k]]).length=f.length+1 by simp] at ih
   exact aF.cG this ih
theorem LW (l:List Mv) (OW:l.length≤64) (sc:Int):∀(n k:Nat) (es:List (List D×D)),k+n=l.length→cS (l.drop k)= []→
  aF Tryz.prog (aI Tryz.f47 0) 2 (Kd l sc k) [.dead,.mf kP es] (.exit 1) (LX sc) [.dead,.dead]
 |0,k,es,hk,hf=>aF.last (Hi (eN l) l.length k sc es (by omega)) (fun h=>by cases h)
 |n+1,k,es,hk,hf=>by
  have OK:k<l.length:=by omega
  rw [VZ OK,lQ] at hf
  cases he:(l[k].1==l[k].2) with
  |true=>
   rw [he,if_pos rfl] at hf
   have:=zw (eN l) l.length k sc es OK l[k].1 l[k].2 (eM OK) OW he
   rw [tY (by omega)] at this
   exact aF.cG this (LW l OW sc n (k+1) _ (by omega) hf)
  |false=>rw [he,if_neg (by simp)] at hf;cases hf
theorem LV (l:List Mv) (OW:l.length≤64) (sc:Int):∀(n k:Nat) (es:List (List D×D)),k+n=l.length→cS (l.drop k)≠ []→
  aF Tryz.prog (aI Tryz.f47 0) 2 (Kd l sc k) [.dead,.mf kP es] (.exit 1) (KE sc (cS (l.drop k)).length) [.dead,.dead,.box (dU (cS (l.drop k)))]
 |0,k,es,hk,hf=>by
  obtain rfl:k=l.length:=by omega
  rw [WL] at hf
  exact absurd rfl hf
 |n+1,k,es,hk,hf=>by
  have OK:k<l.length:=by omega
  rw [VZ OK,lQ] at hf ⊢
  cases he:(l[k].1==l[k].2) with
  |true=>
   rw [he,if_pos rfl] at hf
   rw [if_pos rfl]
   have:=zw (eN l) l.length k sc es OK l[k].1 l[k].2 (eM OK) OW he
   rw [tY (by omega)] at this
   exact aF.cG this (LV l OW sc n (k+1) _ (by omega) hf)
  |false=>
   rw [if_neg (by simp)]
   by_cases hk0:k+1≤64
   ·have:=CW (eN l) l.length k sc es OK l[k].1 l[k].2 (eM OK) OW he
    rw [tY (by omega)] at this
    by_cases hz:1≤k+1
    ·exact aF.cG this (KD l OW sc n (k+1) _ [l[k]] (by omega) hz)
    ·omega
   ·omega
abbrev Fq (l:List Mv) (sc:Int):List D:=((.undef)::(.int .i8 sc)::(.undef)::(.undef)::(.aj .tight 0 [])::(.undef)::(.aj .tight 0 [])::(.bp 1)::(un 16++(.aj .no 2 (eN l))::(.int .i64 ((eN l).length:Int))::(.int .i64 0)::(un 74)))
theorem zx (l:List Mv) (sc:Int):Fq l sc=Kd l sc 0:=by simp only [Fq,Kd,mw];rfl
theorem KG (l:List Mv) (OW:l.length≤64) (sc:Int) (h:cS l= []):aU Tryz.prog 2 (.loop (aI Tryz.f47 0)) (Fq l sc) [.dead,.mf kP []] (.exit 1) (LX sc) [.dead,.dead]:=by
 rw [zx]
 exact aU.bA (Vq _) (LW l OW sc l.length 0 [] (by omega) h)
theorem KF (l:List Mv) (OW:l.length≤64) (sc:Int) (h:cS l≠ []):aU Tryz.prog 2 (.loop (aI Tryz.f47 0)) (Fq l sc) [.dead,.mf kP []] (.exit 1) (KE sc (cS l).length) [.dead,.dead,.box (dU (cS l))]:=by
 rw [zx]
 exact aU.bA (Vq _) (LV l OW sc l.length 0 [] (by omega) h)
abbrev Ar (sc f:Int) (q:Mv):Mv:=if q.2=f then (q.1,sc) else q
abbrev LH (sc f:Int) (outs:List D) (n k:Nat):List D:=((.undef)::(.int .i8 sc)::(.undef)::(.undef)::(.aj (.tok 3 1) 2 outs)::(.undef)::(.bR 4 2 n)::(un 5++(.int .i8 f)::(un 54++(.int .i64 (n:Int))::(.int .i64 (k:Int))::(un 32))))
abbrev LJ (sc:Int) (outs:List D) (n:Nat):List D:=((.undef)::(.int .i8 sc)::(.undef)::(.undef)::(.aj (.tok 3 1) 2 outs)::(.undef)::(.bR 4 2 n)::(un 94))
abbrev Ks (l:List Mv):List Ob:= [.dead,.dead,.dead,.bz 1 2,.box (dU l),.dead]
theorem LI (sc f:Int) (outs:List D):∀(R Q:List Mv) (n:Nat),Q.length+R.length=n→n≤64→
  aF Tryz.prog (aI Tryz.f47 2) 6 (LH sc f outs n Q.length) (Ks (Q++R)) (.exit 5) (LJ sc outs n) (Ks (Q++R.map (Ar sc f)))
 | [],Q,n,hn,OW=>by
  have hl:Q.length=n:=by simpa using hn
  have:=G8 (dU (Q++ [])) outs (cm _) sc f n Q.length OW (by rw [ey,Wb];omega) (by omega)
  rw [ca] at this
  exact aF.last this (fun h=>by cases h)
 |p::R,Q,n,hn,OW=>by
  have RH:Q.length+(R.length+1)=n:=by simpa using hn
  have OK:Q.length<(Q++p::R).length:=by simp
  have hp:(Q++p::R)[Q.length]=p:=by simp
  have hg:=vA (Q++p::R) Q.length OK
  rw [hp] at hg
  have Px:(dU (Q++p::R)).length=n*2:=by rw [ey,Vd,Vf];omega
  have ih:=LI sc f outs R (Q++ [Ar sc f p]) n (by rw [Vd,VX];omega) OW
  rw [Wa,Wa,show (Q++ [Ar sc f p]).length=Q.length+1 by simp] at ih
  rw [WG]
  by_cases he:p.2=f
  ·have:=Ix (dU (Q++p::R)) outs (cm _) sc f n Q.length OW Px (by omega) p.2 hg (by simpa using he)
   have e:(dU (Q++p::R)).set (VB (Q.length:Int)*2+1) (.int .i8 sc)=dU (Q++Ar sc f p::R):=by
    rw [Int.toNat_natCast,zQ _ _ OK,hp]
    simp [Ar,he]
   rw [tY (by omega),e,ca] at this
   exact aF.cG this ih
  ·have:=GD (dU (Q++p::R)) outs (cm _) sc f n Q.length OW Px (by omega) p.2 hg (by simpa using he)
   rw [tY (by omega),ca] at this
   have e:Ar sc f p=p:=by simp [Ar,he]
   rw [e] at ih ⊢
   exact aF.cG this ih
theorem MU (l:List Mv) (OW:l.length≤64) (sc f:Int) (outs:List D):aU Tryz.prog 6 (.loop (aI Tryz.f47 2)) (LH sc f outs l.length 0) [.dead,.dead,.dead,.bz 1 2,.box (VG D.aJ (dU l)),.dead] (.exit 5) (LJ sc outs l.length) (Ks (l.map (Ar sc f))):=by
 have:=LI sc f outs l [] l.length (by simp) OW
 rw [ca]
 exact aU.bA (Vq _) this
abbrev NN (sc f:Int) (outs:List D) (n k:Nat):List D:= [.undef,.int .i8 sc,.undef,.undef,.undef,.undef,.bR 3 2 n,.aj (.tok 2 1) 2 outs,.undef,.undef,.int .i8 f,.int .i64 (k:Int),.undef,.undef,.undef,.undef,.undef,.undef,.undef,.undef,.undef,.undef,.undef,.undef,.undef,.undef,.undef,.undef,.undef,.undef,.undef,.undef,.undef,.undef,.undef,.undef,.undef,.undef,.undef,.undef,.undef,.undef,.undef,.undef,.undef,.undef,.undef,.undef,.undef,.undef,.undef,.undef,.undef,.undef,.undef,.undef,.undef,.undef,.undef,.undef,.undef,.undef,.undef,.undef,.undef,.undef,.undef,.undef,.undef,.undef,.undef,.undef,.undef,.undef,.undef,.undef,.undef,.undef,.undef,.undef,.undef,.undef,.undef,.undef,.undef,.undef,.undef,.undef,.undef,.undef,.undef,.undef,.undef,.undef,.undef,.undef,.undef,.undef]
abbrev NQ (sc:Int) (outs:List D) (n:Nat):List D:= [.undef,.int .i8 sc,.undef,.undef,.undef,.undef,.bR 3 2 n,.aj (.tok 2 1) 2 outs,.undef,.undef,.undef,.undef,.undef,.undef,.undef,.undef,.undef,.undef,.undef,.undef,.undef,.undef,.undef,.undef,.undef,.undef,.undef,.undef,.undef,.undef,.undef,.undef,.undef,.undef,.undef,.undef,.undef,.undef,.undef,.undef,.undef,.undef,.undef,.undef,.undef,.undef,.undef,.undef,.undef,.undef,.undef,.undef,.undef,.undef,.undef,.undef,.undef,.undef,.undef,.undef,.undef,.undef,.undef,.undef,.undef,.undef,.undef,.undef,.undef,.undef,.undef,.undef,.undef,.undef,.undef,.undef,.undef,.undef,.undef,.undef,.undef,.undef,.undef,.undef,.undef,.undef,.undef,.undef,.undef,.undef,.undef,.undef,.undef,.undef,.undef,.undef,.undef,.undef]
abbrev NP (l:List Mv):List Ob:= [.dead,.dead,.bz 1 2,.box (dU l)]
abbrev MJ (sc f:Int) (outs:List D) (n:Nat):List D:= [.undef,.int .i8 sc,.undef,.undef,.undef,.undef,.bR 3 2 n,.aj (.tok 2 1) 2 outs,.undef,.undef,.int .i8 f,.int .i64 0,.undef,.undef,.undef,.undef,.undef,.undef,.undef,.undef,.undef,.undef,.undef,.undef,.undef,.undef,.undef,.undef,.undef,.undef,.undef,.undef,.undef,.undef,.undef,.undef,.undef,.undef,.undef,.undef,.undef,.undef,.undef,.undef,.undef,.undef,.undef,.undef,.undef,.undef,.undef,.undef,.undef,.undef,.undef,.undef,.undef,.undef,.undef,.undef,.undef,.undef,.undef,.undef,.undef,.undef,.undef,.undef,.undef,.undef,.undef,.undef,.undef,.undef,.undef,.undef,.undef,.undef,.undef,.undef,.undef,.undef,.undef,.undef,.undef,.undef,.undef,.undef,.undef,.undef,.undef,.undef,.undef,.undef,.undef,.undef,.undef,.undef]
abbrev NT (sc:Int) (outs:List D) (n:Nat):List D:= [.undef,.int .i8 sc,.undef,.undef,.undef,.undef,.bR 3 2 n,.aj (.tok 2 0) 2 outs,.undef,.undef,.undef,.undef,.undef,.undef,.undef,.undef,.undef,.undef,.undef,.undef,.undef,.undef,.undef,.undef,.undef,.undef,.undef,.undef,.undef,.undef,.undef,.undef,.undef,.undef,.undef,.undef,.undef,.undef,.undef,.undef,.undef,.undef,.undef,.undef,.undef,.undef,.undef,.undef,.undef,.undef,.undef,.undef,.undef,.undef,.undef,.undef,.undef,.undef,.undef,.undef,.undef,.undef,.undef,.undef,.undef,.undef,.undef,.undef,.undef,.undef,.undef,.undef,.undef,.undef,.undef,.undef,.undef,.undef,.undef,.undef,.undef,.undef,.undef,.undef,.undef,.undef,.undef,.undef,.undef,.undef,.undef,.undef,.undef,.undef,.undef,.undef,.undef,.undef]
abbrev NV (outs:List D):List D:= [.undef,.undef,.undef,.undef,.undef,.undef,.undef,.aj (.tok 2 0) 2 outs,.undef,.undef,.undef,.undef,.undef,.undef,.undef,.undef,.undef,.undef,.undef,.undef,.undef,.undef,.undef,.undef,.undef,.undef,.undef,.undef,.undef,.undef,.undef,.undef,.undef,.undef,.undef,.undef,.undef,.undef,.undef,.undef,.undef,.undef,.undef,.undef,.undef,.undef,.undef,.undef,.undef,.undef,.undef,.undef,.undef,.undef,.undef,.undef,.undef,.undef,.undef,.undef,.undef,.undef,.undef,.undef,.undef,.undef,.undef,.undef,.undef,.undef,.undef,.undef,.undef,.undef,.undef,.undef,.undef,.undef,.undef,.undef,.undef,.undef,.undef,.undef,.undef,.undef,.undef,.undef,.undef,.undef,.undef,.undef,.undef,.undef,.undef,.undef,.undef,.undef]
abbrev NU (l:List Mv):List Ob:= [.dead,.dead,.bz 0 2,.box (dU l)]
abbrev MP (l:List Mv):Nat:=2*l.length
abbrev ML (sc:Int) (n:Nat):List D:= [.undef,.int .i8 sc,.undef,.undef,.undef,.undef,.bR 3 2 n,.aj (.tok 2 0) 2 [],.undef,.undef,.undef,.undef,.undef,.undef,.undef,.undef,.undef,.undef,.undef,.undef,.undef,.undef,.undef,.undef,.undef,.undef,.undef,.undef,.undef,.undef,.undef,.undef,.undef,.undef,.undef,.undef,.undef,.undef,.undef,.undef,.undef,.undef,.undef,.undef,.undef,.undef,.undef,.undef,.undef,.undef,.undef,.undef,.undef,.undef,.undef,.undef,.undef,.undef,.undef,.undef,.undef,.undef,.undef,.undef,.undef,.undef,.undef,.undef,.undef,.undef,.undef,.undef,.undef,.undef,.undef,.undef,.undef,.undef,.undef,.undef,.undef,.undef,.undef,.undef,.undef,.undef,.undef,.undef,.undef,.undef,.undef,.undef,.undef,.undef,.undef,.undef,.undef,.undef]
abbrev MR (l:List Mv) (sc:Int):List D:= [.aj .no 2 (eN l),.int .i8 sc,.undef,.undef,.undef,.undef,.aj .tight 0 [],.aj .tight 0 [],.int .i64 0,.undef,.undef,.undef,.undef,.undef,.undef,.undef,.undef,.undef,.undef,.undef,.undef,.undef,.undef,.undef,.undef,.undef,.undef,.undef,.undef,.undef,.undef,.undef,.undef,.undef,.undef,.undef,.undef,.undef,.undef,.undef,.undef,.undef,.undef,.undef,.undef,.undef,.undef,.undef,.undef,.undef,.undef,.undef,.undef,.undef,.undef,.undef,.undef,.undef,.undef,.undef,.undef,.undef,.undef,.undef,.undef,.undef,.undef,.undef,.undef,.undef,.undef,.undef,.undef,.undef,.undef,.undef,.undef,.undef,.undef,.undef,.undef,.undef,.undef,.undef,.undef,.undef,.undef,.undef,.undef,.undef,.undef,.undef,.undef,.undef,.undef,.undef,.undef,.undef]
abbrev Oh (num:Int) (n:Nat) (ls:List D) (k:Nat):List D:=((.int .i64 num)::(.undef)::(.undef)::(.ptr false 0 0)::(.undef)::(.undef)::(.aj .tight 1 zg)::(.aj (.tok 3 0) 2 ls)::(.int .i64 (n:Int))::(.int .i64 (k:Int))::(un 99))
abbrev Oj (num:Int) (n:Nat) (ls:List D):List D:=((.int .i64 num)::(.undef)::(.undef)::(.ptr false 0 0)::(.undef)::(.undef)::(.aj .tight 1 zg)::(.aj (.tok 3 0) 2 ls)::(.int .i64 (n:Int))::(un 100))
abbrev Oi (p:af):List Ob:= [.box (bW p),.dead,.dead,.bz 0 2]
abbrev Ox (l:List XS):List D:=l.map Mi
abbrev M9 (num:Int) (n:Nat) (mv row:List D) (k:Nat):List D:=((.int .i64 num)::(.undef)::(.undef)::(.ptr false 0 0)::(.undef)::(.undef)::(.aj .tight 1 zg)::(.undef)::(.int .i64 (n:Int))::(.undef)::(.aj .no 2 mv)::(.undef)::(.aj (.tok 5 0) 8 row)::(.int .i64 (k:Int))::(un 95))
abbrev Nb (num:Int) (n:Nat) (row:List D):List D:=((.int .i64 num)::(.undef)::(.undef)::(.ptr false 0 0)::(.undef)::(.undef)::(.aj .tight 1 zg)::(.undef)::(.int .i64 (n:Int))::(.undef)::(.undef)::(.undef)::(.aj (.tok 5 0) 8 row)::(un 96))
abbrev Na (p:af):List Ob:= [.box (bW p),.dead,.dead,.dead,.dead,.bz 0 8]
abbrev M6 (num:Int) (n:Nat) (row:List D) (k:Nat):List D:=((.int .i64 num)::(.undef)::(.undef)::(.ptr false 0 0)::(.undef)::(.undef)::(.aj .tight 1 zg)::(.undef)::(.int .i64 (n:Int))::(.undef)::(.undef)::(.undef)::(.aj (.tok 6 0) 8 row)::(.undef)::(.int .i64 (k:Int))::(un 94))
abbrev M8 (num:Int) (row:List D):List D:=((.int .i64 num)::(un 11++(.aj (.tok 6 0) 8 row)::(un 96)))
abbrev M7 (p:af):List Ob:= [.box (bW p),.dead,.dead,.dead,.dead,.dead,.bz 0 8]
abbrev M5:List Ob:= [.dead,.dead,.dead,.dead,.dead,.dead,.bz 0 8]
theorem bS (v w:Int):aZ Tryz.prog 72 ([.int .u64 v,.int .i8 w]) (.int .u64 (aQ v w)):=by
 by_cases h0:w=8
 ·subst h0
  exact (Kg (d:= .int .u64 (WO.wrap WO.u64 (WO.wrap WO.u8 v))) [tT] (by kernel_rfl)).to (by simp [wk,aQ,dK,zf,ze,il,];try omega)
 by_cases h1:w=16
 ·subst h1
  exact (Kg (d:= .int .u64 (WO.wrap WO.u64 (WO.wrap WO.u16 v))) [tC (aL h0),tT] (by kernel_rfl)).to (by simp [wk,aQ,dK,zf,ze,il,h0];try omega)
 by_cases h2:w=32
 ·subst h2
  exact (Kg (d:= .int .u64 (WO.wrap WO.u64 (WO.wrap WO.u32 v))) [tC (aL h0),tC (aL h1),tT] (by kernel_rfl)).to (by simp [wk,aQ,dK,zf,ze,il,h0,h1];try omega)
 exact (Kg (d:= .int .u64 v) [tC (aL h0),tC (aL h1),tC (aL h2)] (by kernel_rfl)).to (by simp [wk,aQ,dK,zf,ze,il,h0,h1,h2];try omega)
theorem zm (v w:Int):aZ Tryz.prog 166 ([.int .u64 v,.int .i8 w]) (.int .u64 (lr v w)):=by
 by_cases h0:w=8
 ·subst h0
  exact (FQ (d:= .int .u64 (WO.wrap WO.u64 (WO.i64.wrap (WO.wrap WO.i8 v)))) [tT] (by kernel_rfl)).to (by simp [wk,lr,u64,sA,sy,sw,])
 by_cases h1:w=16
 ·subst h1
  exact (FQ (d:= .int .u64 (WO.wrap WO.u64 (WO.i64.wrap (WO.wrap WO.i16 v)))) [tC (aL h0),tT] (by kernel_rfl)).to (by simp [wk,lr,u64,sA,sy,sw,h0])
 by_cases h2:w=32
 ·subst h2
  exact (FQ (d:= .int .u64 (WO.wrap WO.u64 (WO.i64.wrap (WO.wrap WO.i32 v)))) [tC (aL h0),tC (aL h1),tT] (by kernel_rfl)).to (by simp [wk,lr,u64,sA,sy,sw,h0,h1])
 exact (FQ (d:= .int .u64 v) [tC (aL h0),tC (aL h1),tC (aL h2)] (by kernel_rfl)).to (by simp [wk,lr,u64,sA,sy,sw,h0,h1,h2])
theorem fO (w:Int):aZ Tryz.prog 142 ([.int .i8 w]) (.bool (au w)):=by
 by_cases h0:w=32
 ·subst h0
  exact (Je (d:= .bool true) [tF,tF,tT] (by kernel_rfl)).to (by simp only [wk,D.bool.injEq,au];first|rfl|(rw [Vn];simp [];try omega))
 exact (Je (d:= .bool (w==64)) [tC (eF (aL h0)),tC (eF (aL h0)),tC (aL h0)] (by kernel_rfl)).to (by simp only [wk,D.bool.injEq,au];first|rfl|(rw [Vn];simp [h0];try omega))
def lF (Pf:Int):Prop:= ∀(w a b:Int) (hw:au w=true),aZ Tryz.prog 111 ([.int .i8 Pf,.int .i8 w,.int .u64 a,.int .u64 b]) (.aM [.int .u64 (gd Pf w a b),.int .i64 0])
theorem wG:lF 0:=by
 intro w a b hw
 have c0:= @fO w
 rw [show (au w)=true from hw] at c0
 have c1:= @bS a w
 have c2:= @bS b w
 have c3:= @bS (WO.wrap WO.u64 (aQ a w+aQ b w)) w
 exact (qD (d:= .aM [.int .u64 (aQ (WO.wrap WO.u64 (aQ a w+aQ b w)) w),.int .i64 0]) [tT,tT,tF,tT,tT,.ret _ _ _ c0,tT,tF,tF,.ret _ _ _ c1,.ret _ _ _ c2,.inl,tT,.get ([D.fn (Ve 153) [] [],D.fn (Ve 154) [] [],D.fn (Ve 155) [] [],D.fn (Ve 156) [] [],D.fn (Ve 157) [] [],D.fn (Ve 158) [] [],D.fn (Ve 159) [] [],D.fn (Ve 160) [] [],D.fn (Ve 161) [] [],D.fn (Ve 162) [] [],D.fn (Ve 163) [] [],D.fn (Ve 164) [] [],D.fn (Ve 165) [] []]) 0 (D.fn (Ve 153) [] []) rfl,.inl,.ret _ _ _ c3] (by kernel_rfl)).to (by first|((simp only [wk,aB,and_true];repeat' (first|rfl|exact VS|apply VY));done)|(simp [wk,aB,gd,qB,];done)|(simp [wk,aB,gd,qB,u64, *];done))
theorem mN:lF 1:=by
 intro w a b hw
 have c0:= @fO w
 rw [show (au w)=true from hw] at c0
 have c1:= @bS a w
 have c2:= @bS b w
 have c3:= @bS (WO.wrap WO.u64 (aQ a w - aQ b w)) w
 exact (qD (d:= .aM [.int .u64 (aQ (WO.wrap WO.u64 (aQ a w - aQ b w)) w),.int .i64 0]) [tT,tT,tF,tT,tT,.ret _ _ _ c0,tT,tF,tF,.ret _ _ _ c1,.ret _ _ _ c2,.inl,tT,.get ([D.fn (Ve 153) [] [],D.fn (Ve 154) [] [],D.fn (Ve 155) [] [],D.fn (Ve 156) [] [],D.fn (Ve 157) [] [],D.fn (Ve 158) [] [],D.fn (Ve 159) [] [],D.fn (Ve 160) [] [],D.fn (Ve 161) [] [],D.fn (Ve 162) [] [],D.fn (Ve 163) [] [],D.fn (Ve 164) [] [],D.fn (Ve 165) [] []]) 1 (D.fn (Ve 154) [] []) rfl,.inl,.ret _ _ _ c3] (by kernel_rfl)).to (by first|((simp only [wk,aB,and_true];repeat' (first|rfl|exact VS|apply VY));done)|(simp [wk,aB,gd,qB,];done)|(simp [wk,aB,gd,qB,u64, *];done))
theorem Et:lF 2:=by
 intro w a b hw
 have c0:= @fO w
 rw [show (au w)=true from hw] at c0
 have c1:= @bS a w
 have c2:= @bS b w
 have c3:= @bS (WO.wrap WO.u64 (aQ a w*aQ b w)) w
 exact (qD (d:= .aM [.int .u64 (aQ (WO.wrap WO.u64 (aQ a w*aQ b w)) w),.int .i64 0]) [tT,tT,tF,tT,tT,.ret _ _ _ c0,tT,tF,tF,.ret _ _ _ c1,.ret _ _ _ c2,.inl,tT,.get ([D.fn (Ve 153) [] [],D.fn (Ve 154) [] [],D.fn (Ve 155) [] [],D.fn (Ve 156) [] [],D.fn (Ve 157) [] [],D.fn (Ve 158) [] [],D.fn (Ve 159) [] [],D.fn (Ve 160) [] [],D.fn (Ve 161) [] [],D.fn (Ve 162) [] [],D.fn (Ve 163) [] [],D.fn (Ve 164) [] [],D.fn (Ve 165) [] []]) 2 (D.fn (Ve 155) [] []) rfl,.inl,.ret _ _ _ c3] (by kernel_rfl)).to (by first|((simp only [wk,aB,and_true];repeat' (first|rfl|exact VS|apply VY));done)|(simp [wk,aB,gd,qB,];done)|(simp [wk,aB,gd,qB,u64, *];done))
theorem wF:lF 4:=by
 intro w a b hw
 have c0:= @fO w
 rw [show (au w)=true from hw] at c0
 have c1:= @bS a w
 have c2:= @bS b w
 have c3:= @bS (WO.wrap WO.u64 (↑(Vy (Vh (64:Nat) (aQ a w)|||Vh (64:Nat) (aQ b w))):Int)) w
 exact (qD (d:= .aM [.int .u64 (aQ (WO.wrap WO.u64 (↑(Vy (Vh (64:Nat) (aQ a w)|||Vh (64:Nat) (aQ b w))):Int)) w),.int .i64 0]) [tT,tT,tF,tT,tT,.ret _ _ _ c0,tT,tF,tF,.ret _ _ _ c1,.ret _ _ _ c2,.inl,tT,.get ([D.fn (Ve 153) [] [],D.fn (Ve 154) [] [],D.fn (Ve 155) [] [],D.fn (Ve 156) [] [],D.fn (Ve 157) [] [],D.fn (Ve 158) [] [],D.fn (Ve 159) [] [],D.fn (Ve 160) [] [],D.fn (Ve 161) [] [],D.fn (Ve 162) [] [],D.fn (Ve 163) [] [],D.fn (Ve 164) [] [],D.fn (Ve 165) [] []]) 4 (D.fn (Ve 157) [] []) rfl,.inl,.ret _ _ _ c3] (by kernel_rfl)).to (by first|((simp only [wk,aB,and_true];repeat' (first|rfl|exact VS|apply VY));done)|(simp [wk,aB,gd,qB,];done)|(simp [wk,aB,gd,qB,u64, *];done))
theorem mM:lF 5:=by
 intro w a b hw
 have c0:= @fO w
 rw [show (au w)=true from hw] at c0
 have c1:= @bS a w
 have c2:= @bS b w
 have c3:= @bS (WO.wrap WO.u64 (↑(Vy (Vh (64:Nat) (aQ a w)&&&Vh (64:Nat) (aQ b w))):Int)) w
 exact (qD (d:= .aM [.int .u64 (aQ (WO.wrap WO.u64 (↑(Vy (Vh (64:Nat) (aQ a w)&&&Vh (64:Nat) (aQ b w))):Int)) w),.int .i64 0]) [tT,tT,tF,tT,tT,.ret _ _ _ c0,tT,tF,tF,.ret _ _ _ c1,.ret _ _ _ c2,.inl,tT,.get ([D.fn (Ve 153) [] [],D.fn (Ve 154) [] [],D.fn (Ve 155) [] [],D.fn (Ve 156) [] [],D.fn (Ve 157) [] [],D.fn (Ve 158) [] [],D.fn (Ve 159) [] [],D.fn (Ve 160) [] [],D.fn (Ve 161) [] [],D.fn (Ve 162) [] [],D.fn (Ve 163) [] [],D.fn (Ve 164) [] [],D.fn (Ve 165) [] []]) 5 (D.fn (Ve 158) [] []) rfl,.inl,.ret _ _ _ c3] (by kernel_rfl)).to (by first|((simp only [wk,aB,and_true];repeat' (first|rfl|exact VS|apply VY));done)|(simp [wk,aB,gd,qB,];done)|(simp [wk,aB,gd,qB,u64, *];done))
theorem wE:lF 6:=by
 intro w a b hw
 have c0:= @fO w
 rw [show (au w)=true from hw] at c0
 have c1:= @bS a w
 have c2:= @bS b w
 have c3:= @bS (WO.wrap WO.u64 (aQ a w*2^min (VB (WO.wrap WO.u64 (↑(Vy (Vh (64:Nat) (aQ b w)&&&Vh (64:Nat) (WO.wrap WO.u64 (WO.wrap WO.i8 (w - 1))))):Int))) (64:Nat))) w
 exact (qD (d:= .aM [.int .u64 (aQ (WO.wrap WO.u64 (aQ a w*2^min (VB (WO.wrap WO.u64 (↑(Vy (Vh (64:Nat) (aQ b w)&&&Vh (64:Nat) (WO.wrap WO.u64 (WO.wrap WO.i8 (w - 1))))):Int))) (64:Nat))) w),.int .i64 0]) [tT,tT,tF,tT,tT,.ret _ _ _ c0,tT,tF,tF,.ret _ _ _ c1,.ret _ _ _ c2,.inl,tT,.get ([D.fn (Ve 153) [] [],D.fn (Ve 154) [] [],D.fn (Ve 155) [] [],D.fn (Ve 156) [] [],D.fn (Ve 157) [] [],D.fn (Ve 158) [] [],D.fn (Ve 159) [] [],D.fn (Ve 160) [] [],D.fn (Ve 161) [] [],D.fn (Ve 162) [] [],D.fn (Ve 163) [] [],D.fn (Ve 164) [] [],D.fn (Ve 165) [] []]) 6 (D.fn (Ve 159) [] []) rfl,.inl,tT,.ret _ _ _ c3] (by kernel_rfl)).to (by first|((simp only [wk,aB,and_true];repeat' (first|rfl|exact VS|apply VY));done)|(simp [wk,aB,gd,qB,];done)|(simp [wk,aB,gd,qB,u64, *];done))
theorem wB:lF 7:=by
 intro w a b hw
 have c0:= @fO w
 rw [show (au w)=true from hw] at c0
 have c1:= @bS a w
 have c2:= @bS b w
 have c3:= @bS (Int.fdiv (aQ a w) (2^min (VB (WO.wrap WO.u64 (↑(Vy (Vh (64:Nat) (aQ b w)&&&Vh (64:Nat) (WO.wrap WO.u64 (WO.wrap WO.i8 (w - 1))))):Int))) (64:Nat))) w
 exact (qD (d:= .aM [.int .u64 (aQ (Int.fdiv (aQ a w) (2^min (VB (WO.wrap WO.u64 (↑(Vy (Vh (64:Nat) (aQ b w)&&&Vh (64:Nat) (WO.wrap WO.u64 (WO.wrap WO.i8 (w - 1))))):Int))) (64:Nat))) w),.int .i64 0]) [tT,tT,tF,tT,tT,.ret _ _ _ c0,tT,tF,tF,.ret _ _ _ c1,.ret _ _ _ c2,.inl,tT,.get ([D.fn (Ve 153) [] [],D.fn (Ve 154) [] [],D.fn (Ve 155) [] [],D.fn (Ve 156) [] [],D.fn (Ve 157) [] [],D.fn (Ve 158) [] [],D.fn (Ve 159) [] [],D.fn (Ve 160) [] [],D.fn (Ve 161) [] [],D.fn (Ve 162) [] [],D.fn (Ve 163) [] [],D.fn (Ve 164) [] [],D.fn (Ve 165) [] []]) 7 (D.fn (Ve 160) [] []) rfl,.inl,tT,.ret _ _ _ c3] (by kernel_rfl)).to (by first|((simp only [wk,aB,and_true];repeat' (first|rfl|exact VS|apply VY));done)|(simp [wk,aB,gd,qB,];done)|(simp [wk,aB,gd,qB,u64, *];done))
theorem Es:lF 8:=by
 intro w a b hw
 have c0:= @fO w
 rw [show (au w)=true from hw] at c0
 have c1:= @bS a w
 have c2:= @bS b w
 have c3:= @bS (WO.wrap WO.u64 (0 - aQ a w)) w
 exact (qD (d:= .aM [.int .u64 (aQ (WO.wrap WO.u64 (0 - aQ a w)) w),.int .i64 0]) [tT,tT,tF,tT,tT,.ret _ _ _ c0,tT,tF,tF,.ret _ _ _ c1,.ret _ _ _ c2,.inl,tT,.get ([D.fn (Ve 153) [] [],D.fn (Ve 154) [] [],D.fn (Ve 155) [] [],D.fn (Ve 156) [] [],D.fn (Ve 157) [] [],D.fn (Ve 158) [] [],D.fn (Ve 159) [] [],D.fn (Ve 160) [] [],D.fn (Ve 161) [] [],D.fn (Ve 162) [] [],D.fn (Ve 163) [] [],D.fn (Ve 164) [] [],D.fn (Ve 165) [] []]) 8 (D.fn (Ve 161) [] []) rfl,.inl,.ret _ _ _ c3] (by kernel_rfl)).to (by first|((simp only [wk,aB,and_true];repeat' (first|rfl|exact VS|apply VY));done)|(simp [wk,aB,gd,qB,];done)|(simp [wk,aB,gd,qB,u64, *];done))
theorem rO:lF 10:=by
 intro w a b hw
 have c0:= @fO w
 rw [show (au w)=true from hw] at c0
 have c1:= @bS a w
 have c2:= @bS b w
 have c3:= @bS (WO.wrap WO.u64 (↑(Vy (Vh (64:Nat) (aQ a w)^^^Vh (64:Nat) (aQ b w))):Int)) w
 exact (qD (d:= .aM [.int .u64 (aQ (WO.wrap WO.u64 (↑(Vy (Vh (64:Nat) (aQ a w)^^^Vh (64:Nat) (aQ b w))):Int)) w),.int .i64 0]) [tT,tT,tF,tT,tT,.ret _ _ _ c0,tT,tF,tF,.ret _ _ _ c1,.ret _ _ _ c2,.inl,tT,.get ([D.fn (Ve 153) [] [],D.fn (Ve 154) [] [],D.fn (Ve 155) [] [],D.fn (Ve 156) [] [],D.fn (Ve 157) [] [],D.fn (Ve 158) [] [],D.fn (Ve 159) [] [],D.fn (Ve 160) [] [],D.fn (Ve 161) [] [],D.fn (Ve 162) [] [],D.fn (Ve 163) [] [],D.fn (Ve 164) [] [],D.fn (Ve 165) [] []]) 10 (D.fn (Ve 163) [] []) rfl,.inl,.ret _ _ _ c3] (by kernel_rfl)).to (by first|((simp only [wk,aB,and_true];repeat' (first|rfl|exact VS|apply VY));done)|(simp [wk,aB,gd,qB,];done)|(simp [wk,aB,gd,qB,u64, *];done))
theorem rN:lF 12:=by
 intro w a b hw
 have c0:= @fO w
 rw [show (au w)=true from hw] at c0
 have c1:= @bS a w
 have c2:= @bS b w
 have c3:= @zm (aQ a w) w
 have c4:= @bS (WO.wrap WO.u64 (Int.fdiv (WO.i64.wrap (lr (aQ a w) w)) (2^min (VB (WO.wrap WO.u64 (↑(Vy (Vh (64:Nat) (aQ b w)&&&Vh (64:Nat) (WO.wrap WO.u64 (WO.wrap WO.i8 (w - 1))))):Int))) (64:Nat)))) w
 exact (qD (d:= .aM [.int .u64 (aQ (WO.wrap WO.u64 (Int.fdiv (WO.i64.wrap (lr (aQ a w) w)) (2^min (VB (WO.wrap WO.u64 (↑(Vy (Vh (64:Nat) (aQ b w)&&&Vh (64:Nat) (WO.wrap WO.u64 (WO.wrap WO.i8 (w - 1))))):Int))) (64:Nat)))) w),.int .i64 0]) [tT,tT,tF,tT,tT,.ret _ _ _ c0,tT,tF,tF,.ret _ _ _ c1,.ret _ _ _ c2,.inl,tT,.get ([D.fn (Ve 153) [] [],D.fn (Ve 154) [] [],D.fn (Ve 155) [] [],D.fn (Ve 156) [] [],D.fn (Ve 157) [] [],D.fn (Ve 158) [] [],D.fn (Ve 159) [] [],D.fn (Ve 160) [] [],D.fn (Ve 161) [] [],D.fn (Ve 162) [] [],D.fn (Ve 163) [] [],D.fn (Ve 164) [] [],D.fn (Ve 165) [] []]) 12 (D.fn (Ve 165) [] []) rfl,.inl,.ret _ _ _ c3,tT,.ret _ _ _ c4] (by kernel_rfl)).to (by first|((simp only [wk,aB,and_true];repeat' (first|rfl|exact VS|apply VY));done)|(simp [wk,aB,gd,qB,];done)|(simp [wk,aB,gd,qB,u64, *];done))
theorem cg:aZ Tryz.prog 107 ([]) (fD false false false false false):=by
 exact (KU (d:= .agg [.bool false,.bool false,.bool false,.bool false,.bool false]) [] (by kernel_rfl)).to (by first|((simp only [wk,aB,and_true];repeat' (first|rfl|exact VS|apply VY));done)|(simp [wk,aB,];done))
theorem kX (v w:Int):aZ Tryz.prog 144 ([.int .u64 v,.int .i8 w]) (.bool (gp v w)):=by
 have c0:= @zm v w
 exact (KN (d:= .bool (decide (WO.i64.wrap (lr v w)<0))) [.ret _ _ _ c0] (by kernel_rfl)).to (by first|((simp only [wk,aB,and_true];repeat' (first|rfl|exact VS|apply VY));done)|(simp [wk,aB,];done))
theorem iY (w v:Int) (hw:au w=true):aZ Tryz.prog 114 ([.int .i8 w,.int .u64 v]) (.aM [fD true false (aQ v w==0) (gp v w) false,.int .i64 0]):=by
 by_cases h0:w=32
 ·subst h0
  have c1:= @bS v 32
  have c2:= @kX v 32
  exact (Ht (d:= .aM [.agg [.bool true,.bool false,.bool (aQ v 32==0),.bool (gp v 32),.bool false],.int .i64 0]) [tF,tF,tF,tF,.ret _ _ _ c1,.ret _ _ _ c2] (by kernel_rfl)).to (by first|((simp only [wk,aB,and_true];repeat' (first|rfl|exact VS|apply VY));done)|(exfalso;simp [au] at*;done)|(exfalso;simp [au] at*;omega))
 by_cases h3:w=64
 ·subst h3
  have c4:= @bS v 64
  have c5:= @kX v 64
  exact (Ht (d:= .aM [.agg [.bool true,.bool false,.bool (aQ v 64==0),.bool (gp v 64),.bool false],.int .i64 0]) [tC (eT (nt (aL h0))),tC (eT (nt (aL h0))),tC (nt (aL h0)),tF,.ret _ _ _ c4,.ret _ _ _ c5] (by kernel_rfl)).to (by first|((simp only [wk,aB,and_true];repeat' (first|rfl|exact VS|apply VY));done)|(exfalso;simp [au] at*;done)|(exfalso;simp [au] at*;omega))
 exact (Ht (d:= .aM [.agg [.bool false,.bool false,.bool false,.bool false,.bool false],.int .i64 2]) [tC (eT (nt (aL h0))),tC (eT (nt (aL h0))),tC (nt (aL h0)),tC (nt (aL h3))] (by kernel_rfl)).to (by first|((simp only [wk,aB,and_true];repeat' (first|rfl|exact VS|apply VY));done)|(exfalso;simp [au] at*;done)|(exfalso;simp [au] at*;omega))
theorem Aa (w a b:Int) (hw:au w=true):aZ Tryz.prog 112 ([.int .i8 w,.int .u64 a,.int .u64 b]) (.aM [fD true (GA w a b) (aQ (u64 (a+b)) w==0) (gp (u64 (a+b)) w) (Gz w a b),.int .i64 0]):=by
 have c0:= @iY w (WO.wrap WO.u64 (a+b)) hw
 have c1:= @bS (WO.wrap WO.u64 (a+b)) w
 have c2:= @bS a w
 have c3:= @kX (WO.wrap WO.u64 (↑(Vy (Vh (64:Nat) (WO.wrap WO.u64 (↑(Vy (Vh (64:Nat) a^^^Vh (64:Nat) (WO.wrap WO.u64 (a+b)))):Int))&&&Vh (64:Nat) (WO.wrap WO.u64 (↑(Vy (Vh (64:Nat) b^^^Vh (64:Nat) (WO.wrap WO.u64 (a+b)))):Int)))):Int)) w
 exact (KT (d:= .aM [.agg [.bool true,.bool (decide (aQ (WO.wrap WO.u64 (a+b)) w<aQ a w)),.bool (aQ (WO.wrap WO.u64 (a+b)) w==0),.bool (gp (WO.wrap WO.u64 (a+b)) w),.bool (gp (WO.wrap WO.u64 (↑(Vy (Vh (64:Nat) (WO.wrap WO.u64 (↑(Vy (Vh (64:Nat) a^^^Vh (64:Nat) (WO.wrap WO.u64 (a+b)))):Int))&&&Vh (64:Nat) (WO.wrap WO.u64 (↑(Vy (Vh (64:Nat) b^^^Vh (64:Nat) (WO.wrap WO.u64 (a+b)))):Int)))):Int)) w)],.int .i64 0]) [.ret _ _ _ c0,tF,.ret _ _ _ c1,.ret _ _ _ c2,.ret _ _ _ c3] (by kernel_rfl)).to (by first|((simp only [wk,aB,and_true];repeat' (first|rfl|exact VS|apply VY));done)|(simp [wk,aB,];done))
theorem mF (w a b:Int) (hw:au w=true):aZ Tryz.prog 113 ([.int .i8 w,.int .u64 a,.int .u64 b]) (.aM [fD true (Aw w a b) (aQ (u64 (a - b)) w==0) (gp (u64 (a - b)) w) (Au w a b),.int .i64 0]):=by
 have c0:= @iY w (WO.wrap WO.u64 (a - b)) hw
 have c1:= @bS a w
 have c2:= @bS b w
 have c3:= @kX (WO.wrap WO.u64 (↑(Vy (Vh (64:Nat) (WO.wrap WO.u64 (↑(Vy (Vh (64:Nat) a^^^Vh (64:Nat) b)):Int))&&&Vh (64:Nat) (WO.wrap WO.u64 (↑(Vy (Vh (64:Nat) a^^^Vh (64:Nat) (WO.wrap WO.u64 (a - b)))):Int)))):Int)) w
 exact (KS (d:= .aM [.agg [.bool true,.bool (decide (aQ a w<aQ b w)),.bool (aQ (WO.wrap WO.u64 (a - b)) w==0),.bool (gp (WO.wrap WO.u64 (a - b)) w),.bool (gp (WO.wrap WO.u64 (↑(Vy (Vh (64:Nat) (WO.wrap WO.u64 (↑(Vy (Vh (64:Nat) a^^^Vh (64:Nat) b)):Int))&&&Vh (64:Nat) (WO.wrap WO.u64 (↑(Vy (Vh (64:Nat) a^^^Vh (64:Nat) (WO.wrap WO.u64 (a - b)))):Int)))):Int)) w)],.int .i64 0]) [.ret _ _ _ c0,tF,.ret _ _ _ c1,.ret _ _ _ c2,.ret _ _ _ c3] (by kernel_rfl)).to (by first|((simp only [wk,aB,and_true];repeat' (first|rfl|exact VS|apply VY));done)|(simp [wk,aB,];done))
end Go.Proofs.YtkpneibifdoecaaGreat
