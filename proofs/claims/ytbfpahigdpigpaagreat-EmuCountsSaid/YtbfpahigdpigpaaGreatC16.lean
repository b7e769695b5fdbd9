import Derived.Test.YtbfpahigdpigpaaGreatC02
import Derived.Test.YtbfpahigdpigpaaGreatC09
import Derived.Test.YtbfpahigdpigpaaGreatC11
import Derived.Test.YtbfpahigdpigpaaGreatC15
open List renaming replicate→Sx,length→SA,getD_eq_getElem?_getD→SK,getElem?_eq_none→SN,length_append→SS,set→SV,getElem?_map→SW,length_cons→SX,length_nil→S3,getElem?_eq_getElem→Th,length_set→Tj,length_replicate→Tp,getElem?_append→Tx,mem_cons→TJ,getElem?_replicate→T2,mem_cons_of_mem→T5
open Int renaming toNat→Sz,lt_add_one_of_le→SC,not_lt→SD
open Option renaming map_eq_some_iff→SU
open Go.Value renaming int→S6
open Go renaming IntKind→T8
/- Contracts and plain laws that a statement's proof leans on (texts merged:EM17,EM18,EvZ,ECA,EC1,EC2,EC0,ECB,MdEo,ECC). -/
set_option linter.unusedVariables false
set_option linter.unusedSimpArgs false
set_option maxRecDepth 100000
set_option maxHeartbeats 8000000
namespace Go.Proofs.YtbfpahigdpigpaaGreat
open Go Go.Ev
abbrev DY (cb cx an:List Int) (f:Nat):iH×Nat:=ej cb f (fL cx an)
def BU (e:iH):Int:=if e.en=1 then e.m.q0 else 0
abbrev Jb (r:iH×Nat):D:= .aC [.agg [.int .i8 r.1.en,.int .u64 (BU r.1),.aj .no 1 (bD r.1.cx),.aj .no 3 (ev r.1.tr),.int .i64 (r.2:Int)],.int .i64 0]
theorem uA (cb cx an:List Int) (f:Nat) (hb:fO cb) (lc:cb.length≤16384) (lx:cx.length≤256) (hf:f≤100000):
  aF Tryz.prog 10 [.aj .no 1 (bD cb),.aj .no 1 (bD cx),.aj .no 1 (wD an),.int .i64 (f:Int)] (Jb (ej cb f (fL cx an))):=by
 have hl:=(uz cb f (fL cx an)).1
 cases hR':ej cb f (fL cx an) with
 |mk E lf=>
 rw [hR'] at hl
 have MG:E.cx.length=cx.length:=hl
 have R6:(bD cb).length≤16384:=by rw [aN];exact lc
 have RJ:(bD cx).length≤256:=by rw [aN];exact lx
 have lE:(bD E.cx).length≤256:=by rw [aN,MG];exact lx
 have mE:(Nat.beq (SA (bD E.cx)) (Sz ((bD E.cx).length:Int))&&List.all (bD E.cx) isByte)=true:=by rw [a9,Int.toNat_natCast];simp
 by_cases he:E.en=0
 ·have:=Gs cb cx an f E lf (by omega) (by omega) hb R6 RJ hf hR' (bC _) (bC _) (a9 _) (a9 _) lE (bC _) (a9 _) mE he
  have e0:BU E=0:=by unfold BU;rw [if_neg (by omega)]
  unfold Jb
  rw [e0]
  exact this
 ·by_cases h1:E.en=1
  ·have:=Gr cb cx an f E lf (by omega) (by omega) hb R6 RJ hf hR' (bC _) (bC _) (a9 _) (a9 _) lE (bC _) (a9 _) mE he h1
   have e0:BU E=E.m.q0:=by unfold BU;rw [if_pos h1]
   unfold Jb
   rw [e0]
   exact this
  ·have:=Gq cb cx an f E lf (by omega) (by omega) hb R6 RJ hf hR' (bC _) (bC _) (a9 _) (a9 _) lE (bC _) (a9 _) mE he h1
   have e0:BU E=0:=by unfold BU;rw [if_neg h1]
   unfold Jb
   rw [e0]
   exact this
theorem HP:aF Tryz.prog 10 [.aj .no 1 [.int .u8 184,.int .u8 5,.int .u8 0,.int .u8 0,.int .u8 0,.int .u8 195],.aj .tight 0 [],.aj .tight 0 [],.int .i64 9] (.aC [.agg [.int .i8 1,.int .u64 5,.aj .no 1 [],.aj .no 3 [],.int .i64 7],.int .i64 0]):=by
 have h:=uA [184,5,0,0,0,195] [] [] 9 (by simp [fO]) (by decide) (by decide) (by decide)
 have e1:(DY [184,5,0,0,0,195] [] [] 9).1.en=1:=by kernel_rfl
 have e2:(DY [184,5,0,0,0,195] [] [] 9).1.m.q0=5:=by kernel_rfl
 have e3:(DY [184,5,0,0,0,195] [] [] 9).1.cx= []:=by kernel_rfl
 have e4:(DY [184,5,0,0,0,195] [] [] 9).1.tr= []:=by kernel_rfl
 have e5:(DY [184,5,0,0,0,195] [] [] 9).2=7:=by kernel_rfl
 have e6:BU (DY [184,5,0,0,0,195] [] [] 9).1=5:=by unfold BU;rw [if_pos e1,e2]
 unfold Jb at h
 rw [e1,e3,e4,e5,e6] at h
 exact h.args (by simp [wk,ax,aO,bD,wD])
theorem HO:aF Tryz.prog 10 [.aj .tight 0 [],.aj .tight 0 [],.aj .tight 0 [],.int .i64 9] (.aC [.agg [.int .i8 3,.int .u64 0,.aj .no 1 [],.aj .no 3 [],.int .i64 8],.int .i64 0]):=by
 have h:=uA [] [] [] 9 (by simp [fO]) (by decide) (by decide) (by decide)
 have e1:(DY [] [] [] 9).1.en=3:=by kernel_rfl
 have e3:(DY [] [] [] 9).1.cx= []:=by kernel_rfl
 have e4:(DY [] [] [] 9).1.tr= []:=by kernel_rfl
 have e5:(DY [] [] [] 9).2=8:=by kernel_rfl
 have e6:BU (DY [] [] [] 9).1=0:=by unfold BU;rw [e1];rfl
 unfold Jb at h
 rw [e1,e3,e4,e5,e6] at h
 exact h.args (by simp [wk,ax,aO,bD,wD])
theorem DW:aF Tryz.prog 10 [.aj .no 1 [.int .u8 184,.int .u8 5,.int .u8 0,.int .u8 0,.int .u8 0,.int .u8 195],.aj .tight 0 [],.aj .tight 0 [],.int .i64 9] (.aC [.agg [.int .i8 1,.int .u64 5,.aj .no 1 [],.aj .no 3 [],.int .i64 7],.int .i64 0]):=HP
theorem DV:aF Tryz.prog 10 [.aj .tight 0 [],.aj .tight 0 [],.aj .tight 0 [],.int .i64 9] (.aC [.agg [.int .i8 3,.int .u64 0,.aj .no 1 [],.aj .no 3 [],.int .i64 8],.int .i64 0]):=HO
theorem xN:aF Tryz.prog 9 ([]) (.bool true):=by
 have c0:=aF.args (as':= [.aj .tight 8 [(xD 1 32 0 0 0 0 5 0),(xD 30 0 0 0 0 0 0 0)]]) (@zD) (by simp [ax,wk,aO])
 have c1:= @DW
 have c2:= @DV
 exact (aF.ab (d:= .bool true) mixed Tryz.func9 (by kernel_rfl) ([.ret _ _ _ c0,.ret _ _ _ c1,.ret _ _ _ c2,tT,tT,tT,tT,tT,tT,tT,tT,tT,tT,tT,tT,tT]++ [tT,tT,tT,tT,tT,tT,tT,.inl,tT,tT,tT,tT]) (by kernel_rfl)).to (by first|(simp [wk];done)|(simp [wk];assumption))
theorem G4 (cb cx an:List Int) (f:Int) (h:2000<((bD cb).length:Int)) (h2:((bD cb).length:Int)≤16384):aF Tryz.prog 8 ([.aj .no 1 (bD cb),.aj .no 1 (bD cx),.aj .no 1 (wD an),.int .i64 f]) (.bool true):=by
 exact (aF.ab (d:= .bool true) mixed Tryz.func8 (by kernel_rfl) (Sx 3 (tC (eT (aY 2000 (decide_eq_false (by omega:¬(↑(SA (bD cb)):Int)<2001)))))++ [tC (aY 2000 (decide_eq_false (by omega:¬(↑(SA (bD cb)):Int)<2001)))]++Sx 3 (tC (eF (dP 16384 (decide_eq_true (SC h2)))))++ [tC (dP 16384 (decide_eq_true (SC h2))),tF,tF,tF,tT,tF,tF,tF,tT]++ [tF,tF,tF,tF,tT]) (by kernel_rfl)).to (by first|(simp [wk];done)|(simp [wk];assumption))
theorem G6 (cb cx an:List Int) (f:Int) (h:20000<((bD cb).length:Int)):aF Tryz.prog 8 ([.aj .no 1 (bD cb),.aj .no 1 (bD cx),.aj .no 1 (wD an),.int .i64 f]) (.bool true):=by
 exact (aF.ab (d:= .bool true) mixed Tryz.func8 (by kernel_rfl) (Sx 3 (tC (eT (aY 2000 (lb 2001 (decide_eq_false (by omega:¬(↑(SA (bD cb)):Int)<20001))))))++ [tC (aY 2000 (lb 2001 (decide_eq_false (by omega:¬(↑(SA (bD cb)):Int)<20001))))]++Sx 3 (tC (eF (dP 16384 (lb 16385 (decide_eq_false (by omega:¬(↑(SA (bD cb)):Int)<20001))))))++ [tC (dP 16384 (lb 16385 (decide_eq_false (by omega:¬(↑(SA (bD cb)):Int)<20001))))]++Sx 3 (tC (eF (aY 20000 (decide_eq_false (by omega:¬(↑(SA (bD cb)):Int)<20001)))))++ [tC (aY 20000 (decide_eq_false (by omega:¬(↑(SA (bD cb)):Int)<20001))),tF,tF,tF,tT]++ [tF,tF,tF,tF,tT]) (by kernel_rfl)).to (by first|(simp [wk];done)|(simp [wk];assumption))
theorem G3 (cb cx an:List Int) (f:Int) (h:((bD cb).length:Int)≤2000) (hx:400<((bD cx).length:Int)):aF Tryz.prog 8 ([.aj .no 1 (bD cb),.aj .no 1 (bD cx),.aj .no 1 (wD an),.int .i64 f]) (.bool true):=by
 exact (aF.ab (d:= .bool true) mixed Tryz.func8 (by kernel_rfl) (Sx 3 (tC (eT (aY 2000 (decide_eq_true (SC h)))))++ [tC (aY 2000 (decide_eq_true (SC h))),tT,tT,tT,tF]++Sx 3 (tC (eF (aY 20000 (CG 20001 (decide_eq_true (SC h))))))++ [tC (aY 20000 (CG 20001 (decide_eq_true (SC h))))]++Sx 3 (tC (eF (aY 400 (decide_eq_false (by omega:¬(↑(SA (bD cx)):Int)<401)))))++ [tC (aY 400 (decide_eq_false (by omega:¬(↑(SA (bD cx)):Int)<401)))]++ [tF,tF,tF,tF,tT]) (by kernel_rfl)).to (by first|(simp [wk];done)|(simp [wk];assumption))
theorem G7 (cb cx an:List Int) (f:Int) (h:((bD cb).length:Int)≤2000) (hx:((bD cx).length:Int)≤400) (ha:400<((wD an).length:Int)):aF Tryz.prog 8 ([.aj .no 1 (bD cb),.aj .no 1 (bD cx),.aj .no 1 (wD an),.int .i64 f]) (.bool true):=by
 exact (aF.ab (d:= .bool true) mixed Tryz.func8 (by kernel_rfl) (Sx 3 (tC (eT (aY 2000 (decide_eq_true (SC h)))))++ [tC (aY 2000 (decide_eq_true (SC h))),tT,tT,tT,tF]++Sx 3 (tC (eF (aY 20000 (CG 20001 (decide_eq_true (SC h))))))++ [tC (aY 20000 (CG 20001 (decide_eq_true (SC h))))]++Sx 3 (tC (eF (aY 400 (decide_eq_true (SC hx)))))++ [tC (aY 400 (decide_eq_true (SC hx)))]++Sx 4 (tC (eF (aY 400 (decide_eq_false (by omega:¬(↑(SA (wD an)):Int)<401)))))++ [tC (aY 400 (decide_eq_false (by omega:¬(↑(SA (wD an)):Int)<401)))]) (by kernel_rfl)).to (by first|(simp [wk];done)|(simp [wk];assumption))
theorem G5 (cb cx an:List Int) (f:Int) (h:((bD cb).length:Int)≤2000) (hx:((bD cx).length:Int)≤400) (ha:((wD an).length:Int)≤400) (hf:3000<f) (hg:f≤640064):aF Tryz.prog 8 ([.aj .no 1 (bD cb),.aj .no 1 (bD cx),.aj .no 1 (wD an),.int .i64 f]) (.bool true):=by
 exact (aF.ab (d:= .bool (decide (f≤640064))) mixed Tryz.func8 (by kernel_rfl) (Sx 3 (tC (eT (aY 2000 (decide_eq_true (SC h)))))++ [tC (aY 2000 (decide_eq_true (SC h))),tT,tT,tT,tF]++Sx 3 (tC (eF (aY 20000 (CG 20001 (decide_eq_true (SC h))))))++ [tC (aY 20000 (CG 20001 (decide_eq_true (SC h))))]++Sx 3 (tC (eF (aY 400 (decide_eq_true (SC hx)))))++ [tC (aY 400 (decide_eq_true (SC hx)))]++Sx 3 (tC (eF (aY 400 (decide_eq_true (SC ha)))))++Sx 2 (tC (eT (aY 3000 (decide_eq_false (by omega:¬f<3001)))))++ [tC (eF (aY 400 (decide_eq_true (SC ha)))),tC (aY 3000 (decide_eq_false (by omega:¬f<3001))),tC (aY 400 (decide_eq_true (SC ha)))]) (by kernel_rfl)).to (by first|(simp [wk];done)|(simp [wk];assumption))
theorem Fp (cb cx an:List Int) (f:Int) (h:((bD cb).length:Int)≤2000) (hx:((bD cx).length:Int)≤400) (ha:((wD an).length:Int)≤400) (hf:f≤3000):aF Tryz.prog 8 ([.aj .no 1 (bD cb),.aj .no 1 (bD cx),.aj .no 1 (wD an),.int .i64 f]) (.bool false):=by
 exact (aF.ab (d:= .bool false) mixed Tryz.func8 (by kernel_rfl) (Sx 3 (tC (eT (aY 2000 (decide_eq_true (SC h)))))++ [tC (aY 2000 (decide_eq_true (SC h))),tT,tT,tT,tF]++Sx 3 (tC (eF (aY 20000 (CG 20001 (decide_eq_true (SC h))))))++ [tC (aY 20000 (CG 20001 (decide_eq_true (SC h))))]++Sx 3 (tC (eF (aY 400 (decide_eq_true (SC hx)))))++ [tC (aY 400 (decide_eq_true (SC hx)))]++Sx 3 (tC (eF (aY 400 (decide_eq_true (SC ha)))))++Sx 2 (tC (eT (aY 3000 (decide_eq_true (SC hf)))))++ [tC (eF (aY 400 (decide_eq_true (SC ha)))),tC (aY 3000 (decide_eq_true (SC hf))),tC (aY 400 (decide_eq_true (SC ha)))]) (by kernel_rfl)).to (by first|(simp [wk];done)|(simp [wk];assumption))
theorem Fo (cb cx an:List Int) (f:Int) (h:((bD cb).length:Int)≤2000) (hx:((bD cx).length:Int)≤400) (ha:((wD an).length:Int)≤400) (hg:640064<f):aF Tryz.prog 8 ([.aj .no 1 (bD cb),.aj .no 1 (bD cx),.aj .no 1 (wD an),.int .i64 f]) (.bool false):=by
 exact (aF.ab (d:= .bool (decide (f≤640064))) mixed Tryz.func8 (by kernel_rfl) (Sx 3 (tC (eT (aY 2000 (decide_eq_true (SC h)))))++ [tC (aY 2000 (decide_eq_true (SC h))),tT,tT,tT,tF]++Sx 3 (tC (eF (aY 20000 (CG 20001 (decide_eq_true (SC h))))))++ [tC (aY 20000 (CG 20001 (decide_eq_true (SC h))))]++Sx 3 (tC (eF (aY 400 (decide_eq_true (SC hx)))))++ [tC (aY 400 (decide_eq_true (SC hx)))]++Sx 3 (tC (eF (aY 400 (decide_eq_true (SC ha)))))++Sx 2 (tC (eT (aY 3000 (lb 3001 (decide_eq_false (by omega:¬f<640065))))))++ [tC (eF (aY 400 (decide_eq_true (SC ha)))),tC (aY 3000 (lb 3001 (decide_eq_false (by omega:¬f<640065)))),tC (aY 400 (decide_eq_true (SC ha)))]) (by kernel_rfl)).to (by first|(simp [wk];done)|(simp [wk];assumption))
theorem Fm (cb cx an:List Int) (f:Int) (h:16384<((bD cb).length:Int)) (h2:((bD cb).length:Int)≤20000) (hx:400<((bD cx).length:Int)):aF Tryz.prog 8 ([.aj .no 1 (bD cb),.aj .no 1 (bD cx),.aj .no 1 (wD an),.int .i64 f]) (.bool true):=by
 exact (aF.ab (d:= .bool true) mixed Tryz.func8 (by kernel_rfl) (Sx 3 (tC (eT (aY 2000 (lb 2001 (decide_eq_false (by omega:¬(↑(SA (bD cb)):Int)<16385))))))++ [tC (aY 2000 (lb 2001 (decide_eq_false (by omega:¬(↑(SA (bD cb)):Int)<16385))))]++Sx 3 (tC (eF (dP 16384 (decide_eq_false (by omega:¬(↑(SA (bD cb)):Int)<16385)))))++ [tC (dP 16384 (decide_eq_false (by omega:¬(↑(SA (bD cb)):Int)<16385)))]++Sx 3 (tC (eF (aY 20000 (decide_eq_true (SC h2)))))++ [tC (aY 20000 (decide_eq_true (SC h2)))]++Sx 3 (tC (eF (aY 400 (decide_eq_false (by omega:¬(↑(SA (bD cx)):Int)<401)))))++ [tC (aY 400 (decide_eq_false (by omega:¬(↑(SA (bD cx)):Int)<401)))]++ [tF,tF,tF,tF,tT]) (by kernel_rfl)).to (by first|(simp [wk];done)|(simp [wk];assumption))
theorem Fs (cb cx an:List Int) (f:Int) (h:16384<((bD cb).length:Int)) (h2:((bD cb).length:Int)≤20000) (hx:((bD cx).length:Int)≤400) (ha:400<((wD an).length:Int)):aF Tryz.prog 8 ([.aj .no 1 (bD cb),.aj .no 1 (bD cx),.aj .no 1 (wD an),.int .i64 f]) (.bool true):=by
 exact (aF.ab (d:= .bool true) mixed Tryz.func8 (by kernel_rfl) (Sx 3 (tC (eT (aY 2000 (lb 2001 (decide_eq_false (by omega:¬(↑(SA (bD cb)):Int)<16385))))))++ [tC (aY 2000 (lb 2001 (decide_eq_false (by omega:¬(↑(SA (bD cb)):Int)<16385))))]++Sx 3 (tC (eF (dP 16384 (decide_eq_false (by omega:¬(↑(SA (bD cb)):Int)<16385)))))++ [tC (dP 16384 (decide_eq_false (by omega:¬(↑(SA (bD cb)):Int)<16385)))]++Sx 3 (tC (eF (aY 20000 (decide_eq_true (SC h2)))))++ [tC (aY 20000 (decide_eq_true (SC h2)))]++Sx 3 (tC (eF (aY 400 (decide_eq_true (SC hx)))))++ [tC (aY 400 (decide_eq_true (SC hx)))]++Sx 4 (tC (eF (aY 400 (decide_eq_false (by omega:¬(↑(SA (wD an)):Int)<401)))))++ [tC (aY 400 (decide_eq_false (by omega:¬(↑(SA (wD an)):Int)<401)))]) (by kernel_rfl)).to (by first|(simp [wk];done)|(simp [wk];assumption))
theorem Fq (cb cx an:List Int) (f:Int) (h:16384<((bD cb).length:Int)) (h2:((bD cb).length:Int)≤20000) (hx:((bD cx).length:Int)≤400) (ha:((wD an).length:Int)≤400) (hf:3000<f) (hg:f≤640064):aF Tryz.prog 8 ([.aj .no 1 (bD cb),.aj .no 1 (bD cx),.aj .no 1 (wD an),.int .i64 f]) (.bool true):=by
 exact (aF.ab (d:= .bool (decide (f≤640064))) mixed Tryz.func8 (by kernel_rfl) (Sx 3 (tC (eT (aY 2000 (lb 2001 (decide_eq_false (by omega:¬(↑(SA (bD cb)):Int)<16385))))))++ [tC (aY 2000 (lb 2001 (decide_eq_false (by omega:¬(↑(SA (bD cb)):Int)<16385))))]++Sx 3 (tC (eF (dP 16384 (decide_eq_false (by omega:¬(↑(SA (bD cb)):Int)<16385)))))++ [tC (dP 16384 (decide_eq_false (by omega:¬(↑(SA (bD cb)):Int)<16385)))]++Sx 3 (tC (eF (aY 20000 (decide_eq_true (SC h2)))))++ [tC (aY 20000 (decide_eq_true (SC h2)))]++Sx 3 (tC (eF (aY 400 (decide_eq_true (SC hx)))))++ [tC (aY 400 (decide_eq_true (SC hx)))]++Sx 3 (tC (eF (aY 400 (decide_eq_true (SC ha)))))++Sx 2 (tC (eT (aY 3000 (decide_eq_false (by omega:¬f<3001)))))++ [tC (eF (aY 400 (decide_eq_true (SC ha)))),tC (aY 3000 (decide_eq_false (by omega:¬f<3001))),tC (aY 400 (decide_eq_true (SC ha)))]) (by kernel_rfl)).to (by first|(simp [wk];done)|(simp [wk];assumption))
theorem CQ (cb cx an:List Int) (f:Int) (h:16384<((bD cb).length:Int)) (h2:((bD cb).length:Int)≤20000) (hx:((bD cx).length:Int)≤400) (ha:((wD an).length:Int)≤400) (hf:f≤3000):aF Tryz.prog 8 ([.aj .no 1 (bD cb),.aj .no 1 (bD cx),.aj .no 1 (wD an),.int .i64 f]) (.bool false):=by
 exact (aF.ab (d:= .bool false) mixed Tryz.func8 (by kernel_rfl) (Sx 3 (tC (eT (aY 2000 (lb 2001 (decide_eq_false (by omega:¬(↑(SA (bD cb)):Int)<16385))))))++ [tC (aY 2000 (lb 2001 (decide_eq_false (by omega:¬(↑(SA (bD cb)):Int)<16385))))]++Sx 3 (tC (eF (dP 16384 (decide_eq_false (by omega:¬(↑(SA (bD cb)):Int)<16385)))))++ [tC (dP 16384 (decide_eq_false (by omega:¬(↑(SA (bD cb)):Int)<16385)))]++Sx 3 (tC (eF (aY 20000 (decide_eq_true (SC h2)))))++ [tC (aY 20000 (decide_eq_true (SC h2)))]++Sx 3 (tC (eF (aY 400 (decide_eq_true (SC hx)))))++ [tC (aY 400 (decide_eq_true (SC hx)))]++Sx 3 (tC (eF (aY 400 (decide_eq_true (SC ha)))))++Sx 2 (tC (eT (aY 3000 (decide_eq_true (SC hf)))))++ [tC (eF (aY 400 (decide_eq_true (SC ha)))),tC (aY 3000 (decide_eq_true (SC hf))),tC (aY 400 (decide_eq_true (SC ha)))]) (by kernel_rfl)).to (by first|(simp [wk];done)|(simp [wk];assumption))
theorem CP (cb cx an:List Int) (f:Int) (h:16384<((bD cb).length:Int)) (h2:((bD cb).length:Int)≤20000) (hx:((bD cx).length:Int)≤400) (ha:((wD an).length:Int)≤400) (hg:640064<f):aF Tryz.prog 8 ([.aj .no 1 (bD cb),.aj .no 1 (bD cx),.aj .no 1 (wD an),.int .i64 f]) (.bool false):=by
 exact (aF.ab (d:= .bool (decide (f≤640064))) mixed Tryz.func8 (by kernel_rfl) (Sx 3 (tC (eT (aY 2000 (lb 2001 (decide_eq_false (by omega:¬(↑(SA (bD cb)):Int)<16385))))))++ [tC (aY 2000 (lb 2001 (decide_eq_false (by omega:¬(↑(SA (bD cb)):Int)<16385))))]++Sx 3 (tC (eF (dP 16384 (decide_eq_false (by omega:¬(↑(SA (bD cb)):Int)<16385)))))++ [tC (dP 16384 (decide_eq_false (by omega:¬(↑(SA (bD cb)):Int)<16385)))]++Sx 3 (tC (eF (aY 20000 (decide_eq_true (SC h2)))))++ [tC (aY 20000 (decide_eq_true (SC h2)))]++Sx 3 (tC (eF (aY 400 (decide_eq_true (SC hx)))))++ [tC (aY 400 (decide_eq_true (SC hx)))]++Sx 3 (tC (eF (aY 400 (decide_eq_true (SC ha)))))++Sx 2 (tC (eT (aY 3000 (lb 3001 (decide_eq_false (by omega:¬f<640065))))))++ [tC (eF (aY 400 (decide_eq_true (SC ha)))),tC (aY 3000 (lb 3001 (decide_eq_false (by omega:¬f<640065)))),tC (aY 400 (decide_eq_true (SC ha)))]) (by kernel_rfl)).to (by first|(simp [wk];done)|(simp [wk];assumption))
end Go.Proofs.YtbfpahigdpigpaaGreat
namespace Go.Ev
open Go Go.RowKit
def jI.rn (f:Nat→Nat):jI→jI
  | .tok t v=> .tok (f t) v
  |o=>o
mutual
def D.rn (f:Nat→Nat):D→D
  | .ptr q id off=> .ptr q (f id) off
  | .cB id=> .cB (f id)
  | .hE id=> .hE (f id)
  | .cS id sz n=> .cS (f id) sz n
  | .sub id off sz n c=> .sub (f id) off sz n c
  | .aj o sz xs=> .aj (o.rn f) sz xs
  | .agg cs=> .agg (D.jQ f cs)
  | .aC cs=> .aC (D.jQ f cs)
  | .fn g a b=> .fn g (D.jQ f a) (D.jQ f b)
  |d=>d
def D.jQ (f:Nat→Nat):List D→List D
  | []=> []
  |d::r=>d.rn f::D.jQ f r
end
theorem D.gh (f:Nat→Nat) (l:List D):D.jQ f l=l.map (D.rn f):=by
 induction l with
 |nil=>simp [D.jQ]
 |cons d r ih=>simp [D.jQ,ih]
def Ob.rn (f:Nat→Nat):Ob→Ob
  | .box cs=> .box (D.jQ f cs)
  | .lp k t ps ag bd=> .lp k (D.jQ f t) ps ag bd
  |o=>o
def MM.pull (M:MM) (f:Nat→Nat):MM:=⟨M.cell,fun i=>M.box (f i),fun i v=>M.bl (f i) v,M.eB⟩
theorem bk.push {M:MM} {d:D} {v:Value} (h:bk M d v) (f:Nat→Nat):∀ {M':MM},(∀b o v,M.cell b o=some v→M'.cell b o=some v)→(∀id b,M.box id=some b→M'.box (f id)=some b)→(∀t v x,M.bl t v=some x→M'.bl (f t) v=some x)→bk M' (d.rn f) v:=by
 induction h with
 |undef v=>intro _ _ _ _;rw [D.rn];exact .undef v;all_goals (intros;contradiction)
 |int k n=>intro _ _ _ _;exact .int k n
 |bool b=>intro _ _ _ _;exact .bool b
 |str s=>intro _ _ _ _;exact .str s
 |eL=>intro _ _ _ _;exact .eL
 |ptr q h=>intro _ _ hb _;exact .ptr q (hb _ _ h)
 |dG q vs hx hc hr ih=>
  intro _ c _ _
  exact .dG q vs hx (fun j x h=>c _ _ _ (hc j x h)) (fun j x h=>(hr j x h).mono ⟨c,fun _ _ y=>y,fun _ _ _ y=>y,fun _ y=>y⟩)
 |cB h=>intro _ _ hb _;exact .cB (hb _ _ h)
 |hE h=>intro _ _ hb _;exact .hE (hb _ _ h)
 |cS h hh hc=>intro _ _ hb hs;exact .cS (hb _ _ h) (hs _ _ _ hh) hc
 |sub h hc hp ho=>intro _ _ hb _;exact .sub (hb _ _ h) hc hp ho
 |aj b off vs hl LH ha LR hc hr LL ho ih=>
  rename_i o _ _ _ _ _
  intro _ c _ hs
  refine .aj b off vs hl LH ha LR (fun i x cs j y h1 h2 h3=>c _ _ _ (hc i x cs j y h1 h2 h3)) (fun i x cs j y h1 h2 h3=>(hr i x cs j y h1 h2 h3).mono ⟨c,fun _ _ y=>y,fun _ _ _ y=>y,fun _ y=>y⟩) LL ?_
  cases o with
  |tok t v=>exact hs _ _ _ ho
  |_=>exact ho
 |aq=>intro _ _ _ _;exact .aq
 |fn h1 h2 r1 r2 i1 i2=>
  intro _ c hb hs
  rw [D.rn,D.gh,D.gh]
  refine .fn (by simpa using h1) (by simpa using h2) ?_ ?_
  ·intro i d v a b
   rw [SW,SU] at a
   obtain ⟨d0,h0,rfl⟩:=a
   exact i1 i d0 v h0 b c hb hs
  ·intro i d v a b
   rw [SW,SU] at a
   obtain ⟨d0,h0,rfl⟩:=a
   exact i2 i d0 v h0 b c hb hs
 |agg h r ih=>
  intro _ c hb hs
  rw [D.rn,D.gh]
  refine .agg (by simpa using h) ?_
  intro i d v a b
  rw [SW,SU] at a
  obtain ⟨d0,h0,rfl⟩:=a
  exact ih i d0 v h0 b c hb hs
 |aC h r ih=>
  intro _ c hb hs
  rw [D.rn,D.gh]
  refine .aC (by simpa using h) ?_
  intro i d v a b
  rw [SW,SU] at a
  obtain ⟨d0,h0,rfl⟩:=a
  exact ih i d0 v h0 b c hb hs
mutual
theorem bk.pull (M:MM) (f:Nat→Nat):∀(d:D) (v:Value),bk M (d.rn f) v→bk (M.pull f) d v
  | .undef,v,_=> .undef v
  | .int k n,_,h=>by cases h;exact .int k n
  | .bool b,_,h=>by cases h;exact .bool b
  | .str s,_,h=>by cases h;exact .str s
  | .eL,_,h=>by cases h;exact .eL
  | .aq,_,h=>by cases h;exact .aq
  | .ptr q id off,_,h=>by cases h with|ptr _ h=>exact .ptr q h
  | .dG q x off,_,h=>by cases h with|dG _ vs hx hc hr=>exact .dG q vs hx hc hr
  | .cB id,_,h=>by cases h with|cB h=>exact .cB h
  | .hE id,_,h=>by cases h with|hE h=>exact .hE h
  | .cS id sz n,_,h=>by cases h with|cS h hh hc=>exact .cS h hh hc
  | .sub id off sz n c,_,h=>by cases h with|sub h hc hp ho=>exact .sub h hc hp ho
  | .aj o sz xs,_,h=>by
    cases h with
    |aj b off vs hl LH ha LR hc hr LL ho=>
      refine .aj b off vs hl LH ha LR hc hr LL ?_
      cases o with
      |tok t v=>exact ho
      |_=>exact ho
  | .fn g a b,_,h=>by
    rw [D.rn,D.gh,D.gh] at h
    cases h with
    |fn h1 h2 r1 r2=>
      exact .fn (by simpa using h1) (by simpa using h2) (fun i d v x y=>bk.wC M f a i d v x (r1 i (d.rn f) v (by rw [SW,x];rfl) y)) (fun i d v x y=>bk.wC M f b i d v x (r2 i (d.rn f) v (by rw [SW,x];rfl) y))
  | .agg cs,_,h=>by
    rw [D.rn,D.gh] at h
    cases h with
    |agg h1 r=>exact .agg (by simpa using h1) (fun i d v x y=>bk.wC M f cs i d v x (r i (d.rn f) v (by rw [SW,x];rfl) y))
  | .aC cs,_,h=>by
    rw [D.rn,D.gh] at h
    cases h with
    |aC h1 r=>exact .aC (by simpa using h1) (fun i d v x y=>bk.wC M f cs i d v x (r i (d.rn f) v (by rw [SW,x];rfl) y))
theorem bk.wC (M:MM) (f:Nat→Nat):∀(l:List D) (i:Nat) (d:D) (v:Value),l[i]? =some d→bk M (d.rn f) v→bk (M.pull f) d v
  | [],i,d,v,h,_=>by simp at h
  |x::r,0,d,v,h,k=>by
    simp at h
    subst h
    exact bk.pull M f x v k
  |x::r,i+1,d,v,h,k=>bk.wC M f r i d v (by simpa using h) k
end
theorem bS.pull {M:MM} {f:Nat→Nat} {l:List D} {vs:Array Value} (h:bS M (D.jQ f l) vs):bS (M.pull f) l vs:=by
 rw [D.gh] at h
 exact ⟨by simpa using h.1,fun i d v a b=>bk.pull M f d v (h.2 i (d.rn f) v (by rw [SW,a];rfl) b)⟩
theorem bS.push {M M':MM} {f:Nat→Nat} {l:List D} {vs:Array Value} (h:bS M l vs) (c:∀b o v,M.cell b o=some v→M'.cell b o=some v) (hb:∀id b,M.box id=some b→M'.box (f id)=some b) (hs:∀t v x,M.bl t v=some x→M'.bl (f t) v=some x):bS M' (D.jQ f l) vs:=by
 rw [D.gh]
 refine ⟨by simpa using h.1,fun i d v a b=> ?_⟩
 rw [SW,SU] at a
 obtain ⟨d0,h0,rfl⟩:=a
 exact (h.2 i d0 v h0 b).push f c hb hs
def fZ (tb:List Nat) (n i:Nat):Nat:=if i<tb.length then tb.getD i 0 else n+(i - tb.length)
def nR (tb:List Nat) (n j:Nat):Option Nat:=if j<n then tb.idxOf? j else some (tb.length+(j - n))
def HX (tb:List Nat) (n:Nat) (s:List Ob):List Ob→Nat→List Ob
  | [],_=> []
  |x::t,j=>(match tb.idxOf? j with|some i=>(s.getD i .dead).rn (fZ tb n)|none=>x)::HX tb n s t (j+1)
def Bz (tb:List Nat) (t s:List Ob):List Ob:=HX tb t.length s t 0++(s.drop tb.length).map (Ob.rn (fZ tb t.length))
theorem uD (tb:List Nat) (n:Nat) (s:List Ob):∀t j,(HX tb n s t j).length=t.length
 | [],_=>rfl
 |_::t,j=>by rw [HX,SX,uD tb n s t (j+1),SX]
theorem Aj (tb:List Nat) (n:Nat) (s:List Ob):∀t j i,i<t.length→(HX tb n s t j)[i]? =some (match tb.idxOf? (j+i) with|some i=>(s.getD i .dead).rn (fZ tb n)|none=>t.getD i .dead)
 | [],_,_,h=>by simp at h
 |x::t,j,0,_=>by rw [HX];rfl
 |x::t,j,i+1,h=>by
  rw [HX,List.getElem?_cons_succ,Aj tb n s t (j+1) i (by simpa using h),show j+1+i=j+(i+1) by omega]
  rfl
theorem uB (tb:List Nat) (t s:List Ob):(Bz tb t s).length=t.length+(s.length - tb.length):=by
 rw [Bz,SS,uD,List.length_map,List.length_drop]
theorem D0 (tb:List Nat) (t s:List Ob) (j:Nat):bo (Bz tb t s) j=match nR tb t.length j with|some i=>(bo s i).rn (fZ tb t.length)|none=>bo t j:=by
 unfold bo Bz nR
 rw [SK,Tx,uD]
 by_cases h:j<t.length
 ·rw [if_pos h,if_pos h,Aj tb _ s t 0 j h,Nat.zero_add]
  rfl
 ·rw [if_neg h,if_neg h,SW,List.getElem?_drop]
  simp only [SK]
  cases s[tb.length+(j - t.length)]? <;>rfl
theorem HU (tb:List Nat) (n:Nat) (hd:tb.Nodup) (hb:∀x∈tb,x<n) (i:Nat):nR tb n (fZ tb n i)=some i:=by
 unfold nR fZ
 by_cases h:i<tb.length
 ·rw [if_pos h,SK,Th h]
  simp only [Option.getD_some]
  rw [if_pos (hb _ (List.getElem_mem h)),List.idxOf?_eq_some_iff]
  refine ⟨h,rfl,fun j hj e=> ?_⟩
  have hp:=List.pairwise_iff_getElem.mp hd j i (by omega) h hj
  exact hp e
 ·rw [if_neg h,if_neg (by omega)]
  congr 1
  omega
theorem Gn (tb:List Nat) (n:Nat) (j i:Nat) (h:nR tb n j=some i):fZ tb n i=j:=by
 unfold nR at h
 unfold fZ
 split at h
 ·rw [List.idxOf?_eq_some_iff] at h
  obtain ⟨h1,h2,_⟩:=h
  rw [if_pos h1,SK,Th h1]
  exact h2
 ·simp only [Option.some.injEq] at h
  subst h
  rw [if_neg (by omega)]
  omega
theorem Ob.HW {f:Nat→Nat} {o:Ob} {cs:List D} (h:o.rn f= .box cs):∃c,o= .box c∧cs=D.jQ f c:=by
 cases o<;>simp [Ob.rn] at h
 exact ⟨_,rfl,h.symm⟩
theorem Ob.HV {f:Nat→Nat} {o:Ob} {v z:Nat} (h:o.rn f= .bO v z):o= .bO v z:=by
 cases o<;>simp [Ob.rn] at h
 obtain ⟨rfl,rfl⟩:=h
 rfl
theorem Ob.Ai {f:Nat→Nat} {o:Ob} :(o.rn f).CF=o.CF:=by cases o<;>rfl
theorem Ob.Jl {f:Nat→Nat} {o:Ob} {k:Lk} {t:List D} {ps:Array Nat} {ag bd:Code} (h:o.rn f= .lp k t ps ag bd):∃t0,o= .lp k t0 ps ag bd∧t=D.jQ f t0:=by
 cases o<;>simp [Ob.rn] at h
 obtain ⟨rfl,rfl,rfl,rfl,rfl⟩:=h
 exact ⟨_,rfl,rfl⟩
theorem af.rn {P:Program} {g:FuncId} {args:List D} {s:List Ob} {d:D} {s':List Ob} (h:af P g args s d s') (tb:List Nat) (t:List Ob) (hl:s.length=tb.length) (hd:tb.Nodup) (hb:∀x∈tb,x<t.length) (ht:Bz tb t s=t):
  af P g (D.jQ (fZ tb t.length) args) t (d.rn (fZ tb t.length)) (Bz tb t s'):=by
 have kf:=HU tb t.length hd hb
 have fk:=Gn tb t.length
 have R4:=D0 tb t s'
 have Q8:∀i,bo t (fZ tb t.length i)=(bo s i).rn (fZ tb t.length):=fun i=>by
  have:=D0 tb t s (fZ tb t.length i)
  rw [ht,kf] at this
  exact this
 have Sv:∀i,tb.length≤i→fZ tb t.length i=t.length+(i - tb.length):=fun i hi=>by rw [fZ,if_neg (by omega)]
 have hlen:=h.len
 refine ⟨h.FB,by rw [uB];omega,fun w0 M own w vs hw hu hr=> ?_⟩
 let X1:Nat→Prop:=fun b=>w0.X b∨∃j,own b=some j∧nR tb t.length j=none∧¬M.eB b
 let w1:dq:=⟨w,M.cell,X1⟩
 have hX:∀b,X1 b→b<w.heap.size:=by
  rintro b (q|⟨j,q,_⟩)
  ·exact hw.below.JH q
  ·exact hw.owned b j q
 have bs:∀b i,¬w0.X b→own b=some (fZ tb t.length i)→¬X1 b:=by
  rintro b i q e (k|⟨j,k1,k2,_⟩)
  ·exact q k
  ·rw [e,Option.some.injEq] at k1
   rw [← k1,kf] at k2
   cases k2
 have PT:bw w1 (M.pull (fZ tb t.length)) (fun b=>(own b).bind (nR tb t.length)) (bo s) w:=by
  have ow:∀b i,own b=some (fZ tb t.length i)→(own b).bind (nR tb t.length)=some i:=fun b i e=>by rw [e];exact kf i
  refine ⟨⟨rfl,rfl,rfl,Nat.le_refl _,fun _ _=>rfl,hX⟩,hw.cells,fun b o v q _=>q,?_,?_,?_,?_,?_,fun b q=>⟨?_,(hw.eB b q).2⟩⟩
  ·intro b id e
   rw [Option.bind_eq_some_iff] at e
   obtain ⟨j,e1,_⟩:=e
   exact hw.owned b j e1
  ·intro id cs e
   obtain ⟨b,vs,ty,q⟩:=hw.box (fZ tb t.length id) _ (by rw [Q8,e];rfl)
   refine ⟨b,vs,ty,q.box,bs _ _ q.base q.own,ow _ _ q.own,q.none,q.cy,by simpa [D.gh] using q.len,fun i d v a c=>bk.pull M _ d v (q.rep i _ v (by rw [D.gh,SW,a];rfl) c),fun sz a len cap c=>q.room sz a len cap c⟩
  ·intro id ver sz e
   obtain ⟨a,len,cap,q⟩:=hw.bO (fZ tb t.length id) ver sz (by rw [Q8,e];rfl)
   refine ⟨a,len,cap,q.bl,q.last,q.room.imp (fun x=>x) fun ⟨b,vs,ty,fz,ha,r⟩=>⟨b,vs,ty,fz,ha,bs _ _ r.base r.own,ow _ _ r.own,r.cy,r.fz,r.cap,r.none⟩⟩
  ·intro id F e
   obtain ⟨b,LF,clock,q⟩:=hw.mp (fZ tb t.length id) F (by rw [Q8,Ob.Ai,e])
   exact ⟨b,LF,clock,q.box,bs _ _ q.base q.own,ow _ _ q.own,q.none,q.cy,q.fits⟩
  ·intro id k tt ps ag bd e
   obtain ⟨l,r,q⟩:=hw.lp (fZ tb t.length id) k _ ps ag bd (by rw [Q8,e];rfl)
   exact ⟨l,r,q.box,bs _ _ q.base q.own,ow _ _ q.own,q.cy,q.st,q.pd,q.tm.pull,q.ps,q.ag,q.bd⟩
  ·rintro (k|⟨j,_,_,k⟩)
   ·exact (hw.eB b q).1 k
   ·exact k q
 have Sp:(M.pull (fZ tb t.length)).upto s.length:=by
  constructor
  ·intro id hi
   exact hu.1 _ (by rw [Sv id (by omega)];omega)
  ·intro id v hi
   exact hu.2 _ v (by rw [Sv id (by omega)];omega)
 refine Calls.mono (h.run w1 _ _ w vs PT Sp hr.pull) ?_
 rintro e w' ⟨v,M',LB,rfl,q1,q2,q3,q4⟩
 let M2:MM:=⟨M'.cell,fun j=>match nR tb t.length j with|some i=>M'.box i|none=>M.box j,fun j v=>match nR tb t.length j with|some i=>M'.bl i v|none=>M.bl j v,M'.eB⟩
 have e1:∀i,M2.box (fZ tb t.length i)=M'.box i:=fun i=>by show (match nR tb t.length (fZ tb t.length i) with|some i=>M'.box i|none=>_)=_;rw [kf]
 have e2:∀i v,M2.bl (fZ tb t.length i) v=M'.bl i v:=fun i v=>by show (match nR tb t.length (fZ tb t.length i) with|some i=>M'.bl i v|none=>_)=_;rw [kf]
 have c1:∀b o v,M'.cell b o=some v→M2.cell b o=some v:=fun _ _ _ x=>x
 have b1:∀id b,M'.box id=some b→M2.box (fZ tb t.length id)=some b:=fun id b x=>by rw [e1];exact x
 have s1:∀t' v x,M'.bl t' v=some x→M2.bl (fZ tb t.length t') v=some x:=fun t' v x y=>by rw [e2];exact y
 have le:M.Le M2:=by
  refine ⟨q3.cell,?_,?_,q3.eB⟩
  ·intro j b e
   show (match nR tb t.length j with|some i=>M'.box i|none=>M.box j)=some b
   cases hk:nR tb t.length j with
   |none=>exact e
   |some i=>exact q3.box i b (by show M.box (fZ tb t.length i)=some b;rw [fk j i hk];exact e)
  ·intro j v x e
   show (match nR tb t.length j with|some i=>M'.bl i v|none=>M.bl j v)=some x
   cases hk:nR tb t.length j with
   |none=>exact e
   |some i=>exact q3.bl i v x (by show M.bl (fZ tb t.length i) v=some x;rw [fk j i hk];exact e)
 have mk:∀b j o,own b=some j→nR tb t.length j=none→w.heap[b]? =some o→(∀z,o≠ .deferred z)→X1 b:=fun b j o e k hb hn=> .inr ⟨j,e,k,fun hm=>by
  rw [(hw.eB b hm).2] at hb
  exact hn _ (Option.some.inj hb).symm⟩
 have Rf:∀b o,X1 b→w.heap[b]? =some o→w'.heap[b]? =some o:=fun b o x y=>by rw [q1.below.block b x];exact y
 have OZ:∀b o,X1 b→M.cell b o=none→M2.cell b o=none:=by
  intro b o x y
  show M'.cell b o=none
  cases e:M'.cell b o with
  |none=>rfl
  |some v=>
   have:M.cell b o=some v:=q1.iJ b o v e x
   rw [y] at this
   cases this
 classical
 let Nu:Nat→Option Nat:=fun b=>if X1 b then own b else (LB b).map (fZ tb t.length)
 have ow:∀b i,¬X1 b→LB b=some i→Nu b=some (fZ tb t.length i):=fun b i x e=>by show (if X1 b then _ else _)=_;rw [if_neg x,e];rfl
 have Ro:∀b j,X1 b→own b=some j→Nu b=some j:=fun b j x e=>by show (if X1 b then _ else _)=_;rw [if_pos x];exact e
 have QQ:∀b,¬X1 b→¬w0.X b:=fun b x y=>x (.inl y)
 have inv:∀j o,bo (Bz tb t s') j=o→(∃i,fZ tb t.length i=j∧(bo s' i).rn (fZ tb t.length)=o)∨(nR tb t.length j=none∧bo t j=o):=by
  intro j o e
  rw [R4] at e
  cases hk:nR tb t.length j with
  |none=>rw [hk] at e;exact .inr ⟨rfl,e⟩
  |some i=>rw [hk] at e;exact .inl ⟨i,fk j i hk,e⟩
 have n1:∀j,nR tb t.length j=none→M2.box j=M.box j:=fun j k=>by show (match nR tb t.length j with|some i=>M'.box i|none=>M.box j)=_;rw [k]
 have n2:∀j v,nR tb t.length j=none→M2.bl j v=M.bl j v:=fun j v k=>by show (match nR tb t.length j with|some i=>M'.bl i v|none=>M.bl j v)=_;rw [k]
 refine ⟨v,M2,Nu,rfl,⟨?_,q1.cells,?_,?_,?_,?_,?_,?_,?_⟩,⟨?_,?_⟩,le,q4.push _ c1 b1 s1⟩
 ·exact ⟨q1.below.os.trans hw.below.os,q1.below.tape.trans hw.below.tape,q1.below.output.trans hw.below.output,Nat.le_trans hw.below.size q1.below.size,fun k hk=>(q1.below.block k (.inl hk)).trans (hw.below.block k hk),hw.below.lt⟩
 ·intro b o v k hb
  exact hw.iJ b o v (q1.iJ b o v k (.inl hb)) hb
 ·intro b id e
  have e:(if X1 b then own b else (LB b).map (fZ tb t.length))=some id:=e
  split at e
  ·rename_i hx
   exact Nat.lt_of_lt_of_le (hX b hx) q1.below.size
  ·rw [SU] at e
   obtain ⟨i,e,_⟩:=e
   exact q1.owned b i e
 ·intro j cs e
  rcases inv j _ e with ⟨i,rfl,hi⟩|⟨hk,hj⟩
  ·obtain ⟨c,hc,rfl⟩:=Ob.HW hi
   obtain ⟨b,vs,ty,q⟩:=q1.box i c hc
   refine ⟨b,vs,ty,b1 _ _ q.box,QQ _ q.base,ow _ _ q.base q.own,q.none,q.cy,by simpa [D.gh] using q.len,fun k d v x y=> ?_,fun sz a len cap x=>q.room sz a len cap (by rw [← e2];exact x)⟩
   rw [D.gh,SW,SU] at x
   obtain ⟨d0,h0,rfl⟩:=x
   exact (q.rep k d0 v h0 y).push _ c1 b1 s1
  ·obtain ⟨b,vs,ty,q⟩:=hw.box j cs hj
   have x:=mk b j _ q.own hk q.cy (fun z hz=>by cases hz)
   exact ⟨b,vs,ty,le.box _ _ q.box,q.base,Ro _ _ x q.own,fun o=>OZ b o x (q.none o),Rf b _ x q.cy,q.len,fun i d v a c=>(q.rep i d v a c).mono le,fun sz a len cap c=>q.room sz a len cap (by rw [← n2 _ _ hk];exact c)⟩
 ·intro j ver sz e
  rcases inv j _ e with ⟨i,rfl,hi⟩|⟨hk,hj⟩
  ·obtain ⟨a,len,cap,q⟩:=q1.bO i ver sz (Ob.HV hi)
   exact ⟨a,len,cap,s1 _ _ _ q.bl,fun v hv=>by rw [e2];exact q.last v hv,q.room.imp (fun x=>x) fun ⟨b,vs,ty,fz,ha,r⟩=>⟨b,vs,ty,fz,ha,QQ _ r.base,ow _ _ r.base r.own,r.cy,r.fz,r.cap,r.none⟩⟩
  ·obtain ⟨a,len,cap,q⟩:=hw.bO j ver sz hj
   refine ⟨a,len,cap,le.bl _ _ _ q.bl,fun v hv=>by rw [n2 _ _ hk];exact q.last v hv,q.room.imp (fun x=>x) fun ⟨b,vs,ty,fz,ha,r⟩=> ?_⟩
   have x:=mk b j _ r.own hk r.cy (fun z hz=>by cases hz)
   exact ⟨b,vs,ty,fz,ha,r.base,Ro _ _ x r.own,Rf b _ x r.cy,r.fz,r.cap,fun o ho=>OZ b o x (r.none o ho)⟩
 ·intro j F e
  rcases inv j _ rfl with ⟨i,rfl,hi⟩|⟨hk,hj⟩
  ·rw [← hi,Ob.Ai] at e
   obtain ⟨b,LF,clock,q⟩:=q1.mp i F e
   exact ⟨b,LF,clock,b1 _ _ q.box,QQ _ q.base,ow _ _ q.base q.own,q.none,q.cy,q.fits⟩
  ·rw [← hj] at e
   obtain ⟨b,LF,clock,q⟩:=hw.mp j F e
   have x:=mk b j _ q.own hk q.cy (fun z hz=>by cases hz)
   exact ⟨b,LF,clock,le.box _ _ q.box,q.base,Ro _ _ x q.own,fun o=>OZ b o x (q.none o),Rf b _ x q.cy,q.fits⟩
 ·intro j k tt ps ag bd e
  rcases inv j _ e with ⟨i,rfl,hi⟩|⟨hk,hj⟩
  ·obtain ⟨t0,h0,rfl⟩:=Ob.Jl hi
   obtain ⟨l,r,q⟩:=q1.lp i k t0 ps ag bd h0
   exact ⟨l,r,b1 _ _ q.box,QQ _ q.base,ow _ _ q.base q.own,q.cy,q.st,q.pd,q.tm.push c1 b1 s1,q.ps,q.ag,q.bd⟩
  ·obtain ⟨l,r,q⟩:=hw.lp j k tt ps ag bd hj
   have x:=mk l j _ q.own hk q.cy (fun z hz=>by cases hz)
   exact ⟨l,r,q.aD le (Ro _ _ x q.own) (Rf l _ x q.cy)⟩
 ·intro b q
  exact ⟨QQ _ (q1.eB b q).1,(q1.eB b q).2⟩
 ·intro j hj
  rw [uB] at hj
  show (match nR tb t.length j with|some i=>M'.box i|none=>M.box j)=none
  rw [nR,if_neg (by omega)]
  exact q2.1 _ (by omega)
 ·intro j v hj
  rw [uB] at hj
  show (match nR tb t.length j with|some i=>M'.bl i v|none=>M.bl j v)=none
  rw [nR,if_neg (by omega)]
  exact q2.2 _ v (by omega)
end Go.Ev
namespace Go.Proofs.YtbfpahigdpigpaaGreat
open Go Go.Ev
abbrev vT (a b c d nc nx:Nat):List D:= [.int .u64 1048576,.cS a 1 nc,.bool false,.int .u64 2097152,.cS b 1 nx,.bool true,.int .u64 3145728,.cS c 1 64,.bool true,.int .u64 4194304,.cS d 1 264,.bool true]
abbrev uZ (k f:Nat) (m:ao) (an tr:List D) (v:Nat) (en:Int):List D:= [.int .u64 m.q0,.int .u64 m.q1,.int .u64 m.q2,.int .u64 m.q3,.int .u64 m.q4,.int .u64 m.q5,.int .u64 m.q6,.int .u64 m.q7,.int .u64 m.q8,.int .u64 m.q9,.int .u64 m.bQ,.int .u64 m.bU,.int .u64 m.bZ,.int .u64 m.bX,.int .u64 m.bW,.int .u64 m.bV,.bool m.fk,.bool m.fc,.bool m.fz,.bool m.fs,.bool m.fo,.int .u64 m.pc,.ptr false k 0,.aj .no 1 an,.aj (.tok f v) 3 tr,.int .i8 en]
theorem eU (f:Nat→Nat) (l:List Int):D.jQ f (bD l)=bD l:=by
 rw [D.gh,bD,List.map_map]
 rfl
abbrev pS (o0 o5 wO:Ob) (m:ao) (cc cx fr st an tr:List D) (en:Int) (nc nx v:Nat) (dd:List Ob):List Ob:=o0:: .dead:: .dead:: .dead:: .dead::o5:: .box (vT 9 12 13 14 nc nx):: .dead:: .dead:: .box cc:: .dead:: .dead:: .box cx:: .box fr:: .box st:: .dead:: .box (uZ 6 21 m an tr v en)::wO:: .box [.ptr false 16 0]:: .dead:: .box [.ptr false 17 0]:: .bO v 3::dd
abbrev DG:List Nat:= [1,6,7,8,9,10,11,12,13,14,15,16,2,3,4,19,21]
theorem Kq (o0 o5 wO:Ob) (m0 m:ao) (c0 x0 f0 s0 a0 t0:List D) (e0 en:Int) (n0 y0 v0 nc nx v:Nat) (cb cx fr st:List Int) (an tr:List D) (dd:List Ob):
  Bz DG (pS o0 o5 wO m0 c0 x0 f0 s0 a0 t0 e0 n0 y0 v0 []) (.dead:: .box (gj nc nx):: .dead:: .dead:: .box (bD cb):: .dead:: .dead:: .box (bD cx):: .box (bD fr):: .box (bD st):: .dead:: .box (uC m an tr v en):: .dead:: .dead:: .dead:: .dead:: .bO v 3::dd)=pS o0 o5 wO m (bD cb) (bD cx) (bD fr) (bD st) an tr en nc nx v (dd.map (Ob.rn (fZ DG 22))):=by
 show pS o0 o5 wO m (D.jQ (fZ DG 22) (bD cb)) (D.jQ (fZ DG 22) (bD cx)) (D.jQ (fZ DG 22) (bD fr)) (D.jQ (fZ DG 22) (bD st)) an tr en nc nx v (dd.map (Ob.rn (fZ DG 22)))=_
 rw [eU,eU,eU,eU]
theorem Bo (o0 o5 wO:Ob) (cb:List Int) (hb:fO cb) (hc:cb.length≤16384) (nx:Nat) (LC:nx≤256) (e:iH) (hx:e.cx.length=nx) (hf:e.fr.length=64) (hs:e.st.length=264) (ht:e.tr.length≤100000):
  ∃(v:Nat) (dd:List Ob),(v=0∨v=1∧(bf cb e).2=true)∧af Tryz.prog 47 [.ptr false 16 0] (pS o0 o5 wO e.m (bD cb) (bD e.cx) (bD e.fr) (bD e.st) (wD e.an) (ev e.tr) e.en cb.length nx 0 []) (.bool (bf cb e).2) (pS o0 o5 wO (bf cb e).1.m (bD cb) (bD (bf cb e).1.cx) (bD (bf cb e).1.fr) (bD (bf cb e).1.st) (wD (bf cb e).1.an) (ev (bf cb e).1.tr) (bf cb e).1.en cb.length nx v dd):=by
 obtain ⟨v,dd,hv,hS⟩:=mX .dead .dead .dead .dead .dead cb hb hc nx LC e hx hf hs ht
 have h:=hS.rn DG (pS o0 o5 wO e.m (bD cb) (bD e.cx) (bD e.fr) (bD e.st) (wD e.an) (ev e.tr) e.en cb.length nx 0 []) rfl (by decide) (show ∀x∈DG,x<22 by decide) (Kq o0 o5 wO _ _ _ _ _ _ _ _ _ _ _ _ _ _ _ _ _ _ _ _ _ _ [])
 have h2:=Kq o0 o5 wO e.m (bf cb e).1.m (bD cb) (bD e.cx) (bD e.fr) (bD e.st) (wD e.an) (ev e.tr) e.en (bf cb e).1.en cb.length nx 0 cb.length nx v cb (bf cb e).1.cx (bf cb e).1.fr (bf cb e).1.st (wD (bf cb e).1.an) (ev (bf cb e).1.tr) dd
 rw [h2] at h
 exact ⟨v,_,hv,h⟩
theorem Ep (o0 o5 wO:Ob) (cb cx fr st:List Int) (an tr:List D) (m:ao) (en:Int) (nc nx:Nat):
  af Tryz.prog 46 [.ptr false 16 0] (pS o0 o5 wO m (bD cb) (bD cx) (bD fr) (bD st) an tr en nc nx 0 []) (.int .i64 (Ck m.pc)) (pS o0 o5 wO m (bD cb) (bD cx) (bD fr) (bD st) an tr en nc nx 0 []):=by
 have h1:=Kq o0 o5 wO m m (bD cb) (bD cx) (bD fr) (bD st) an tr en en nc nx 0 nc nx 0 cb cx fr st an tr []
 have h:=(qE .dead .dead .dead .dead .dead (bD cb) (bD cx) (bD fr) (bD st) an tr m en nc nx).rn DG (pS o0 o5 wO m (bD cb) (bD cx) (bD fr) (bD st) an tr en nc nx 0 []) rfl (by decide) (show ∀x∈DG,x<22 by decide) h1
 rw [h1] at h
 exact h
abbrev dM (l:List D):List D:=l.map D.aR
theorem cF (b:List Int):dM (bD b)=bD b:=cr b
abbrev np (ga gb:Code):Ob:= .lp .ready [.undef,.undef,.undef,.undef,.undef,.undef,.undef,.undef,.undef,.ptr false 0 0,.undef,.undef,.undef,.undef,.undef,.undef,.undef,.undef,.undef,.undef,.undef,.undef,.undef,.undef,.undef,.undef,.undef,.undef,.undef,.undef,.undef,.undef,.undef,.undef,.undef,.undef] #[18,19] ga gb
abbrev pT:List D:= [.hE 5,.ptr false 18 0,.undef,.ptr false 20 0,.undef,.undef,.undef,.undef,.undef,.undef,.undef,.undef,.undef,.undef,.undef,.undef,.undef,.undef,.undef,.undef,.undef,.undef,.undef,.undef,.undef,.undef,.undef,.undef,.undef,.undef,.undef,.undef,.undef,.undef,.undef]
abbrev kU:List D:= [.undef,.undef,.undef,.undef,.undef,.undef,.undef,.undef,.undef,.undef,.undef,.undef,.undef,.undef,.undef,.undef,.undef,.undef,.undef,.undef,.undef,.undef,.undef,.undef,.undef,.undef,.undef,.undef,.undef,.undef,.undef,.undef,.undef,.undef,.undef]
abbrev pZ (lp:Ob) (S:List D) (left:Int) (cc cx fr st u:List D) (nc nx v:Nat) (dd:List Ob):List Ob:= .box S:: .dead:: .dead:: .dead:: .dead::lp:: .box (vT 9 12 13 14 nc nx):: .dead:: .dead:: .box cc:: .dead:: .dead:: .box cx:: .box fr:: .box st:: .dead:: .box u:: .box [.int .i64 left]:: .box [.ptr false 16 0]:: .dead:: .box [.ptr false 17 0]:: .bO v 3::dd
abbrev pP (lp:Ob) (S:List D) (left:Int) (cc cx fr st u:List D) (nc nx:Nat):List (Nat×Ob):= [(0,.box S),(5,lp),(6,.box (vT 9 12 13 14 nc nx)),(9,.box cc),(12,.box cx),(13,.box fr),(14,.box st),(16,.box u),(17,.box [.int .i64 left]),(18,.box [.ptr false 16 0]),(20,.box [.ptr false 17 0]),(21,.bO 0 3)]
theorem Ic (S cc cx fr st an tr:List D) (m:ao) (left en:Int) (nc nx:Nat) (hS:∀c∈S,c.clean=true) (L7:∀c∈cc,c.clean=true) (M8:∀c∈cx,c.clean=true) (MA:∀c∈fr,c.clean=true) (LL:∀c∈st,c.clean=true) (h:left≤0):aP Tryz.prog (cu Tryz.f45 0) ⟨[],[5,6,16,17,18,20,1000000,1000009,1000012,1000013,1000014],[(1016024,3)]⟩ 21 pT [.box S,.dead,.dead,.dead,.dead,
 .lp .ready
  (let y:=
   let y:=
    let y:= [D.undef,D.undef,D.undef,D.undef,D.undef];
    D.undef::D.undef::D.undef::D.undef::y;
   let y:=D.undef::D.undef::D.undef::D.undef::D.undef::y;
   D.undef::D.undef::D.undef::D.undef::y;
  let y:=
   let y:=D.undef::D.undef::D.undef::D.undef::D.undef::y;
   .ptr false 0 0::D.undef::D.undef::D.undef::y;
  let y:=D.undef::D.undef::D.undef::D.undef::D.undef::y;
  D.undef::D.undef::D.undef::D.undef::y)
  #[18,19] (a8 Tryz.f16 0) (a7 Tryz.f16 0),
 .box (vT 9 12 13 14 nc nx),.dead,.dead,.box cc,.dead,.dead,.box cx,.box fr,.box st,.dead,.box (uZ 6 21 m an tr 0 en),.box [.int .i64 left],.box [.ptr false 16 0],.dead,.box [.ptr false 17 0],.bO 0 3] (Ex.exit 0) kU ((pZ (np (a8 Tryz.f16 0) (a7 Tryz.f16 0)) (dM S) left (dM cc) (dM cx) (dM fr) (dM st) (uZ 6 21 m an tr 0 en) nc nx 0 [])):=by
 exact aP.ab mixed [tC (aY 0 (decide_eq_true (SC h))),.cl _ hS,.cl _ L7,.cl _ M8,.cl _ MA,.cl _ LL] (by kernel_rfl)
theorem Ib (S cc cx fr st an tr:List D) (m:ao) (left en:Int) (nc nx:Nat) (hS:∀c∈S,c.clean=true) (L7:∀c∈cc,c.clean=true) (M8:∀c∈cx,c.clean=true) (MA:∀c∈fr,c.clean=true) (LL:∀c∈st,c.clean=true) (at_:Int) (a0: -1≤at_) (a1:at_≤16384) (lS:S.length=16386) (Mk Mi Mj MV MT:List D) (m2:ao) (MU:Int) (dd:List Ob) (L0:∀c∈Mk,c.clean=true) (L3:∀c∈Mi,c.clean=true) (L2:∀c∈Mj,c.clean=true) (h:0<left) (ho:af Tryz.prog 46 [.ptr false 16 0] (pZ (np (a8 Tryz.f16 0) (a7 Tryz.f16 0)) S left cc cx fr st (uZ 6 21 m an tr 0 en) nc nx 0 []) (.int .i64 at_) (pZ (np (a8 Tryz.f16 0) (a7 Tryz.f16 0)) S left cc cx fr st (uZ 6 21 m an tr 0 en) nc nx 0 [])) (hs:af Tryz.prog 47 [.ptr false 16 0] (pZ (np (a8 Tryz.f16 0) (a7 Tryz.f16 0)) (S.set (0+Sz (T8.i64.wrap (at_+1))*1) (.bool true)) (T8.i64.wrap (left - 1)) cc cx fr st (uZ 6 21 m an tr 0 en) nc nx 0 []) (.bool true) (pZ (np (a8 Tryz.f16 0) (a7 Tryz.f16 0)) (S.set (0+Sz (T8.i64.wrap (at_+1))*1) (.bool true)) (T8.i64.wrap (left - 1)) cc Mk Mi Mj (uZ 6 21 m2 MV MT 0 MU) nc nx 0 dd)):aP Tryz.prog (cu Tryz.f45 0) ⟨[0,1,3],[5,6,16,17,18,20,1000000,1000009,1000012,1000013,1000014],[(1016024,3)]⟩ 21 pT [.box S,.dead,.dead,.dead,.dead,
 .lp .ready
  (let y:=
   let y:=
    let y:= [D.undef,D.undef,D.undef,D.undef,D.undef];
    D.undef::D.undef::D.undef::D.undef::y;
   let y:=D.undef::D.undef::D.undef::D.undef::D.undef::y;
   D.undef::D.undef::D.undef::D.undef::y;
  let y:=
   let y:=D.undef::D.undef::D.undef::D.undef::D.undef::y;
   .ptr false 0 0::D.undef::D.undef::D.undef::y;
  let y:=D.undef::D.undef::D.undef::D.undef::D.undef::y;
  D.undef::D.undef::D.undef::D.undef::y)
  #[18,19] (a8 Tryz.f16 0) (a7 Tryz.f16 0),
 .box (vT 9 12 13 14 nc nx),.dead,.dead,.box cc,.dead,.dead,.box cx,.box fr,.box st,.dead,.box (uZ 6 21 m an tr 0 en),.box [.int .i64 left],.box [.ptr false 16 0],.dead,.box [.ptr false 17 0],.bO 0 3] .norm pT ((pZ (np (a8 Tryz.f16 0) (a7 Tryz.f16 0)) (dM (SV S (0+Sz (T8.i64.wrap (at_+1))*1) (.bool true))) (T8.i64.wrap (left - 1)) (dM cc) (dM Mk) (dM Mi) (dM Mj) (uZ 6 21 m2 MV MT 0 MU) nc nx 0 [])):=by
 exact aP.ab mixed [tC (aY 0 (decide_eq_false (by omega:¬left<1))),.ay _ _ _ _ _ ho,.aD (pP (np (a8 Tryz.f16 0) (a7 Tryz.f16 0)) S left cc cx fr st (uZ 6 21 m an tr 0 en) nc nx),.inl,.cQ (decide (0≤T8.i64.wrap (at_+1)∧T8.i64.wrap (at_+1)<(↑16386:Int))) true (by ((try simp only [eZ] at*);(try unfold cA at*);omega)),.cg _ _ _ _ (@bz (S) (0+Sz (T8.i64.wrap (at_+1))*1) (.bool true) (by ((try simp only [eZ] at*);(try unfold cA at*);omega))),.raw,tF,.ay _ _ _ _ _ hs,tF,.cl (S.set (0+Sz (T8.i64.wrap (at_+1))*1) (.bool true)) (zA hS rfl),.cl _ L7,.cl _ L0,.cl _ L3,.cl _ L2] (by kernel_rfl)
theorem Ia (S cc cx fr st an tr:List D) (m:ao) (left en:Int) (nc nx:Nat) (hS:∀c∈S,c.clean=true) (L7:∀c∈cc,c.clean=true) (M8:∀c∈cx,c.clean=true) (MA:∀c∈fr,c.clean=true) (LL:∀c∈st,c.clean=true) (at_:Int) (a0: -1≤at_) (a1:at_≤16384) (lS:S.length=16386) (Mk Mi Mj MV MT:List D) (m2:ao) (MU:Int) (dd:List Ob) (L0:∀c∈Mk,c.clean=true) (L3:∀c∈Mi,c.clean=true) (L2:∀c∈Mj,c.clean=true) (h:0<left) (ho:af Tryz.prog 46 [.ptr false 16 0] (pZ (np (a8 Tryz.f16 0) (a7 Tryz.f16 0)) S left cc cx fr st (uZ 6 21 m an tr 0 en) nc nx 0 []) (.int .i64 at_) (pZ (np (a8 Tryz.f16 0) (a7 Tryz.f16 0)) S left cc cx fr st (uZ 6 21 m an tr 0 en) nc nx 0 [])) (hs:af Tryz.prog 47 [.ptr false 16 0] (pZ (np (a8 Tryz.f16 0) (a7 Tryz.f16 0)) (S.set (0+Sz (T8.i64.wrap (at_+1))*1) (.bool true)) (T8.i64.wrap (left - 1)) cc cx fr st (uZ 6 21 m an tr 0 en) nc nx 0 []) (.bool true) (pZ (np (a8 Tryz.f16 0) (a7 Tryz.f16 0)) (S.set (0+Sz (T8.i64.wrap (at_+1))*1) (.bool true)) (T8.i64.wrap (left - 1)) cc Mk Mi Mj (uZ 6 21 m2 MV MT 1 MU) nc nx 1 dd)):aP Tryz.prog (cu Tryz.f45 0) ⟨[0,1,3],[5,6,16,17,18,20,1000000,1000009,1000012,1000013,1000014],[(1016024,3)]⟩ 21 pT [.box S,.dead,.dead,.dead,.dead,
 .lp .ready
  (let y:=
   let y:=
    let y:= [D.undef,D.undef,D.undef,D.undef,D.undef];
    D.undef::D.undef::D.undef::D.undef::y;
   let y:=D.undef::D.undef::D.undef::D.undef::D.undef::y;
   D.undef::D.undef::D.undef::D.undef::y;
  let y:=
   let y:=D.undef::D.undef::D.undef::D.undef::D.undef::y;
   .ptr false 0 0::D.undef::D.undef::D.undef::y;
  let y:=D.undef::D.undef::D.undef::D.undef::D.undef::y;
  D.undef::D.undef::D.undef::D.undef::y)
  #[18,19] (a8 Tryz.f16 0) (a7 Tryz.f16 0),
 .box (vT 9 12 13 14 nc nx),.dead,.dead,.box cc,.dead,.dead,.box cx,.box fr,.box st,.dead,.box (uZ 6 21 m an tr 0 en),.box [.int .i64 left],.box [.ptr false 16 0],.dead,.box [.ptr false 17 0],.bO 0 3] .norm pT ((pZ (np (a8 Tryz.f16 0) (a7 Tryz.f16 0)) (dM (SV S (0+Sz (T8.i64.wrap (at_+1))*1) (.bool true))) (T8.i64.wrap (left - 1)) (dM cc) (dM Mk) (dM Mi) (dM Mj) (uZ 6 21 m2 MV MT 0 MU) nc nx 0 [])):=by
 exact aP.ab mixed [tC (aY 0 (decide_eq_false (by omega:¬left<1))),.ay _ _ _ _ _ ho,.aD (pP (np (a8 Tryz.f16 0) (a7 Tryz.f16 0)) S left cc cx fr st (uZ 6 21 m an tr 0 en) nc nx),.inl,.cQ (decide (0≤T8.i64.wrap (at_+1)∧T8.i64.wrap (at_+1)<(↑16386:Int))) true (by ((try simp only [eZ] at*);(try unfold cA at*);omega)),.cg _ _ _ _ (@bz (S) (0+Sz (T8.i64.wrap (at_+1))*1) (.bool true) (by ((try simp only [eZ] at*);(try unfold cA at*);omega))),.raw,tF,.ay _ _ _ _ _ hs,tF,.cl (S.set (0+Sz (T8.i64.wrap (at_+1))*1) (.bool true)) (zA hS rfl),.cl _ L7,.cl _ L0,.cl _ L3,.cl _ L2] (by kernel_rfl)
theorem Jq (S cc cx fr st an tr:List D) (m:ao) (left en:Int) (nc nx:Nat) (hS:∀c∈S,c.clean=true) (L7:∀c∈cc,c.clean=true) (M8:∀c∈cx,c.clean=true) (MA:∀c∈fr,c.clean=true) (LL:∀c∈st,c.clean=true) (at_:Int) (a0: -1≤at_) (a1:at_≤16384) (lS:S.length=16386) (Mk Mi Mj MV MT:List D) (m2:ao) (MU:Int) (dd:List Ob) (L0:∀c∈Mk,c.clean=true) (L3:∀c∈Mi,c.clean=true) (L2:∀c∈Mj,c.clean=true) (h:0<left) (ho:af Tryz.prog 46 [.ptr false 16 0] (pZ (np (a8 Tryz.f16 0) (a7 Tryz.f16 0)) S left cc cx fr st (uZ 6 21 m an tr 0 en) nc nx 0 []) (.int .i64 at_) (pZ (np (a8 Tryz.f16 0) (a7 Tryz.f16 0)) S left cc cx fr st (uZ 6 21 m an tr 0 en) nc nx 0 [])) (hs:af Tryz.prog 47 [.ptr false 16 0] (pZ (np (a8 Tryz.f16 0) (a7 Tryz.f16 0)) (S.set (0+Sz (T8.i64.wrap (at_+1))*1) (.bool true)) (T8.i64.wrap (left - 1)) cc cx fr st (uZ 6 21 m an tr 0 en) nc nx 0 []) (.bool false) (pZ (np (a8 Tryz.f16 0) (a7 Tryz.f16 0)) (S.set (0+Sz (T8.i64.wrap (at_+1))*1) (.bool true)) (T8.i64.wrap (left - 1)) cc Mk Mi Mj (uZ 6 21 m2 MV MT 0 MU) nc nx 0 dd)):aP Tryz.prog (cu Tryz.f45 0) ⟨[],[5,6,16,17,18,20,1000000,1000009,1000012,1000013,1000014],[(1016024,3)]⟩ 21 pT [.box S,.dead,.dead,.dead,.dead,
 .lp .ready
  (let y:=
   let y:=
    let y:= [D.undef,D.undef,D.undef,D.undef,D.undef];
    D.undef::D.undef::D.undef::D.undef::y;
   let y:=D.undef::D.undef::D.undef::D.undef::D.undef::y;
   D.undef::D.undef::D.undef::D.undef::y;
  let y:=
   let y:=D.undef::D.undef::D.undef::D.undef::D.undef::y;
   .ptr false 0 0::D.undef::D.undef::D.undef::y;
  let y:=D.undef::D.undef::D.undef::D.undef::D.undef::y;
  D.undef::D.undef::D.undef::D.undef::y)
  #[18,19] (a8 Tryz.f16 0) (a7 Tryz.f16 0),
 .box (vT 9 12 13 14 nc nx),.dead,.dead,.box cc,.dead,.dead,.box cx,.box fr,.box st,.dead,.box (uZ 6 21 m an tr 0 en),.box [.int .i64 left],.box [.ptr false 16 0],.dead,.box [.ptr false 17 0],.bO 0 3] (Ex.ret) kU ((pZ (np (a8 Tryz.f16 0) (a7 Tryz.f16 0)) (dM (SV S (0+Sz (T8.i64.wrap (at_+1))*1) (.bool true))) (T8.i64.wrap (left - 1)) (dM cc) (dM Mk) (dM Mi) (dM Mj) (uZ 6 21 m2 MV MT 0 MU) nc nx 0 [])):=by
 exact aP.ab mixed [tC (aY 0 (decide_eq_false (by omega:¬left<1))),.ay _ _ _ _ _ ho,.aD (pP (np (a8 Tryz.f16 0) (a7 Tryz.f16 0)) S left cc cx fr st (uZ 6 21 m an tr 0 en) nc nx),.inl,.cQ (decide (0≤T8.i64.wrap (at_+1)∧T8.i64.wrap (at_+1)<(↑16386:Int))) true (by ((try simp only [eZ] at*);(try unfold cA at*);omega)),.cg _ _ _ _ (@bz (S) (0+Sz (T8.i64.wrap (at_+1))*1) (.bool true) (by ((try simp only [eZ] at*);(try unfold cA at*);omega))),.raw,tF,.ay _ _ _ _ _ hs,tT,.cl (S.set (0+Sz (T8.i64.wrap (at_+1))*1) (.bool true)) (zA hS rfl),.cl _ L7,.cl _ L0,.cl _ L3,.cl _ L2] (by kernel_rfl)
theorem H7 (S out:List D) (k:Nat) (lS:S.length=16386) (hS:∀c∈S,c.clean=true) (hk:16386≤k):aP Tryz.prog (cu Tryz.f16 0) ⟨[8],[],[(8,1)]⟩ 22 [D.undef,D.undef,D.undef,D.undef,D.undef,D.undef,D.undef,D.undef,.aj (.tok 22 0) 1 out,D.undef,D.undef,D.undef,D.undef,D.undef,D.undef,D.undef,D.undef,D.undef,D.undef,D.undef,D.undef,D.undef,D.undef,.agg S,.int .i64 (↑k:Int),D.undef,D.undef,D.undef,D.undef,D.undef,D.undef,D.undef,D.undef,D.undef,D.undef,D.undef] [.dead,.dead,.dead,.dead,.dead,.dead,.dead,.dead,.dead,.dead,.dead,.dead,.dead,.dead,.dead,.dead,.dead,.dead,.dead,.dead,.dead,.dead,.bO 0 1] (.exit 2) [D.undef,D.undef,D.undef,D.undef,D.undef,D.undef,D.undef,D.undef,.aj (.tok 22 0) 1 out,D.undef,D.undef,D.undef,D.undef,D.undef,D.undef,D.undef,D.undef,D.undef,D.undef,D.undef,D.undef,D.undef,D.undef,D.undef,D.undef,D.undef,D.undef,D.undef,D.undef,D.undef,D.undef,D.undef,D.undef,D.undef,D.undef,D.undef] ([.dead,.dead,.dead,.dead,.dead,.dead,.dead,.dead,.dead,.dead,.dead,.dead,.dead,.dead,.dead,.dead,.dead,.dead,.dead,.dead,.dead,.dead,.bO 0 1]):=by
 exact (aP.ab (sp:=⟨[8],[],[(8,1)]⟩) (n0:=22) (ex:=Ex.exit (2:Nat)) (t':= [D.undef,D.undef,D.undef,D.undef,D.undef,D.undef,D.undef,D.undef,.aj (.tok 22 0) 1 out,D.undef,D.undef,D.undef,D.undef,D.undef,D.undef,D.undef,D.undef,D.undef,D.undef,D.undef,D.undef,D.undef,D.undef,D.undef,D.undef,D.undef,D.undef,D.undef,D.undef,D.undef,D.undef,D.undef,D.undef,D.undef,D.undef,D.undef]) (s':= [.dead,.dead,.dead,.dead,.dead,.dead,.dead,.dead,.dead,.dead,.dead,.dead,.dead,.dead,.dead,.dead,.dead,.dead,.dead,.dead,.dead,.dead,.bO 0 1]) mixed [tC (by ((try simp only [SS,SX,S3,cD,decide_eq_true_eq,decide_eq_false_iff_not,beq_iff_eq,bne_iff_ne,beq_eq_false_iff_ne] at*);omega):(decide ((↑k:Int)<(16386:Int)))=false)] (by kernel_rfl)).cast (by first|rfl|(rw [show T8.i64.wrap ((k:Int)+1)=((k+1:Nat):Int) by rw [cD];omega])) (by first|rfl|(rw [show T8.i64.wrap ((k:Int)+1)=((k+1:Nat):Int) by rw [cD];omega]))
theorem Jp (S out:List D) (k:Nat) (lS:S.length=16386) (hS:∀c∈S,c.clean=true) (hk:k<16386) (hx:S[k*1]? =some (.bool false)):aP Tryz.prog (cu Tryz.f16 0) ⟨[8,24,1000023],[],[(8,1)]⟩ 22 [D.undef,D.undef,D.undef,D.undef,D.undef,D.undef,D.undef,D.undef,.aj (.tok 22 0) 1 out,D.undef,D.undef,D.undef,D.undef,D.undef,D.undef,D.undef,D.undef,D.undef,D.undef,D.undef,D.undef,D.undef,D.undef,.agg S,.int .i64 (↑k:Int),D.undef,D.undef,D.undef,D.undef,D.undef,D.undef,D.undef,D.undef,D.undef,D.undef,D.undef] [.dead,.dead,.dead,.dead,.dead,.dead,.dead,.dead,.dead,.dead,.dead,.dead,.dead,.dead,.dead,.dead,.dead,.dead,.dead,.dead,.dead,.dead,.bO 0 1] .norm [D.undef,D.undef,D.undef,D.undef,D.undef,D.undef,D.undef,D.undef,.aj (.tok 22 0) 1 out,D.undef,D.undef,D.undef,D.undef,D.undef,D.undef,D.undef,D.undef,D.undef,D.undef,D.undef,D.undef,D.undef,D.undef,.agg (List.map D.aR S),.int .i64 (↑(k+(1:Nat)):Int),D.undef,D.undef,D.undef,D.undef,D.undef,D.undef,D.undef,D.undef,D.undef,D.undef,D.undef] ([.dead,.dead,.dead,.dead,.dead,.dead,.dead,.dead,.dead,.dead,.dead,.dead,.dead,.dead,.dead,.dead,.dead,.dead,.dead,.dead,.dead,.dead,.bO 0 1]):=by
 exact (aP.ab (sp:=⟨[8,24,1000023],[],[(8,1)]⟩) (n0:=22) (ex:=Ex.norm) (t':= [D.undef,D.undef,D.undef,D.undef,D.undef,D.undef,D.undef,D.undef,.aj (.tok 22 0) 1 out,D.undef,D.undef,D.undef,D.undef,D.undef,D.undef,D.undef,D.undef,D.undef,D.undef,D.undef,D.undef,D.undef,D.undef,.agg (List.map D.aR S),.int .i64 (T8.i64.wrap ((↑k:Int)+(1:Int))),D.undef,D.undef,D.undef,D.undef,D.undef,D.undef,D.undef,D.undef,D.undef,D.undef,D.undef]) (s':= [.dead,.dead,.dead,.dead,.dead,.dead,.dead,.dead,.dead,.dead,.dead,.dead,.dead,.dead,.dead,.dead,.dead,.dead,.dead,.dead,.dead,.dead,.bO 0 1]) mixed [tC (by ((try simp only [SS,SX,S3,cD,decide_eq_true_eq,decide_eq_false_iff_not,beq_iff_eq,bne_iff_ne,beq_eq_false_iff_ne] at*);omega):(decide ((↑k:Int)<(16386:Int)))=true),.cQ (decide ((0:Int)≤(↑k:Int)∧(↑k:Int)<(↑(16386:Nat):Int))) true (by ((try simp only [SS,SX,S3,cD,decide_eq_true_eq,decide_eq_false_iff_not,beq_iff_eq,bne_iff_ne,beq_eq_false_iff_ne] at*);omega)),.get _ _ _ hx,tF,.cl (S) (by exact hS)] (by kernel_rfl)).cast (by first|rfl|(rw [show T8.i64.wrap ((k:Int)+1)=((k+1:Nat):Int) by rw [cD];omega])) (by first|rfl|(rw [show T8.i64.wrap ((k:Int)+1)=((k+1:Nat):Int) by rw [cD];omega]))
theorem H6 (S out:List D) (k:Nat) (lS:S.length=16386) (hS:∀c∈S,c.clean=true) (hk:k<16386) (hx:S[k*1]? =some (.bool true)) (ho:out.length≤16386):aP Tryz.prog (cu Tryz.f16 0) ⟨[8,24,1000023],[],[(8,1)]⟩ 22 [D.undef,D.undef,D.undef,D.undef,D.undef,D.undef,D.undef,D.undef,.aj (.tok 22 0) 1 out,D.undef,D.undef,D.undef,D.undef,D.undef,D.undef,D.undef,D.undef,D.undef,D.undef,D.undef,D.undef,D.undef,D.undef,.agg S,.int .i64 (↑k:Int),D.undef,D.undef,D.undef,D.undef,D.undef,D.undef,D.undef,D.undef,D.undef,D.undef,D.undef] [.dead,.dead,.dead,.dead,.dead,.dead,.dead,.dead,.dead,.dead,.dead,.dead,.dead,.dead,.dead,.dead,.dead,.dead,.dead,.dead,.dead,.dead,.bO 0 1] .norm [D.undef,D.undef,D.undef,D.undef,D.undef,D.undef,D.undef,D.undef,.aj (.tok 22 0) 1 (out++ [.int .i64 (T8.i64.wrap ((↑k:Int) - (1:Int)))]),D.undef,D.undef,D.undef,D.undef,D.undef,D.undef,D.undef,D.undef,D.undef,D.undef,D.undef,D.undef,D.undef,D.undef,.agg (List.map D.aR S),.int .i64 (↑(k+(1:Nat)):Int),D.undef,D.undef,D.undef,D.undef,D.undef,D.undef,D.undef,D.undef,D.undef,D.undef,D.undef] ([.dead,.dead,.dead,.dead,.dead,.dead,.dead,.dead,.dead,.dead,.dead,.dead,.dead,.dead,.dead,.dead,.dead,.dead,.dead,.dead,.dead,.dead,.bO 0 1]):=by
 exact (aP.ab (sp:=⟨[8,24,1000023],[],[(8,1)]⟩) (n0:=22) (ex:=Ex.norm) (t':= [D.undef,D.undef,D.undef,D.undef,D.undef,D.undef,D.undef,D.undef,.aj (.tok 22 0) 1 (out++ [.int .i64 (T8.i64.wrap ((↑k:Int) - (1:Int)))]),D.undef,D.undef,D.undef,D.undef,D.undef,D.undef,D.undef,D.undef,D.undef,D.undef,D.undef,D.undef,D.undef,D.undef,.agg (List.map D.aR S),.int .i64 (T8.i64.wrap ((↑k:Int)+(1:Int))),D.undef,D.undef,D.undef,D.undef,D.undef,D.undef,D.undef,D.undef,D.undef,D.undef,D.undef]) (s':= [.dead,.dead,.dead,.dead,.dead,.dead,.dead,.dead,.dead,.dead,.dead,.dead,.dead,.dead,.dead,.dead,.dead,.dead,.dead,.dead,.dead,.dead,.bO 0 1]) mixed [tC (by ((try simp only [SS,SX,S3,cD,decide_eq_true_eq,decide_eq_false_iff_not,beq_iff_eq,bne_iff_ne,beq_eq_false_iff_ne] at*);omega):(decide ((↑k:Int)<(16386:Int)))=true),.cQ (decide ((0:Int)≤(↑k:Int)∧(↑k:Int)<(↑(16386:Nat):Int))) true (by ((try simp only [SS,SX,S3,cD,decide_eq_true_eq,decide_eq_false_iff_not,beq_iff_eq,bne_iff_ne,beq_eq_false_iff_ne] at*);omega)),.get _ _ _ hx,tT,.len (SA out+(1:Nat)) ((2147483648:Nat)) (by first|decide|omega|(simp;omega)),.cl (S) (by exact hS)] (by kernel_rfl)).cast (by first|rfl|(rw [show T8.i64.wrap ((k:Int)+1)=((k+1:Nat):Int) by rw [cD];omega])) (by first|rfl|(rw [show T8.i64.wrap ((k:Int)+1)=((k+1:Nat):Int) by rw [cD];omega]))
theorem sH (cb cx:List Int) (an:List D) (fuel:Int) (hc:aL (bD cb)=some (bD cb)) (hx:aL (bD cx)=some (bD cx)) (bb:(bD cb).all isByte=true) (bx:(bD cx).all isByte=true) (lc:(bD cb).length≤16384) (lx:(bD cx).length≤256) (f0:0≤fuel) (f1:fuel≤640064):af Tryz.prog 23 ([.aj .no 1 (bD cb),.aj .no 1 (bD cx),.aj .no 1 an,.int .i64 fuel]) ([]) (.aC [.ptr false 10 0,.int .i64 0]) ([.box [.int .u64 1048576,.cS 3 1 (Sz ((bD cb).length:Int)),.bool false,.int .u64 2097152,.cS 6 1 (Sz ((bD cx).length:Int)),.bool true,.int .u64 3145728,.cS 7 1 64,.bool true,.int .u64 4194304,.cS 8 1 264,.bool true],.dead,.dead,.box (bD cb),.dead,.dead,.box (bD cx),.box (Sx 64 (cK (S6 T8.u8 0))),.box (Sx 264 (cK (S6 T8.u8 0))),.dead,.box [.int .u64 0,.int .u64 0,.int .u64 0,.int .u64 0,.int .u64 4194560,.int .u64 0,.int .u64 0,.int .u64 0,.int .u64 0,.int .u64 0,.int .u64 0,.int .u64 0,.int .u64 0,.int .u64 0,.int .u64 0,.int .u64 0,.bool false,.bool false,.bool false,.bool false,.bool false,.int .u64 1048576,.ptr false 0 0,.aj .no 1 an,.aj .tight 0 [],.int .i8 0]]):=by
 exact (af.ab (aD:= [0,3,6,7,8,10]) (d:= .aC [.ptr false 10 0,.int .i64 0]) (s':= [.box [.int .u64 1048576,.cS 3 1 (Sz (↑(SA (bD cb)):Int)),.bool false,.int .u64 2097152,.cS 6 1 (Sz (↑(SA (bD cx)):Int)),.bool true,.int .u64 3145728,.cS 7 1 64,.bool true,.int .u64 4194304,.cS 8 1 264,.bool true],.dead,.dead,.box (bD cb),.dead,.dead,.box (bD cx),.box (Sx (64:Nat) (cK (S6 T8.u8 (0:Int)))),.box (Sx (264:Nat) (cK (S6 T8.u8 (0:Int)))),.dead,.box [.int .u64 0,.int .u64 0,.int .u64 0,.int .u64 0,.int .u64 4194560,.int .u64 0,.int .u64 0,.int .u64 0,.int .u64 0,.int .u64 0,.int .u64 0,.int .u64 0,.int .u64 0,.int .u64 0,.int .u64 0,.int .u64 0,.bool false,.bool false,.bool false,.bool false,.bool false,.int .u64 1048576,.ptr false 0 0,.aj .no 1 an,.aj .tight 0 [],.int .i8 0]]) mixed ([.inl,tC (eF (aY 256 (by ((try simp only [eZ] at*);(try unfold cA at*);omega):(decide ((↑(SA (bD cx)):Int)<(257:Int)))=true))),tC (eF (aY 256 (by ((try simp only [eZ] at*);(try unfold cA at*);omega):(decide ((↑(SA (bD cx)):Int)<(257:Int)))=true))),tC (eF (aY 256 (by ((try simp only [eZ] at*);(try unfold cA at*);omega):(decide ((↑(SA (bD cx)):Int)<(257:Int)))=true))),tC (aY 256 (by ((try simp only [eZ] at*);(try unfold cA at*);omega):(decide ((↑(SA (bD cx)):Int)<(257:Int)))=true)),tC (aY 16384 (by ((try simp only [eZ] at*);(try unfold cA at*);omega):(decide ((↑(SA (bD cb)):Int)<(16385:Int)))=true)),.inl,.cQ (decide ((0:Int)≤(↑(SA (bD cb)):Int)∧(↑(SA (bD cb)):Int)=(↑(SA (bD cb)):Int)∧(↑(SA (bD cb)):Int)≤(2147483648:Int))) true (by ((try simp only [eZ] at*);(try unfold cA at*);omega)),.raw,.zB _ _ hc,tC (v:=true) (@ei (SA (bD cb))),tC (v:=true) bb,.cg _ _ _ _ (@fS _ (Sz (↑(SA (bD cb)):Int)) (cK (S6 T8.u8 (0:Int))) (bD cb) (by first|rfl|decide) (by first|rfl|decide)),.inl,.cQ (decide ((0:Int)≤(↑(SA (bD cx)):Int)∧(↑(SA (bD cx)):Int)=(↑(SA (bD cx)):Int)∧(↑(SA (bD cx)):Int)≤(2147483648:Int))) true (by ((try simp only [eZ] at*);(try unfold cA at*);omega)),.raw]++ [.zB _ _ hx,tC (v:=true) (@ei (SA (bD cx))),tC (v:=true) bx,.cg _ _ _ _ (@fS _ (Sz (↑(SA (bD cx)):Int)) (cK (S6 T8.u8 (0:Int))) (bD cx) (by first|rfl|decide) (by first|rfl|decide)),tT,.raw,tT,tT,.raw,tT,tT,tF,tC (eF (decide_eq_false (SD.2 f0))),tC (eF (decide_eq_false (SD.2 f0))),tC (decide_eq_false (SD.2 f0)),tC (aY 640064 (decide_eq_true (SC f1)))]++ [.inl]) (by kernel_rfl)).cast (by rfl) (by rfl)
theorem yf (cb cx:List Int) (an:List D) (fuel:Int) (hc:aL (bD cb)=some (bD cb)) (hx:aL (bD cx)=some (bD cx)) (bb:(bD cb).all isByte=true) (bx:(bD cx).all isByte=true) (h:256<(bD cx).length):af Tryz.prog 23 ([.aj .no 1 (bD cb),.aj .no 1 (bD cx),.aj .no 1 an,.int .i64 fuel]) ([]) (.aC [.eL,.int .i64 2]) ([]):=by
 exact (af.ab (aD:= []) (d:= .aC [D.eL,.int .i64 2]) (s':= []) mixed [.inl,tC (eF (aY 256 (by ((try simp only [eZ] at*);(try unfold cA at*);omega):(decide ((↑(SA (bD cx)):Int)<(257:Int)))=false))),tC (eF (aY 256 (by ((try simp only [eZ] at*);(try unfold cA at*);omega):(decide ((↑(SA (bD cx)):Int)<(257:Int)))=false))),tC (eF (aY 256 (by ((try simp only [eZ] at*);(try unfold cA at*);omega):(decide ((↑(SA (bD cx)):Int)<(257:Int)))=false))),tC (aY 256 (by ((try simp only [eZ] at*);(try unfold cA at*);omega):(decide ((↑(SA (bD cx)):Int)<(257:Int)))=false)),tT,tF,tF,tT,tF,tF,tT,tT] (by kernel_rfl)).cast (by rfl) (by rfl)
theorem yh (cb cx:List Int) (an:List D) (fuel:Int) (hc:aL (bD cb)=some (bD cb)) (hx:aL (bD cx)=some (bD cx)) (bb:(bD cb).all isByte=true) (bx:(bD cx).all isByte=true) (lx:(bD cx).length≤256) (h:16384<(bD cb).length):af Tryz.prog 23 ([.aj .no 1 (bD cb),.aj .no 1 (bD cx),.aj .no 1 an,.int .i64 fuel]) ([]) (.aC [.eL,.int .i64 2]) ([]):=by
 exact (af.ab (aD:= []) (d:= .aC [D.eL,.int .i64 2]) (s':= []) mixed [.inl,tC (eF (aY 256 (by ((try simp only [eZ] at*);(try unfold cA at*);omega):(decide ((↑(SA (bD cx)):Int)<(257:Int)))=true))),tC (eF (aY 256 (by ((try simp only [eZ] at*);(try unfold cA at*);omega):(decide ((↑(SA (bD cx)):Int)<(257:Int)))=true))),tC (eF (aY 256 (by ((try simp only [eZ] at*);(try unfold cA at*);omega):(decide ((↑(SA (bD cx)):Int)<(257:Int)))=true))),tC (aY 256 (by ((try simp only [eZ] at*);(try unfold cA at*);omega):(decide ((↑(SA (bD cx)):Int)<(257:Int)))=true)),tC (aY 16384 (by ((try simp only [eZ] at*);(try unfold cA at*);omega):(decide ((↑(SA (bD cb)):Int)<(16385:Int)))=false)),tF,tF,tT,tF,tF,tT,tT] (by kernel_rfl)).cast (by rfl) (by rfl)
theorem yg (cb cx:List Int) (an:List D) (fuel:Int) (hc:aL (bD cb)=some (bD cb)) (hx:aL (bD cx)=some (bD cx)) (bb:(bD cb).all isByte=true) (bx:(bD cx).all isByte=true) (lc:(bD cb).length≤16384) (lx:(bD cx).length≤256) (h:fuel<0):af Tryz.prog 23 ([.aj .no 1 (bD cb),.aj .no 1 (bD cx),.aj .no 1 an,.int .i64 fuel]) ([]) (.aC [.eL,.int .i64 2]) ([.dead,.dead,.dead,.dead,.dead,.dead,.dead,.dead,.dead]):=by
 exact (af.ab (aD:= []) (d:= .aC [D.eL,.int .i64 2]) (s':= [.dead,.dead,.dead,.dead,.dead,.dead,.dead,.dead,.dead]) mixed ([.inl,tC (eF (aY 256 (by ((try simp only [eZ] at*);(try unfold cA at*);omega):(decide ((↑(SA (bD cx)):Int)<(257:Int)))=true))),tC (eF (aY 256 (by ((try simp only [eZ] at*);(try unfold cA at*);omega):(decide ((↑(SA (bD cx)):Int)<(257:Int)))=true))),tC (eF (aY 256 (by ((try simp only [eZ] at*);(try unfold cA at*);omega):(decide ((↑(SA (bD cx)):Int)<(257:Int)))=true))),tC (aY 256 (by ((try simp only [eZ] at*);(try unfold cA at*);omega):(decide ((↑(SA (bD cx)):Int)<(257:Int)))=true)),tC (aY 16384 (by ((try simp only [eZ] at*);(try unfold cA at*);omega):(decide ((↑(SA (bD cb)):Int)<(16385:Int)))=true)),.inl,.cQ (decide ((0:Int)≤(↑(SA (bD cb)):Int)∧(↑(SA (bD cb)):Int)=(↑(SA (bD cb)):Int)∧(↑(SA (bD cb)):Int)≤(2147483648:Int))) true (by ((try simp only [eZ] at*);(try unfold cA at*);omega)),.raw,.zB _ _ hc,tC (v:=true) (@ei (SA (bD cb))),tC (v:=true) bb,.cg _ _ _ _ (@fS _ (Sz (↑(SA (bD cb)):Int)) (cK (S6 T8.u8 (0:Int))) (bD cb) (by first|rfl|decide) (by first|rfl|decide)),.inl,.cQ (decide ((0:Int)≤(↑(SA (bD cx)):Int)∧(↑(SA (bD cx)):Int)=(↑(SA (bD cx)):Int)∧(↑(SA (bD cx)):Int)≤(2147483648:Int))) true (by ((try simp only [eZ] at*);(try unfold cA at*);omega)),.raw]++ [.zB _ _ hx,tC (v:=true) (@ei (SA (bD cx))),tC (v:=true) bx,.cg _ _ _ _ (@fS _ (Sz (↑(SA (bD cx)):Int)) (cK (S6 T8.u8 (0:Int))) (bD cx) (by first|rfl|decide) (by first|rfl|decide)),tT,.raw,tT,tT,.raw,tT,tT,tF,tC (eF (decide_eq_true h)),tC (eF (decide_eq_true h)),tC (decide_eq_true h),tT]) (by kernel_rfl)).cast (by rfl) (by rfl)
theorem yi (cb cx:List Int) (an:List D) (fuel:Int) (hc:aL (bD cb)=some (bD cb)) (hx:aL (bD cx)=some (bD cx)) (bb:(bD cb).all isByte=true) (bx:(bD cx).all isByte=true) (lc:(bD cb).length≤16384) (lx:(bD cx).length≤256) (h:640064<fuel):af Tryz.prog 23 ([.aj .no 1 (bD cb),.aj .no 1 (bD cx),.aj .no 1 an,.int .i64 fuel]) ([]) (.aC [.eL,.int .i64 2]) ([.dead,.dead,.dead,.dead,.dead,.dead,.dead,.dead,.dead]):=by
 exact (af.ab (aD:= []) (d:= .aC [D.eL,.int .i64 2]) (s':= [.dead,.dead,.dead,.dead,.dead,.dead,.dead,.dead,.dead]) mixed ([.inl,tC (eF (aY 256 (by ((try simp only [eZ] at*);(try unfold cA at*);omega):(decide ((↑(SA (bD cx)):Int)<(257:Int)))=true))),tC (eF (aY 256 (by ((try simp only [eZ] at*);(try unfold cA at*);omega):(decide ((↑(SA (bD cx)):Int)<(257:Int)))=true))),tC (eF (aY 256 (by ((try simp only [eZ] at*);(try unfold cA at*);omega):(decide ((↑(SA (bD cx)):Int)<(257:Int)))=true))),tC (aY 256 (by ((try simp only [eZ] at*);(try unfold cA at*);omega):(decide ((↑(SA (bD cx)):Int)<(257:Int)))=true)),tC (aY 16384 (by ((try simp only [eZ] at*);(try unfold cA at*);omega):(decide ((↑(SA (bD cb)):Int)<(16385:Int)))=true)),.inl,.cQ (decide ((0:Int)≤(↑(SA (bD cb)):Int)∧(↑(SA (bD cb)):Int)=(↑(SA (bD cb)):Int)∧(↑(SA (bD cb)):Int)≤(2147483648:Int))) true (by ((try simp only [eZ] at*);(try unfold cA at*);omega)),.raw,.zB _ _ hc,tC (v:=true) (@ei (SA (bD cb))),tC (v:=true) bb,.cg _ _ _ _ (@fS _ (Sz (↑(SA (bD cb)):Int)) (cK (S6 T8.u8 (0:Int))) (bD cb) (by first|rfl|decide) (by first|rfl|decide)),.inl,.cQ (decide ((0:Int)≤(↑(SA (bD cx)):Int)∧(↑(SA (bD cx)):Int)=(↑(SA (bD cx)):Int)∧(↑(SA (bD cx)):Int)≤(2147483648:Int))) true (by ((try simp only [eZ] at*);(try unfold cA at*);omega)),.raw]++ [.zB _ _ hx,tC (v:=true) (@ei (SA (bD cx))),tC (v:=true) bx,.cg _ _ _ _ (@fS _ (Sz (↑(SA (bD cx)):Int)) (cK (S6 T8.u8 (0:Int))) (bD cx) (by first|rfl|decide) (by first|rfl|decide)),tT,.raw,tT,tT,.raw,tT,tT,tF,tC (eF (lb 0 (decide_eq_false (by omega:¬fuel<640065)))),tC (eF (lb 0 (decide_eq_false (by omega:¬fuel<640065)))),tC (lb 0 (decide_eq_false (by omega:¬fuel<640065))),tC (aY 640064 (decide_eq_false (by omega:¬fuel<640065)))]) (by kernel_rfl)).cast (by rfl) (by rfl)
theorem pw (f:Nat→Nat) (n:Nat) (k:T8) (v:Int):D.jQ f (Sx n (cK (S6 k v)))=Sx n (cK (S6 k v)):=by
 rw [D.gh,List.map_replicate]
 rfl
theorem pad {P:Program} {f:FuncId} {args:List D} {s:List Ob} {d:D} {s':List Ob} (k:Nat) (h:af P f args s d s'):af P f args s d (s'++Sx k .dead):=by
 refine ⟨h.FB,by rw [SS];have:=h.len;omega,fun w0 M own w vs hw hu hr=>Calls.mono (h.run w0 M own w vs hw hu hr) ?_⟩
 rintro e w' ⟨v,M',LB,rfl,q1,q2,q3,q4⟩
 have e:bo (s'++Sx k .dead)=bo s':=by
  funext i
  unfold bo
  rw [SK,SK,Tx]
  split
  ·rfl
  ·rename_i hi
   rw [SN (by omega:s'.length≤i),T2]
   split<;>rfl
 refine ⟨v,M',LB,rfl,by rw [e];exact q1,⟨fun id hi=>q2.1 id ?_,fun id v hi=>q2.2 id v ?_⟩,q3,q4⟩
 all_goals (rw [SS] at hi;omega)
abbrev KS (cb cx:List Int) (an:List D):List Ob:= [.box [.int .u64 1048576,.cS 3 1 (Sz ((bD cb).length:Int)),.bool false,.int .u64 2097152,.cS 6 1 (Sz ((bD cx).length:Int)),.bool true,.int .u64 3145728,.cS 7 1 64,.bool true,.int .u64 4194304,.cS 8 1 264,.bool true],.dead,.dead,.box (bD cb),.dead,.dead,.box (bD cx),.box (Sx 64 (cK (S6 T8.u8 0))),.box (Sx 264 (cK (S6 T8.u8 0))),.dead,.box [.int .u64 0,.int .u64 0,.int .u64 0,.int .u64 0,.int .u64 4194560,.int .u64 0,.int .u64 0,.int .u64 0,.int .u64 0,.int .u64 0,.int .u64 0,.int .u64 0,.int .u64 0,.int .u64 0,.int .u64 0,.int .u64 0,.bool false,.bool false,.bool false,.bool false,.bool false,.int .u64 1048576,.ptr false 0 0,.aj .no 1 an,.aj .tight 0 [],.int .i8 0]]
theorem sJ (p0 p1 p2 p3 p4 p5:Ob) (cb cx:List Int) (an:List D) (fuel:Int) (hc:aL (bD cb)=some (bD cb)) (hx:aL (bD cx)=some (bD cx)) (bb:(bD cb).all isByte=true) (bx:(bD cx).all isByte=true) (lc:(bD cb).length≤16384) (lx:(bD cx).length≤256) (f0:0≤fuel) (f1:fuel≤640064):af Tryz.prog 23 [.aj .no 1 (bD cb),.aj .no 1 (bD cx),.aj .no 1 an,.int .i64 fuel] [p0,p1,p2,p3,p4,p5] (.aC [.ptr false 16 0,.int .i64 0]) [p0,p1,p2,p3,p4,p5,.box (vT 9 12 13 14 (Sz ((bD cb).length:Int)) (Sz ((bD cx).length:Int))),.dead,.dead,.box (bD cb),.dead,.dead,.box (bD cx),.box (Sx 64 (cK (S6 T8.u8 0))),.box (Sx 264 (cK (S6 T8.u8 0))),.dead,.box [.int .u64 0,.int .u64 0,.int .u64 0,.int .u64 0,.int .u64 4194560,.int .u64 0,.int .u64 0,.int .u64 0,.int .u64 0,.int .u64 0,.int .u64 0,.int .u64 0,.int .u64 0,.int .u64 0,.int .u64 0,.int .u64 0,.bool false,.bool false,.bool false,.bool false,.bool false,.int .u64 1048576,.ptr false 6 0,.aj .no 1 an,.aj .tight 0 [],.int .i8 0]]:=by
 have h:=(sH cb cx an fuel hc hx bb bx lc lx f0 f1).rn [] [p0,p1,p2,p3,p4,p5] rfl .nil (fun _ h=>by cases h) rfl
 have e:Bz [] [p0,p1,p2,p3,p4,p5] (KS cb cx an)= [p0,p1,p2,p3,p4,p5,.box (vT 9 12 13 14 (Sz ((bD cb).length:Int)) (Sz ((bD cx).length:Int))),.dead,.dead,.box (bD cb),.dead,.dead,.box (bD cx),.box (Sx 64 (cK (S6 T8.u8 0))),.box (Sx 264 (cK (S6 T8.u8 0))),.dead,.box [.int .u64 0,.int .u64 0,.int .u64 0,.int .u64 0,.int .u64 4194560,.int .u64 0,.int .u64 0,.int .u64 0,.int .u64 0,.int .u64 0,.int .u64 0,.int .u64 0,.int .u64 0,.int .u64 0,.int .u64 0,.int .u64 0,.bool false,.bool false,.bool false,.bool false,.bool false,.int .u64 1048576,.ptr false 6 0,.aj .no 1 an,.aj .tight 0 [],.int .i8 0]]:=(rfl:_= [p0,p1,p2,p3,p4,p5,.box (vT 9 12 13 14 (Sz ((bD cb).length:Int)) (Sz ((bD cx).length:Int))),.dead,.dead,.box (D.jQ (fZ [] 6) (bD cb)),.dead,.dead,.box (D.jQ (fZ [] 6) (bD cx)),.box (D.jQ (fZ [] 6) (Sx 64 (cK (S6 T8.u8 0)))),.box (D.jQ (fZ [] 6) (Sx 264 (cK (S6 T8.u8 0)))),.dead,.box [.int .u64 0,.int .u64 0,.int .u64 0,.int .u64 0,.int .u64 4194560,.int .u64 0,.int .u64 0,.int .u64 0,.int .u64 0,.int .u64 0,.int .u64 0,.int .u64 0,.int .u64 0,.int .u64 0,.int .u64 0,.int .u64 0,.bool false,.bool false,.bool false,.bool false,.bool false,.int .u64 1048576,.ptr false 6 0,.aj .no 1 an,.aj .tight 0 [],.int .i8 0]]).trans (by rw [eU,eU,pw,pw])
 exact h.cast rfl e
theorem sI (p0 p1 p2 p3 p4 p5 p6 p7 p8 p9 Qs Qn Qj:Ob) (cb cx:List Int) (an:List D) (fuel:Int) (hc:aL (bD cb)=some (bD cb)) (hx:aL (bD cx)=some (bD cx)) (bb:(bD cb).all isByte=true) (bx:(bD cx).all isByte=true) (lc:(bD cb).length≤16384) (lx:(bD cx).length≤256) (f0:0≤fuel) (f1:fuel≤640064):af Tryz.prog 23 [.aj .no 1 (bD cb),.aj .no 1 (bD cx),.aj .no 1 an,.int .i64 fuel] [p0,p1,p2,p3,p4,p5,p6,p7,p8,p9,Qs,Qn,Qj] (.aC [.ptr false 23 0,.int .i64 0]) [p0,p1,p2,p3,p4,p5,p6,p7,p8,p9,Qs,Qn,Qj,.box (vT 16 19 20 21 (Sz ((bD cb).length:Int)) (Sz ((bD cx).length:Int))),.dead,.dead,.box (bD cb),.dead,.dead,.box (bD cx),.box (Sx 64 (cK (S6 T8.u8 0))),.box (Sx 264 (cK (S6 T8.u8 0))),.dead,.box [.int .u64 0,.int .u64 0,.int .u64 0,.int .u64 0,.int .u64 4194560,.int .u64 0,.int .u64 0,.int .u64 0,.int .u64 0,.int .u64 0,.int .u64 0,.int .u64 0,.int .u64 0,.int .u64 0,.int .u64 0,.int .u64 0,.bool false,.bool false,.bool false,.bool false,.bool false,.int .u64 1048576,.ptr false 13 0,.aj .no 1 an,.aj .tight 0 [],.int .i8 0]]:=by
 have h:=(sH cb cx an fuel hc hx bb bx lc lx f0 f1).rn [] [p0,p1,p2,p3,p4,p5,p6,p7,p8,p9,Qs,Qn,Qj] rfl .nil (fun _ h=>by cases h) rfl
 have e:Bz [] [p0,p1,p2,p3,p4,p5,p6,p7,p8,p9,Qs,Qn,Qj] (KS cb cx an)= [p0,p1,p2,p3,p4,p5,p6,p7,p8,p9,Qs,Qn,Qj,.box (vT 16 19 20 21 (Sz ((bD cb).length:Int)) (Sz ((bD cx).length:Int))),.dead,.dead,.box (bD cb),.dead,.dead,.box (bD cx),.box (Sx 64 (cK (S6 T8.u8 0))),.box (Sx 264 (cK (S6 T8.u8 0))),.dead,.box [.int .u64 0,.int .u64 0,.int .u64 0,.int .u64 0,.int .u64 4194560,.int .u64 0,.int .u64 0,.int .u64 0,.int .u64 0,.int .u64 0,.int .u64 0,.int .u64 0,.int .u64 0,.int .u64 0,.int .u64 0,.int .u64 0,.bool false,.bool false,.bool false,.bool false,.bool false,.int .u64 1048576,.ptr false 13 0,.aj .no 1 an,.aj .tight 0 [],.int .i8 0]]:=(rfl:_= [p0,p1,p2,p3,p4,p5,p6,p7,p8,p9,Qs,Qn,Qj,.box (vT 16 19 20 21 (Sz ((bD cb).length:Int)) (Sz ((bD cx).length:Int))),.dead,.dead,.box (D.jQ (fZ [] 13) (bD cb)),.dead,.dead,.box (D.jQ (fZ [] 13) (bD cx)),.box (D.jQ (fZ [] 13) (Sx 64 (cK (S6 T8.u8 0)))),.box (D.jQ (fZ [] 13) (Sx 264 (cK (S6 T8.u8 0)))),.dead,.box [.int .u64 0,.int .u64 0,.int .u64 0,.int .u64 0,.int .u64 4194560,.int .u64 0,.int .u64 0,.int .u64 0,.int .u64 0,.int .u64 0,.int .u64 0,.int .u64 0,.int .u64 0,.int .u64 0,.int .u64 0,.int .u64 0,.bool false,.bool false,.bool false,.bool false,.bool false,.int .u64 1048576,.ptr false 13 0,.aj .no 1 an,.aj .tight 0 [],.int .i8 0]]).trans (by rw [eU,eU,pw,pw])
 exact h.cast rfl e
theorem yj (p0 p1 p2 p3 p4 p5:Ob) (cb cx:List Int) (an:List D) (fuel:Int) (hc:aL (bD cb)=some (bD cb)) (hx:aL (bD cx)=some (bD cx)) (bb:(bD cb).all isByte=true) (bx:(bD cx).all isByte=true) (h:256<(bD cx).length):af Tryz.prog 23 [.aj .no 1 (bD cb),.aj .no 1 (bD cx),.aj .no 1 an,.int .i64 fuel] [p0,p1,p2,p3,p4,p5] (.aC [.eL,.int .i64 2]) [p0,p1,p2,p3,p4,p5,.dead,.dead,.dead,.dead,.dead,.dead,.dead,.dead,.dead,.dead,.dead,.dead,.dead,.dead,.dead,.dead]:=
 (pad 16 ((yf cb cx an fuel hc hx bb bx h).rn [] [p0,p1,p2,p3,p4,p5] rfl .nil (fun _ h=>by cases h) rfl)).cast rfl rfl
theorem ym (p0 p1 p2 p3 p4 p5:Ob) (cb cx:List Int) (an:List D) (fuel:Int) (hc:aL (bD cb)=some (bD cb)) (hx:aL (bD cx)=some (bD cx)) (bb:(bD cb).all isByte=true) (bx:(bD cx).all isByte=true) (lx:(bD cx).length≤256) (h:16384<(bD cb).length):af Tryz.prog 23 [.aj .no 1 (bD cb),.aj .no 1 (bD cx),.aj .no 1 an,.int .i64 fuel] [p0,p1,p2,p3,p4,p5] (.aC [.eL,.int .i64 2]) [p0,p1,p2,p3,p4,p5,.dead,.dead,.dead,.dead,.dead,.dead,.dead,.dead,.dead,.dead,.dead,.dead,.dead,.dead,.dead,.dead]:=
 (pad 16 ((yh cb cx an fuel hc hx bb bx lx h).rn [] [p0,p1,p2,p3,p4,p5] rfl .nil (fun _ h=>by cases h) rfl)).cast rfl rfl
theorem yk (p0 p1 p2 p3 p4 p5:Ob) (cb cx:List Int) (an:List D) (fuel:Int) (hc:aL (bD cb)=some (bD cb)) (hx:aL (bD cx)=some (bD cx)) (bb:(bD cb).all isByte=true) (bx:(bD cx).all isByte=true) (lc:(bD cb).length≤16384) (lx:(bD cx).length≤256) (h:fuel<0):af Tryz.prog 23 [.aj .no 1 (bD cb),.aj .no 1 (bD cx),.aj .no 1 an,.int .i64 fuel] [p0,p1,p2,p3,p4,p5] (.aC [.eL,.int .i64 2]) [p0,p1,p2,p3,p4,p5,.dead,.dead,.dead,.dead,.dead,.dead,.dead,.dead,.dead,.dead,.dead,.dead,.dead,.dead,.dead,.dead]:=
 (pad 7 ((yg cb cx an fuel hc hx bb bx lc lx h).rn [] [p0,p1,p2,p3,p4,p5] rfl .nil (fun _ h=>by cases h) rfl)).cast rfl rfl
theorem yn (p0 p1 p2 p3 p4 p5:Ob) (cb cx:List Int) (an:List D) (fuel:Int) (hc:aL (bD cb)=some (bD cb)) (hx:aL (bD cx)=some (bD cx)) (bb:(bD cb).all isByte=true) (bx:(bD cx).all isByte=true) (lc:(bD cb).length≤16384) (lx:(bD cx).length≤256) (h:640064<fuel):af Tryz.prog 23 [.aj .no 1 (bD cb),.aj .no 1 (bD cx),.aj .no 1 an,.int .i64 fuel] [p0,p1,p2,p3,p4,p5] (.aC [.eL,.int .i64 2]) [p0,p1,p2,p3,p4,p5,.dead,.dead,.dead,.dead,.dead,.dead,.dead,.dead,.dead,.dead,.dead,.dead,.dead,.dead,.dead,.dead]:=
 (pad 7 ((yi cb cx an fuel hc hx bb bx lc lx h).rn [] [p0,p1,p2,p3,p4,p5] rfl .nil (fun _ h=>by cases h) rfl)).cast rfl rfl
end Go.Proofs.YtbfpahigdpigpaaGreat
namespace Go.Ev
open Go
def fN (pc:Int):Int:=if decide (T8.u64.wrap (pc - 1048576)<16385)=true then T8.i64.wrap (T8.u64.wrap (pc - 1048576)) else -1
theorem Eo (pc:Int): -1≤fN pc∧fN pc≤16384:=by
 unfold fN
 split
 ·rename_i h
  have h:=of_decide_eq_true h
  have h0:0≤T8.u64.wrap (pc - 1048576):=by rw [dR];omega
  generalize T8.u64.wrap (pc - 1048576)=z at*
  rw [cD];omega
 ·decide
theorem Il (pc:Int) (h0:0≤pc) (h1:pc≤18446744073709551615) (h:0≤fN pc):T8.u64.wrap (1048576+T8.u64.wrap (fN pc))=pc:=by
 unfold fN at h ⊢
 split at h
 ·rename_i hd
  rw [if_pos hd]
  have hd:=of_decide_eq_true hd
  rw [dR] at hd
  rw [dR,dR,cD,dR]
  omega
 ·omega
def iD (l:List Int):List D:=l.map (.int .i64)
theorem IL (a b:List Int):iD (a++b)=iD a++iD b:=by simp [iD]
theorem jb (a:List Int):(iD a).length=a.length:=by simp [iD]
theorem yK {l:List Int} {k:Nat} {x:Int} (h:l[k]? =some x):(iD l)[k]? =some (.int .i64 x):=by simp [iD,h]
def fM (cb:List Int):Nat→iH→List Int
  |0,_=> []
  |f+1,e=>fN e.m.pc::(match bf cb e with
    |(e2,true)=>fM cb f e2
    |(_,false)=> [])
theorem DC (cb:List Int):∀(f:Nat) (e:iH),∀x∈fM cb f e,-1≤x∧x≤16384
 |0,_,x,h=>by simp [fM] at h
 |f+1,e,x,h=>by
  rw [fM,TJ] at h
  rcases h with rfl|h
  ·exact Eo _
  ·cases hs:bf cb e with
   |mk e2 b=>
    rw [hs] at h
    cases b with
    |true=>exact DC cb f e2 x h
    |false=>simp at h
theorem Ab (cb:List Int):∀(f:Nat) (e:iH),(ej cb f e).2+(fM cb f e).length=f
 |0,_=>rfl
 |f+1,e=>by
  rw [ej,fM]
  cases hs:bf cb e with
  |mk e2 b=>
   cases b with
   |true=>
    have:=Ab cb f e2
    simp only [SX];omega
   |false=>simp
def kB (x:Int):Nat:=Sz (T8.i64.wrap (x+1))
def mg:List Int→List Bool→List Bool
  | [],l=>l
  |x::v,l=>mg v (l.set (kB x) true)
def lI (l:List Bool):List D:=l.map D.bool
theorem gD (l:List Bool):∀c∈lI l,c.clean=true:=by
 intro c hc
 obtain ⟨n,_,rfl⟩:=List.mem_map.1 hc
 rfl
theorem iW (l:List Bool):(lI l).map D.aR=lI l:=by
 simp only [lI,List.map_map]
 rfl
theorem Gk (l:List Bool) (i:Nat):(lI l).set i (.bool true)=lI (l.set i true):=by simp [lI,List.map_set]
theorem Ah {l:List Bool} {i:Nat} {b:Bool} (h:l[i]? =some b):(lI l)[i]? =some (.bool b):=by simp [lI,h]
theorem u9 (l:List Bool):(lI l).length=l.length:=by simp [lI]
theorem lG:∀(v:List Int) (l:List Bool),(mg v l).length=l.length
 | [],_=>rfl
 |x::v,l=>by rw [mg,lG v,Tj]
theorem pv:∀(v:List Int) (l:List Bool) (k:Nat),k<l.length→((mg v l)[k]? =some true↔l[k]? =some true∨∃x∈v,kB x=k)
 | [],l,k,h=>by simp [mg]
 |x::v,l,k,h=>by
  rw [mg,pv v _ k (by simpa using h),List.getElem?_set]
  by_cases e:kB x=k
  ·rw [if_pos e,if_pos (by omega)]
   simp [e]
  ·rw [if_neg e]
   constructor
   ·rintro (q|⟨y,q,z⟩)
    ·exact .inl q
    ·exact .inr ⟨y,T5 _ q,z⟩
   ·rintro (q|⟨y,q,z⟩)
    ·exact .inl q
    ·rcases TJ.1 q with rfl|q
     ·exact absurd z e
     ·exact .inr ⟨y,q,z⟩
def F5 (v:List Int):List D:=(List.range 16386).map fun i=>D.bool (v.any fun x=>kB x==i)
theorem qo (v:List Int):lI (mg v (Sx 16386 false))=F5 v:=by
 apply List.ext_getElem?
 intro i
 unfold lI F5
 rw [SW,SW]
 rcases Nat.lt_or_ge i 16386 with h|h
 ·have hl:i<(mg v (Sx 16386 false)).length:=by rw [lG,Tp];exact h
  have hg:=pv v (Sx 16386 false) i (by rw [Tp];exact h)
  rw [T2,if_pos h,Th hl] at hg
  rw [Th hl,List.getElem?_range h]
  have e:(mg v (Sx 16386 false))[i]=v.any fun x=>kB x==i:=by
   rw [Bool.eq_iff_iff,List.any_eq_true]
   constructor
   ·intro q
    rcases hg.1 (by rw [q]) with q|⟨x,q,z⟩
    ·cases q
    ·exact ⟨x,q,by rw [z];exact beq_self_eq_true _⟩
   ·rintro ⟨x,q,z⟩
    have:=hg.2 (.inr ⟨x,q,eq_of_beq z⟩)
    exact Option.some.inj this
  rw [e]
  rfl
 ·rw [SN (by rw [lG,Tp];exact h),SN (by rw [List.length_range];exact h)]
  rfl
theorem uw (v:List Int):(F5 v).length=16386:=by rw [F5,List.length_map,List.length_range]
def j6:Nat→List Bool→List Int
  |_,[]=> []
  |k,true::r=>((k:Int) - 1)::j6 (k+1) r
  |k,false::r=>j6 (k+1) r
theorem uI (p:Int):∀(l:List Bool) (k:Nat),p∈j6 k l↔ ∃i:Nat,l[i]? =some true∧p=((k+i:Nat):Int) - 1
 | [],k=>by simp [j6]
 |b::r,k=>by
  have ih:=uI p r (k+1)
  have sh:(∃i:Nat,(b::r)[i]? =some true∧p=((k+i:Nat):Int) - 1)↔(b=true∧p=(k:Int) - 1)∨∃i:Nat,r[i]? =some true∧p=((k+1+i:Nat):Int) - 1:=by
   constructor
   ·rintro ⟨i,h,e⟩
    cases i with
    |zero=>exact .inl ⟨by simpa using h,by simpa using e⟩
    |succ i=>exact .inr ⟨i,by simpa using h,by rw [e];omega⟩
   ·rintro (⟨rfl,e⟩|⟨i,h,e⟩)
    ·exact ⟨0,rfl,by simpa using e⟩
    ·exact ⟨i+1,by simpa using h,by rw [e];omega⟩
  rw [sh]
  cases b with
  |true=>rw [j6,TJ,ih];simp
  |false=>rw [j6,ih];simp
theorem H9:∀(l:List Bool) (k:Nat),∀p∈j6 k l,(k:Int) - 1≤p:=by
 intro l k p h
 obtain ⟨i,_,e⟩:=(uI p l k).1 h
 omega
theorem uH:∀(l:List Bool) (k:Nat),(j6 k l).Pairwise (· < ·)
 | [],_=> .nil
 |true::r,k=>by
  rw [j6,List.pairwise_cons]
  exact ⟨fun p h=>by have:=H9 r (k+1) p h;omega,uH r (k+1)⟩
 |false::r,k=>uH r (k+1)
theorem uJ:∀(l:List Bool) (k:Nat),(j6 k l).length≤l.length
 | [],_=>Nat.le_refl _
 |true::r,k=>by rw [j6];have:=uJ r (k+1);simp;omega
 |false::r,k=>by rw [j6];have:=uJ r (k+1);simp;omega
def m9 (v:List Int):List Int:=j6 0 (mg v (Sx 16386 false))
theorem wE {v:List Int} (hv:∀x∈v,-1≤x∧x≤16384) (p:Int):p∈m9 v↔p∈v:=by
 have hk:∀x∈v,(kB x:Int)=x+1:=fun x hx=>by
  have:=hv x hx
  unfold kB
  rw [cD];omega
 rw [m9,uI]
 constructor
 ·rintro ⟨i,h,e⟩
  have hi:i<16386:=by
   rcases Nat.lt_or_ge i 16386 with q|q
   ·exact q
   ·rw [SN (by rw [lG,Tp];exact q)] at h;cases h
  rw [pv _ _ _ (by rw [Tp];exact hi)] at h
  rcases h with h|⟨x,hx,h⟩
  ·rw [T2,if_pos hi] at h;cases h
  ·have:=hk x hx
   have:p=x:=by omega
   rw [this];exact hx
 ·intro hp
  have h1:=hv p hp
  have h2:=hk p hp
  refine ⟨kB p,?_,by omega⟩
  rw [pv _ _ _ (by rw [Tp];omega)]
  exact .inr ⟨p,hp,rfl⟩
theorem u7 (es:List (Int×D)) (n:Int) (v:D) (m:Int):dv (dK es n v) m=if m=n then some v else dv es m:=by
 induction es with
 |nil=>
  by_cases h:m=n
  ·subst h;simp [dK,dv]
  ·have:(m==n)=false:=by simpa using h
   simp [dK,dv,this,h]
 |cons p r ih=>
  obtain ⟨a,d⟩:=p
  rw [dK]
  by_cases hn:n=a
  ·subst hn
   simp only [beq_self_eq_true]
   by_cases h:m=n
   ·subst h;simp [dv]
   ·have:(m==n)=false:=by simpa using h
    simp [dv,this,h]
  ·have e:(n==a)=false:=by simpa using hn
   simp only [e]
   by_cases h:m=a
   ·subst h
    have:¬m=n:=fun q=>hn q.symm
    simp [dv,this]
   ·have e2:(m==a)=false:=by simpa using h
    simp only [dv,e2]
    exact ih
def kE (t:Int):List Int→List (Int×D)→List (Int×D)
  | [],es=>es
  |x::v,es=>kE t v (dK es x (.int .i64 t))
theorem uX (t:Int):∀(v:List Int) (es:List (Int×D)) (n:Int),dv (kE t v es) n=if n∈v then some (.int .i64 t) else dv es n
 | [],es,n=>by simp [kE]
 |x::v,es,n=>by
  rw [kE,uX t v,u7]
  by_cases h:n∈v
  ·rw [if_pos h,if_pos (T5 _ h)]
  ·rw [if_neg h]
   by_cases e:n=x
   ·rw [if_pos e,if_pos (by rw [e];exact List.mem_cons_self)]
   ·rw [if_neg e,if_neg (by simp [e,h])]
def qC (m:ao):Prop:=0≤m.pc∧m.pc≤18446744073709551615
theorem uM (m:ao) (v:Int):qC (m.at (u64 v)):=by
 unfold qC ao.at
 simp only [u64,dR]
 omega
theorem AR (m:ao) (s w a b v:Int):(AU m s w a b v).pc=m.pc:=by unfold AU;split<;>rfl
theorem IV (m:ao) (x:XS) (ld:Int) (h:qC m) (hl:x.op=30→0≤ld∧ld≤18446744073709551615):qC (jW m x ld).1:=by
 have hz:qC .zero:=⟨by decide,by decide⟩
 unfold jW
 split
 ·simp only []
  split
  ·unfold qC;rw [AR];exact h
  ·unfold qC;simp only [ao.put,AR];exact h
 ·split
  ·exact h
  ·exact h
  ·split
   ·exact hz
   ·split
    ·exact hz
    ·exact h
  ·split
   ·exact hz
   ·exact h
  ·exact h
  ·exact uM _ _
  ·split
   ·exact hz
   ·split
    ·exact uM _ _
    ·exact h
  ·rename_i ho
   exact hl ho
  ·exact h
  ·exact h
theorem ll (m:ao) (x:XS) (ld:Int) (hl:x.op=30→0≤ld∧ld≤18446744073709551615):qC (fm m x ld).1:=by
 unfold fm
 split
 ·exact ⟨Int.le_refl 0,by show (0:Int)≤_;decide⟩
 ·exact IV _ x ld (uM _ _) hl
theorem H5:∀l:List Int,0≤sf l∧sf l≤18446744073709551615
 | []=>by decide
 |b::t=>by
  rw [sf,KT,dR]
  omega
theorem Fc {cb cx fr st:List Int} {a n v:Int} (h:oT cb cx fr st a n=some v):0≤v∧v≤18446744073709551615:=by
 unfold oT at h
 repeat' split at h
 all_goals first|(cases h;exact H5 _)|(cases h;done)
theorem Ae (cb:List Int) (e:iH) (h:qC e.m):qC (bf cb e).1.m:=by
 have no:∀ {x:XS} {c:Int},x.op=c→c≠30→∀ {ld:Int},x.op=30→0≤ld∧ld≤18446744073709551615:=fun a b _ q=>absurd (a.symm.trans q) b
 unfold bf
 split
 ·split
  ·exact h
  ·split
   ·rename_i ho
    split
    ·split
     ·exact h
     ·exact ll _ _ _ (no ho (by decide))
    ·exact h
   ·split
    ·rename_i ho
     split
     ·exact h
     ·exact ll _ _ _ (no ho (by decide))
    ·split
     ·rename_i ho
      split
      ·exact h
      ·exact ll _ _ _ (no ho (by decide))
     ·split
      ·split
       ·exact h
       ·rename_i v hv
        split<;>exact ll _ _ _ (fun _=>Fc hv)
      ·rename_i ho
       split
       ·exact ll _ _ _ (fun q=>absurd q ho)
       ·exact h
 ·exact h
theorem Gg (cb:List Int) (e:iH) (hc:cb.length≤16384) (h:(bf cb e).2=true):0≤fN e.m.pc:=by
 have hi:rX 1048576 cb.length e.m.pc 1=true:=by
  cases q:rX 1048576 cb.length e.m.pc 1 with
  |true=>rfl
  |false=>unfold bf at h;rw [q] at h;simp at h
 obtain ⟨_,p1,_⟩:=CM hi
 unfold fN
 rw [if_pos (decide_eq_true (by omega))]
 have:0≤T8.u64.wrap (e.m.pc - 1048576):=by rw [dR];omega
 generalize T8.u64.wrap (e.m.pc - 1048576)=z at*
 rw [cD];omega
end Go.Ev
namespace Go.Proofs.YtbfpahigdpigpaaGreat
open Go Go.Ev
abbrev pX (lp:Ob) (l:List Bool) (left:Int) (cb:List Int) (nx:Nat) (e:iH):List Ob:=pS (.box (lI l)) lp (.box [.int .i64 left]) e.m (bD cb) (bD e.cx) (bD e.fr) (bD e.st) (wD e.an) (ev e.tr) e.en cb.length nx 0 []
theorem yu (pc:Int):Ck pc=fN pc:=rfl
theorem vy (l:List Bool):dM (lI l)=lI l:=iW l
theorem sF (cb:List Int) (hb:fO cb) (hc:cb.length≤16384) (nx:Nat) (LC:nx≤256):∀(f:Nat) (e:iH) (l:List Bool),e.en=0→l.length=16386→e.cx.length=nx→e.fr.length=64→e.st.length=264→e.tr.length+f≤100000→
  bJ Tryz.prog (cu Tryz.f45 0) 21 pT (pX (np (a8 Tryz.f16 0) (a7 Tryz.f16 0)) l (f:Int) cb nx e) (su (ej cb f e).1) kU (pX (np (a8 Tryz.f16 0) (a7 Tryz.f16 0)) (mg (fM cb f e) l) ((ej cb f e).2:Int) cb nx (ej cb f e).1)
 |0,e,l,h0,hl,hx,hf,hs,ht=>by
  have:=Ic (lI l) (bD cb) (bD e.cx) (bD e.fr) (bD e.st) (wD e.an) (ev e.tr) e.m ((0:Nat):Int) e.en cb.length nx (gD _) (au _) (au _) (au _) (au _) (Int.le_refl _)
  rw [vy,cF,cF,cF,cF] at this
  rw [ej,su,if_pos h0]
  exact bJ.last this (fun h=>by cases h)
 |f+1,e,l,h0,hl,hx,hf,hs,ht=>by
  have hw:T8.i64.wrap (((f+1:Nat):Int) - 1)=(f:Int):=by rw [cD];omega
  have hk:(lI l).set (0+Sz (T8.i64.wrap (fN e.m.pc+1))*1) (.bool true)=lI (l.set (kB (fN e.m.pc)) true):=by rw [Nat.zero_add,Nat.mul_one];exact Gk _ _
  have Pr:(l.set (kB (fN e.m.pc)) true).length=16386:=by rw [Tj];exact hl
  obtain ⟨a0,a1⟩:=Eo e.m.pc
  have ho:=Ep (.box (lI l)) (np (a8 Tryz.f16 0) (a7 Tryz.f16 0)) (.box [.int .i64 ((f+1:Nat):Int)]) cb e.cx e.fr e.st (wD e.an) (ev e.tr) e.m e.en cb.length nx
  rw [yu] at ho
  obtain ⟨v,dd,hv,hS⟩:=Bo (.box (lI (l.set (kB (fN e.m.pc)) true))) (np (a8 Tryz.f16 0) (a7 Tryz.f16 0)) (.box [.int .i64 (f:Int)]) cb hb hc nx LC e hx hf hs (by omega)
  have N9:=pt cb e
  have L8:=mW cb e
  rw [ej,fM]
  have lS:(lI l).length=16386:=by rw [u9];exact hl
  cases LL:bf cb e with
  |mk e2 b=>
   rw [LL] at hS hv N9 L8
   simp only at hS hv N9 L8
   rw [← hk,← hw] at hS
   cases b with
   |true=>
    obtain ⟨t,PA,hl3⟩:=L8.tr
    have ih:=sF cb hb hc nx LC f e2 (l.set (kB (fN e.m.pc)) true) (N9.1 rfl) Pr (L8.cx.trans hx) (L8.fr.trans hf) (L8.st.trans hs) (by rw [PA,SS];omega)
    rw [mg]
    rcases hv with rfl|⟨rfl,_⟩
    ·have:=Ib (lI l) (bD cb) (bD e.cx) (bD e.fr) (bD e.st) (wD e.an) (ev e.tr) e.m ((f+1:Nat):Int) e.en cb.length nx (gD _) (au _) (au _) (au _) (au _) (fN e.m.pc) a0 a1 lS (bD e2.cx) (bD e2.fr) (bD e2.st) (wD e2.an) (ev e2.tr) e2.m e2.en dd (au _) (au _) (au _) (by omega) ho hS
     rw [hk,vy,cF,cF,cF,cF,hw] at this
     exact bJ.gz this ih
    ·have:=Ia (lI l) (bD cb) (bD e.cx) (bD e.fr) (bD e.st) (wD e.an) (ev e.tr) e.m ((f+1:Nat):Int) e.en cb.length nx (gD _) (au _) (au _) (au _) (au _) (fN e.m.pc) a0 a1 lS (bD e2.cx) (bD e2.fr) (bD e2.st) (wD e2.an) (ev e2.tr) e2.m e2.en dd (au _) (au _) (au _) (by omega) ho hS
     rw [hk,vy,cF,cF,cF,cF,hw] at this
     exact bJ.gz this ih
   |false=>
    rcases hv with rfl|⟨_,h⟩
    ·have:=Jq (lI l) (bD cb) (bD e.cx) (bD e.fr) (bD e.st) (wD e.an) (ev e.tr) e.m ((f+1:Nat):Int) e.en cb.length nx (gD _) (au _) (au _) (au _) (au _) (fN e.m.pc) a0 a1 lS (bD e2.cx) (bD e2.fr) (bD e2.st) (wD e2.an) (ev e2.tr) e2.m e2.en dd (au _) (au _) (au _) (by omega) ho hS
     rw [hk,vy,cF,cF,cF,cF,hw] at this
     simp only [su,mg]
     rw [if_neg (N9.2 rfl)]
     exact bJ.last this (fun h=>by cases h)
    ·cases h
abbrev pO:List Ob:= [.dead,.dead,.dead,.dead,.dead,.dead,.dead,.dead,.dead,.dead,.dead,.dead,.dead,.dead,.dead,.dead,.dead,.dead,.dead,.dead,.dead,.dead,.bO 0 1]
abbrev Ld (k:Int) (o:List Int) (l:List Bool):List D:= [.undef,.undef,.undef,.undef,.undef,.undef,.undef,.undef,.aj (.tok 22 0) 1 (iD o),.undef,.undef,.undef,.undef,.undef,.undef,.undef,.undef,.undef,.undef,.undef,.undef,.undef,.undef,.agg (lI l),.int .i64 k,.undef,.undef,.undef,.undef,.undef,.undef,.undef,.undef,.undef,.undef,.undef]
abbrev Kt (o:List Int):List D:= [.undef,.undef,.undef,.undef,.undef,.undef,.undef,.undef,.aj (.tok 22 0) 1 (iD o),.undef,.undef,.undef,.undef,.undef,.undef,.undef,.undef,.undef,.undef,.undef,.undef,.undef,.undef,.undef,.undef,.undef,.undef,.undef,.undef,.undef,.undef,.undef,.undef,.undef,.undef,.undef]
theorem oc (l:List Bool) (hl:l.length=16386):∀(n k:Nat) (o:List Int),n+k=16386→o.length≤k→bJ Tryz.prog (cu Tryz.f16 0) 22 (Ld (k:Int) o l) pO (.exit 2) (Kt (o++j6 k (l.drop k))) pO
 |0,k,o,hk,_=>by
  rw [List.drop_of_length_le (by omega),j6,List.append_nil]
  exact bJ.last (H7 (lI l) (iD o) k (by rw [u9];exact hl) (gD _) (by omega)) (by simp)
 |n+1,k,o,hk,ho=>by
  have LN:k<l.length:=by omega
  have hx:l[k]? =some l[k]:=by simp
  have hd:l.drop k=l[k]::l.drop (k+1):=(List.getElem_cons_drop ..).symm
  have lS:(lI l).length=16386:=by rw [u9];exact hl
  rw [hd]
  cases hb:l[k] with
  |true=>
   rw [hb] at hx
   have:=H6 (lI l) (iD o) k lS (gD _) (by omega) (by rw [Nat.mul_one];exact Ah hx) (by rw [jb];omega)
   have ih:=oc l hl n (k+1) (o++ [(k:Int) - 1]) (by omega) (by simp;omega)
   rw [iW,show T8.i64.wrap ((k:Int) - 1)=(k:Int) - 1 by rw [cD];omega,show iD o++ [D.int .i64 ((k:Int) - 1)]=iD (o++ [(k:Int) - 1]) by rw [IL];rfl] at this
   rw [List.append_assoc] at ih
   rw [j6]
   exact bJ.gz this ih
  |false=>
   rw [hb] at hx
   have:=Jp (lI l) (iD o) k lS (gD _) (by omega) (by rw [Nat.mul_one];exact Ah hx)
   rw [iW] at this
   rw [j6]
   exact bJ.gz this (oc l hl n (k+1) o (by omega) (by omega))
end Go.Proofs.YtbfpahigdpigpaaGreat
