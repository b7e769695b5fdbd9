import Derived.Test.YtbfpahigdpigpaaGreatS02
import Derived.Test.YtbfpahigdpigpaaGreatS05
import Derived.Test.YtbfpahigdpigpaaGreatS07
import Derived.Test.YtbfpahigdpigpaaGreatS10
import Derived.Test.YtbfpahigdpigpaaGreatS12
import Derived.Test.YtbfpahigdpigpaaGreatS16
open BitVec renaming ofInt→Xf
open List renaming replicate→Xg,length→Xj,getD_eq_getElem?_getD→Xr,range→Xt,length_append→Xu,length_cons→Xx,getElem?_eq_none→Xy,length_nil→XE,set→XG,getElem?_map→XH,getElem?_eq_getElem→XY,drop→Ya,length_replicate→Yj,length_set→Ym,drop_zero→Yn,mem_cons→Yx,take_of_length_le→Yy,take→Yz,map→YL
open Go.Proofs.Tryz renaming prog→Xh,f16→XO
open Int renaming toNat→Xi,not_lt→Xk,lt_add_one_of_le→Xl,fdiv→Xq,fdiv_eq_ediv_of_nonneg→Yd
open Bool renaming eq_iff_iff→Xn,and_eq_true→Xp,or_eq_true→XM,not_eq_true'→X8,not_eq_false'→Yk
open Nat renaming le_refl→XC,lt_or_ge→XL,zero_add→Yl,mul_one→YJ
open Option renaming map_eq_some_iff→XF
open Go.Value renaming int→X6
open Go renaming IntKind→YO
/- Contracts and plain laws that a statement's proof leans on (texts merged:EM18,EM19,EvZ,ECA,EC1,EC2,EC0,ECB,MdEo,ECC,ECD,EC3,XQU,MdT,MdRd,XQ1,XQ1A). -/
set_option linter.unusedVariables false
set_option linter.unusedSimpArgs false
set_option maxRecDepth 100000
set_option maxHeartbeats 8000000
namespace Go.Proofs.YtbfpahigdpigpaaGreat
open Go Go.Ev
theorem zq:aY Xh 9 ([]) (ax true):=by
 have c0:=aY.args (as':= [.bc .tight 8 [(xD 1 32 0 0 0 0 5 0),(xD 30 0 0 0 0 0 0 0)]]) (@BD) (by simp [jC,wk,cT])
 have c1:= @Hf
 have c2:= @He
 exact (aY.ai (d:= .bool true) mixed Tryz.func9 (by kernel_rfl) (([aw c0,aw c1,aw c2]++bK 13 8191)++ [tT,tT,tT,tT,tT,tT,tT,aW,tT,tT,tT,tT])).to (by first|(simp [wk];done)|(simp [wk];assumption))
theorem K2 (cb cx an:List Int) (f:Int) (h:2000<((bD cb).length:Int)) (h2:((bD cb).length:Int)≤16384):aY Xh 8 ([aZ 1 (bD cb),aZ 1 (bD cx),aZ 1 (wD an),ao f]) (ax true):=(aY.ai (d:= .bool true) mixed Tryz.func8 (by kernel_rfl) (Xg 3 (tC (eT (bJ 2000 (bg (by omega:¬(↑(Xj (bD cb)):Int)<2001)))))++ [tC (bJ 2000 (bg (by omega:¬(↑(Xj (bD cb)):Int)<2001)))]++Xg 3 (tC (eF (eB 16384 (bT (Xl h2)))))++([tC (eB 16384 (bT (Xl h2)))]++bK 8 136)++ [tF,tF,tF,tF,tT])).to (by first|(simp [wk];done)|(simp [wk];assumption))
theorem K5 (cb cx an:List Int) (f:Int) (h:20000<((bD cb).length:Int)):aY Xh 8 ([aZ 1 (bD cb),aZ 1 (bD cx),aZ 1 (wD an),ao f]) (ax true):=(aY.ai (d:= .bool true) mixed Tryz.func8 (by kernel_rfl) (Xg 3 (tC (eT (bJ 2000 (lR 2001 (bg (by omega:¬(↑(Xj (bD cb)):Int)<20001))))))++ [tC (bJ 2000 (lR 2001 (bg (by omega:¬(↑(Xj (bD cb)):Int)<20001))))]++Xg 3 (tC (eF (eB 16384 (lR 16385 (bg (by omega:¬(↑(Xj (bD cb)):Int)<20001))))))++ [tC (eB 16384 (lR 16385 (bg (by omega:¬(↑(Xj (bD cb)):Int)<20001))))]++Xg 3 (tC (eF (bJ 20000 (bg (by omega:¬(↑(Xj (bD cb)):Int)<20001)))))++ [tC (bJ 20000 (bg (by omega:¬(↑(Xj (bD cb)):Int)<20001))),tF,tF,tF,tT]++ [tF,tF,tF,tF,tT])).to (by first|(simp [wk];done)|(simp [wk];assumption))
theorem K0 (cb cx an:List Int) (f:Int) (h:((bD cb).length:Int)≤2000) (hx:400<((bD cx).length:Int)):aY Xh 8 ([aZ 1 (bD cb),aZ 1 (bD cx),aZ 1 (wD an),ao f]) (ax true):=(aY.ai (d:= .bool true) mixed Tryz.func8 (by kernel_rfl) (Xg 3 (tC (eT (bJ 2000 (bT (Xl h)))))++ [tC (bJ 2000 (bT (Xl h))),tT,tT,tT,tF]++Xg 3 (tC (eF (bJ 20000 (sG 20001 (bT (Xl h))))))++ [tC (bJ 20000 (sG 20001 (bT (Xl h))))]++Xg 3 (tC (eF (bJ 400 (bg (by omega:¬(↑(Xj (bD cx)):Int)<401)))))++ [tC (bJ 400 (bg (by omega:¬(↑(Xj (bD cx)):Int)<401)))]++ [tF,tF,tF,tF,tT])).to (by first|(simp [wk];done)|(simp [wk];assumption))
theorem K6 (cb cx an:List Int) (f:Int) (h:((bD cb).length:Int)≤2000) (hx:((bD cx).length:Int)≤400) (ha:400<((wD an).length:Int)):aY Xh 8 ([aZ 1 (bD cb),aZ 1 (bD cx),aZ 1 (wD an),ao f]) (ax true):=(aY.ai (d:= .bool true) mixed Tryz.func8 (by kernel_rfl) (Xg 3 (tC (eT (bJ 2000 (bT (Xl h)))))++ [tC (bJ 2000 (bT (Xl h))),tT,tT,tT,tF]++Xg 3 (tC (eF (bJ 20000 (sG 20001 (bT (Xl h))))))++ [tC (bJ 20000 (sG 20001 (bT (Xl h))))]++Xg 3 (tC (eF (bJ 400 (bT (Xl hx)))))++ [tC (bJ 400 (bT (Xl hx)))]++Xg 4 (tC (eF (bJ 400 (bg (by omega:¬(↑(Xj (wD an)):Int)<401)))))++ [tC (bJ 400 (bg (by omega:¬(↑(Xj (wD an)):Int)<401)))])).to (by first|(simp [wk];done)|(simp [wk];assumption))
theorem K4 (cb cx an:List Int) (f:Int) (h:((bD cb).length:Int)≤2000) (hx:((bD cx).length:Int)≤400) (ha:((wD an).length:Int)≤400) (hf:3000<f) (hg:f≤640064):aY Xh 8 ([aZ 1 (bD cb),aZ 1 (bD cx),aZ 1 (wD an),ao f]) (ax true):=(aY.ai (d:= .bool (decide (f≤640064))) mixed Tryz.func8 (by kernel_rfl) (Xg 3 (tC (eT (bJ 2000 (bT (Xl h)))))++ [tC (bJ 2000 (bT (Xl h))),tT,tT,tT,tF]++Xg 3 (tC (eF (bJ 20000 (sG 20001 (bT (Xl h))))))++ [tC (bJ 20000 (sG 20001 (bT (Xl h))))]++Xg 3 (tC (eF (bJ 400 (bT (Xl hx)))))++ [tC (bJ 400 (bT (Xl hx)))]++Xg 3 (tC (eF (bJ 400 (bT (Xl ha)))))++Xg 2 (tC (eT (bJ 3000 (bg (by omega:¬f<3001)))))++ [tC (eF (bJ 400 (bT (Xl ha)))),tC (bJ 3000 (bg (by omega:¬f<3001))),tC (bJ 400 (bT (Xl ha)))])).to (by first|(simp [wk];done)|(simp [wk];assumption))
theorem I0 (cb cx an:List Int) (f:Int) (h:((bD cb).length:Int)≤2000) (hx:((bD cx).length:Int)≤400) (ha:((wD an).length:Int)≤400) (hf:f≤3000):aY Xh 8 ([aZ 1 (bD cb),aZ 1 (bD cx),aZ 1 (wD an),ao f]) (ax false):=(aY.ai (d:= .bool false) mixed Tryz.func8 (by kernel_rfl) (Xg 3 (tC (eT (bJ 2000 (bT (Xl h)))))++ [tC (bJ 2000 (bT (Xl h))),tT,tT,tT,tF]++Xg 3 (tC (eF (bJ 20000 (sG 20001 (bT (Xl h))))))++ [tC (bJ 20000 (sG 20001 (bT (Xl h))))]++Xg 3 (tC (eF (bJ 400 (bT (Xl hx)))))++ [tC (bJ 400 (bT (Xl hx)))]++Xg 3 (tC (eF (bJ 400 (bT (Xl ha)))))++Xg 2 (tC (eT (bJ 3000 (bT (Xl hf)))))++ [tC (eF (bJ 400 (bT (Xl ha)))),tC (bJ 3000 (bT (Xl hf))),tC (bJ 400 (bT (Xl ha)))])).to (by first|(simp [wk];done)|(simp [wk];assumption))
theorem IZ (cb cx an:List Int) (f:Int) (h:((bD cb).length:Int)≤2000) (hx:((bD cx).length:Int)≤400) (ha:((wD an).length:Int)≤400) (hg:640064<f):aY Xh 8 ([aZ 1 (bD cb),aZ 1 (bD cx),aZ 1 (wD an),ao f]) (ax false):=(aY.ai (d:= .bool (decide (f≤640064))) mixed Tryz.func8 (by kernel_rfl) (Xg 3 (tC (eT (bJ 2000 (bT (Xl h)))))++ [tC (bJ 2000 (bT (Xl h))),tT,tT,tT,tF]++Xg 3 (tC (eF (bJ 20000 (sG 20001 (bT (Xl h))))))++ [tC (bJ 20000 (sG 20001 (bT (Xl h))))]++Xg 3 (tC (eF (bJ 400 (bT (Xl hx)))))++ [tC (bJ 400 (bT (Xl hx)))]++Xg 3 (tC (eF (bJ 400 (bT (Xl ha)))))++Xg 2 (tC (eT (bJ 3000 (lR 3001 (bg (by omega:¬f<640065))))))++ [tC (eF (bJ 400 (bT (Xl ha)))),tC (bJ 3000 (lR 3001 (bg (by omega:¬f<640065)))),tC (bJ 400 (bT (Xl ha)))])).to (by first|(simp [wk];done)|(simp [wk];assumption))
theorem IY (cb cx an:List Int) (f:Int) (h:16384<((bD cb).length:Int)) (h2:((bD cb).length:Int)≤20000) (hx:400<((bD cx).length:Int)):aY Xh 8 ([aZ 1 (bD cb),aZ 1 (bD cx),aZ 1 (wD an),ao f]) (ax true):=(aY.ai (d:= .bool true) mixed Tryz.func8 (by kernel_rfl) (Xg 3 (tC (eT (bJ 2000 (lR 2001 (bg (by omega:¬(↑(Xj (bD cb)):Int)<16385))))))++ [tC (bJ 2000 (lR 2001 (bg (by omega:¬(↑(Xj (bD cb)):Int)<16385))))]++Xg 3 (tC (eF (eB 16384 (bg (by omega:¬(↑(Xj (bD cb)):Int)<16385)))))++ [tC (eB 16384 (bg (by omega:¬(↑(Xj (bD cb)):Int)<16385)))]++Xg 3 (tC (eF (bJ 20000 (bT (Xl h2)))))++ [tC (bJ 20000 (bT (Xl h2)))]++Xg 3 (tC (eF (bJ 400 (bg (by omega:¬(↑(Xj (bD cx)):Int)<401)))))++ [tC (bJ 400 (bg (by omega:¬(↑(Xj (bD cx)):Int)<401)))]++ [tF,tF,tF,tF,tT])).to (by first|(simp [wk];done)|(simp [wk];assumption))
theorem I2 (cb cx an:List Int) (f:Int) (h:16384<((bD cb).length:Int)) (h2:((bD cb).length:Int)≤20000) (hx:((bD cx).length:Int)≤400) (ha:400<((wD an).length:Int)):aY Xh 8 ([aZ 1 (bD cb),aZ 1 (bD cx),aZ 1 (wD an),ao f]) (ax true):=(aY.ai (d:= .bool true) mixed Tryz.func8 (by kernel_rfl) (Xg 3 (tC (eT (bJ 2000 (lR 2001 (bg (by omega:¬(↑(Xj (bD cb)):Int)<16385))))))++ [tC (bJ 2000 (lR 2001 (bg (by omega:¬(↑(Xj (bD cb)):Int)<16385))))]++Xg 3 (tC (eF (eB 16384 (bg (by omega:¬(↑(Xj (bD cb)):Int)<16385)))))++ [tC (eB 16384 (bg (by omega:¬(↑(Xj (bD cb)):Int)<16385)))]++Xg 3 (tC (eF (bJ 20000 (bT (Xl h2)))))++ [tC (bJ 20000 (bT (Xl h2)))]++Xg 3 (tC (eF (bJ 400 (bT (Xl hx)))))++ [tC (bJ 400 (bT (Xl hx)))]++Xg 4 (tC (eF (bJ 400 (bg (by omega:¬(↑(Xj (wD an)):Int)<401)))))++ [tC (bJ 400 (bg (by omega:¬(↑(Xj (wD an)):Int)<401)))])).to (by first|(simp [wk];done)|(simp [wk];assumption))
theorem I1 (cb cx an:List Int) (f:Int) (h:16384<((bD cb).length:Int)) (h2:((bD cb).length:Int)≤20000) (hx:((bD cx).length:Int)≤400) (ha:((wD an).length:Int)≤400) (hf:3000<f) (hg:f≤640064):aY Xh 8 ([aZ 1 (bD cb),aZ 1 (bD cx),aZ 1 (wD an),ao f]) (ax true):=(aY.ai (d:= .bool (decide (f≤640064))) mixed Tryz.func8 (by kernel_rfl) (Xg 3 (tC (eT (bJ 2000 (lR 2001 (bg (by omega:¬(↑(Xj (bD cb)):Int)<16385))))))++ [tC (bJ 2000 (lR 2001 (bg (by omega:¬(↑(Xj (bD cb)):Int)<16385))))]++Xg 3 (tC (eF (eB 16384 (bg (by omega:¬(↑(Xj (bD cb)):Int)<16385)))))++ [tC (eB 16384 (bg (by omega:¬(↑(Xj (bD cb)):Int)<16385)))]++Xg 3 (tC (eF (bJ 20000 (bT (Xl h2)))))++ [tC (bJ 20000 (bT (Xl h2)))]++Xg 3 (tC (eF (bJ 400 (bT (Xl hx)))))++ [tC (bJ 400 (bT (Xl hx)))]++Xg 3 (tC (eF (bJ 400 (bT (Xl ha)))))++Xg 2 (tC (eT (bJ 3000 (bg (by omega:¬f<3001)))))++ [tC (eF (bJ 400 (bT (Xl ha)))),tC (bJ 3000 (bg (by omega:¬f<3001))),tC (bJ 400 (bT (Xl ha)))])).to (by first|(simp [wk];done)|(simp [wk];assumption))
theorem Fo (cb cx an:List Int) (f:Int) (h:16384<((bD cb).length:Int)) (h2:((bD cb).length:Int)≤20000) (hx:((bD cx).length:Int)≤400) (ha:((wD an).length:Int)≤400) (hf:f≤3000):aY Xh 8 ([aZ 1 (bD cb),aZ 1 (bD cx),aZ 1 (wD an),ao f]) (ax false):=(aY.ai (d:= .bool false) mixed Tryz.func8 (by kernel_rfl) (Xg 3 (tC (eT (bJ 2000 (lR 2001 (bg (by omega:¬(↑(Xj (bD cb)):Int)<16385))))))++ [tC (bJ 2000 (lR 2001 (bg (by omega:¬(↑(Xj (bD cb)):Int)<16385))))]++Xg 3 (tC (eF (eB 16384 (bg (by omega:¬(↑(Xj (bD cb)):Int)<16385)))))++ [tC (eB 16384 (bg (by omega:¬(↑(Xj (bD cb)):Int)<16385)))]++Xg 3 (tC (eF (bJ 20000 (bT (Xl h2)))))++ [tC (bJ 20000 (bT (Xl h2)))]++Xg 3 (tC (eF (bJ 400 (bT (Xl hx)))))++ [tC (bJ 400 (bT (Xl hx)))]++Xg 3 (tC (eF (bJ 400 (bT (Xl ha)))))++Xg 2 (tC (eT (bJ 3000 (bT (Xl hf)))))++ [tC (eF (bJ 400 (bT (Xl ha)))),tC (bJ 3000 (bT (Xl hf))),tC (bJ 400 (bT (Xl ha)))])).to (by first|(simp [wk];done)|(simp [wk];assumption))
theorem Fm (cb cx an:List Int) (f:Int) (h:16384<((bD cb).length:Int)) (h2:((bD cb).length:Int)≤20000) (hx:((bD cx).length:Int)≤400) (ha:((wD an).length:Int)≤400) (hg:640064<f):aY Xh 8 ([aZ 1 (bD cb),aZ 1 (bD cx),aZ 1 (wD an),ao f]) (ax false):=(aY.ai (d:= .bool (decide (f≤640064))) mixed Tryz.func8 (by kernel_rfl) (Xg 3 (tC (eT (bJ 2000 (lR 2001 (bg (by omega:¬(↑(Xj (bD cb)):Int)<16385))))))++ [tC (bJ 2000 (lR 2001 (bg (by omega:¬(↑(Xj (bD cb)):Int)<16385))))]++Xg 3 (tC (eF (eB 16384 (bg (by omega:¬(↑(Xj (bD cb)):Int)<16385)))))++ [tC (eB 16384 (bg (by omega:¬(↑(Xj (bD cb)):Int)<16385)))]++Xg 3 (tC (eF (bJ 20000 (bT (Xl h2)))))++ [tC (bJ 20000 (bT (Xl h2)))]++Xg 3 (tC (eF (bJ 400 (bT (Xl hx)))))++ [tC (bJ 400 (bT (Xl hx)))]++Xg 3 (tC (eF (bJ 400 (bT (Xl ha)))))++Xg 2 (tC (eT (bJ 3000 (lR 3001 (bg (by omega:¬f<640065))))))++ [tC (eF (bJ 400 (bT (Xl ha)))),tC (bJ 3000 (lR 3001 (bg (by omega:¬f<640065)))),tC (bJ 400 (bT (Xl ha)))])).to (by first|(simp [wk];done)|(simp [wk];assumption))
abbrev QE (g:Int):Int:=Int.tmod (YO.i64.wrap (Int.tmod g 1001+1001)) 1001
theorem Nf (cb cx an:List Int) (f:Int) (h:2000<((bD cb).length:Int)):∃q,aY Xh 8 [aZ 1 (bD cb),aZ 1 (bD cx),aZ 1 (wD an),ao f] (ax q):=by
 by_cases h1:((bD cb).length:Int)≤16384
 ·exact ⟨_,K2 cb cx an f h h1⟩
 by_cases h2:20000<((bD cb).length:Int)
 ·exact ⟨_,K5 cb cx an f h2⟩
 by_cases hx:400<((bD cx).length:Int)
 ·exact ⟨_,IY cb cx an f (by omega) (by omega) hx⟩
 by_cases ha:400<((wD an).length:Int)
 ·exact ⟨_,I2 cb cx an f (by omega) (by omega) (by omega) ha⟩
 by_cases hf:f≤3000
 ·exact ⟨_,Fo cb cx an f (by omega) (by omega) (by omega) (by omega) hf⟩
 by_cases hg:f≤640064
 ·exact ⟨_,I1 cb cx an f (by omega) (by omega) (by omega) (by omega) (by omega) hg⟩
 ·exact ⟨_,Fm cb cx an f (by omega) (by omega) (by omega) (by omega) (by omega)⟩
end Go.Proofs.YtbfpahigdpigpaaGreat
namespace Go.Ev
open Go Go.RowKit
def kp.rn (f:Nat→Nat):kp→kp
  | .tok t v=> .tok (f t) v
  |o=>o
mutual
def D.rn (f:Nat→Nat):D→D
  | .ptr q id off=> .ptr q (f id) off
  | .gj id=> .gj (f id)
  | .je id=> .je (f id)
  | .ez id sz n=> .ez (f id) sz n
  | .sub id off sz n c=> .sub (f id) off sz n c
  | .bc o sz xs=> .bc (o.rn f) sz xs
  | .agg cs=> .agg (D.p9 f cs)
  | .aQ cs=> .aQ (D.p9 f cs)
  | .fn g a b=> .fn g (D.p9 f a) (D.p9 f b)
  |d=>d
def D.p9 (f:Nat→Nat):List D→List D
  | []=> []
  |d::r=>d.rn f::D.p9 f r
end
theorem D.ia (f:Nat→Nat) (l:List D):D.p9 f l=l.map (D.rn f):=by
 induction l with
 |nil=>simp [D.p9]
 |cons d r ih=>simp [D.p9,ih]
def Ob.rn (f:Nat→Nat):Ob→Ob
  | .box cs=> .box (D.p9 f cs)
  | .lp k t ps ag bd=> .lp k (D.p9 f t) ps ag bd
  |o=>o
def MM.pull (M:MM) (f:Nat→Nat):MM:=⟨M.cell,fun i=>M.box (f i),fun i v=>M.cu (f i) v,M.fV⟩
theorem cz.push {M:MM} {d:D} {v:Value} (h:cz M d v) (f:Nat→Nat):∀ {M':MM},(∀b o v,M.cell b o=some v→M'.cell b o=some v)→(∀id b,M.box id=some b→M'.box (f id)=some b)→(∀t v x,M.cu t v=some x→M'.cu (f t) v=some x)→cz M' (d.rn f) v:=by
 induction h with
 |undef v=>intro _ _ _ _;rw [D.rn];exact .undef v;all_goals (intros;contradiction)
 |int k n=>intro _ _ _ _;exact .int k n
 |bool b=>intro _ _ _ _;exact .bool b
 |str s=>intro _ _ _ _;exact .str s
 |ik=>intro _ _ _ _;exact .ik
 |ptr q h=>intro _ _ hb _;exact .ptr q (hb _ _ h)
 |eV q vs hx hc hr ih=>
  intro _ c _ _
  exact .eV q vs hx (fun j x h=>c _ _ _ (hc j x h)) (fun j x h=>(hr j x h).mono ⟨c,fun _ _ y=>y,fun _ _ _ y=>y,fun _ y=>y⟩)
 |gj h=>intro _ _ hb _;exact .gj (hb _ _ h)
 |je h=>intro _ _ hb _;exact .je (hb _ _ h)
 |ez h hh hc=>intro _ _ hb hs;exact .ez (hb _ _ h) (hs _ _ _ hh) hc
 |sub h hc hp ho=>intro _ _ hb _;exact .sub (hb _ _ h) hc hp ho
 |bc b off vs hl QP ha QX hc hr QT ho ih=>
  rename_i o _ _ _ _ _
  intro _ c _ hs
  refine .bc b off vs hl QP ha QX (fun i x cs j y h1 h2 h3=>c _ _ _ (hc i x cs j y h1 h2 h3)) (fun i x cs j y h1 h2 h3=>(hr i x cs j y h1 h2 h3).mono ⟨c,fun _ _ y=>y,fun _ _ _ y=>y,fun _ y=>y⟩) QT ?_
  cases o with
  |tok t v=>exact hs _ _ _ ho
  |_=>exact ho
 |cm=>intro _ _ _ _;exact .cm
 |fn h1 h2 r1 r2 i1 i2=>
  intro _ c hb hs
  rw [D.rn,D.ia,D.ia]
  refine .fn (by simpa using h1) (by simpa using h2) ?_ ?_
  ·intro i d v a b
   rw [XH,XF] at a
   obtain ⟨d0,h0,rfl⟩:=a
   exact i1 i d0 v h0 b c hb hs
  ·intro i d v a b
   rw [XH,XF] at a
   obtain ⟨d0,h0,rfl⟩:=a
   exact i2 i d0 v h0 b c hb hs
 |agg h r ih=>
  intro _ c hb hs
  rw [D.rn,D.ia]
  refine .agg (by simpa using h) ?_
  intro i d v a b
  rw [XH,XF] at a
  obtain ⟨d0,h0,rfl⟩:=a
  exact ih i d0 v h0 b c hb hs
 |aQ h r ih=>
  intro _ c hb hs
  rw [D.rn,D.ia]
  refine .aQ (by simpa using h) ?_
  intro i d v a b
  rw [XH,XF] at a
  obtain ⟨d0,h0,rfl⟩:=a
  exact ih i d0 v h0 b c hb hs
mutual
theorem cz.pull (M:MM) (f:Nat→Nat):∀(d:D) (v:Value),cz M (d.rn f) v→cz (M.pull f) d v
  | .undef,v,_=> .undef v
  | .int k n,_,h=>by cases h;exact .int k n
  | .bool b,_,h=>by cases h;exact .bool b
  | .str s,_,h=>by cases h;exact .str s
  | .ik,_,h=>by cases h;exact .ik
  | .cm,_,h=>by cases h;exact .cm
  | .ptr q id off,_,h=>by cases h with|ptr _ h=>exact .ptr q h
  | .eV q x off,_,h=>by cases h with|eV _ vs hx hc hr=>exact .eV q vs hx hc hr
  | .gj id,_,h=>by cases h with|gj h=>exact .gj h
  | .je id,_,h=>by cases h with|je h=>exact .je h
  | .ez id sz n,_,h=>by cases h with|ez h hh hc=>exact .ez h hh hc
  | .sub id off sz n c,_,h=>by cases h with|sub h hc hp ho=>exact .sub h hc hp ho
  | .bc o sz xs,_,h=>by
    cases h with
    |bc b off vs hl QP ha QX hc hr QT ho=>
      refine .bc b off vs hl QP ha QX hc hr QT ?_
      cases o with
      |tok t v=>exact ho
      |_=>exact ho
  | .fn g a b,_,h=>by
    rw [D.rn,D.ia,D.ia] at h
    cases h with
    |fn h1 h2 r1 r2=>
      exact .fn (by simpa using h1) (by simpa using h2) (fun i d v x y=>cz.yj M f a i d v x (r1 i (d.rn f) v (by rw [XH,x];rfl) y)) (fun i d v x y=>cz.yj M f b i d v x (r2 i (d.rn f) v (by rw [XH,x];rfl) y))
  | .agg cs,_,h=>by
    rw [D.rn,D.ia] at h
    cases h with
    |agg h1 r=>exact .agg (by simpa using h1) (fun i d v x y=>cz.yj M f cs i d v x (r i (d.rn f) v (by rw [XH,x];rfl) y))
  | .aQ cs,_,h=>by
    rw [D.rn,D.ia] at h
    cases h with
    |aQ h1 r=>exact .aQ (by simpa using h1) (fun i d v x y=>cz.yj M f cs i d v x (r i (d.rn f) v (by rw [XH,x];rfl) y))
theorem cz.yj (M:MM) (f:Nat→Nat):∀(l:List D) (i:Nat) (d:D) (v:Value),l[i]? =some d→cz M (d.rn f) v→cz (M.pull f) d v
  | [],i,d,v,h,_=>by simp at h
  |x::r,0,d,v,h,k=>by
    simp at h
    subst h
    exact cz.pull M f x v k
  |x::r,i+1,d,v,h,k=>cz.yj M f r i d v (by simpa using h) k
end
theorem cN.pull {M:MM} {f:Nat→Nat} {l:List D} {vs:Array Value} (h:cN M (D.p9 f l) vs):cN (M.pull f) l vs:=by
 rw [D.ia] at h
 exact ⟨by simpa using h.1,fun i d v a b=>cz.pull M f d v (h.2 i (d.rn f) v (by rw [XH,a];rfl) b)⟩
theorem cN.push {M M':MM} {f:Nat→Nat} {l:List D} {vs:Array Value} (h:cN M l vs) (c:∀b o v,M.cell b o=some v→M'.cell b o=some v) (hb:∀id b,M.box id=some b→M'.box (f id)=some b) (hs:∀t v x,M.cu t v=some x→M'.cu (f t) v=some x):cN M' (D.p9 f l) vs:=by
 rw [D.ia]
 refine ⟨by simpa using h.1,fun i d v a b=> ?_⟩
 rw [XH,XF] at a
 obtain ⟨d0,h0,rfl⟩:=a
 exact (h.2 i d0 v h0 b).push f c hb hs
def ko (tb:List Nat) (n i:Nat):Nat:=if i<tb.length then tb.getD i 0 else n+(i - tb.length)
def oP (tb:List Nat) (n j:Nat):Option Nat:=if j<n then tb.idxOf? j else some (tb.length+(j - n))
def Ml (tb:List Nat) (n:Nat) (s:List Ob):List Ob→Nat→List Ob
  | [],_=> []
  |x::t,j=>(match tb.idxOf? j with|some i=>(s.getD i .dead).rn (ko tb n)|none=>x)::Ml tb n s t (j+1)
def Kj (tb:List Nat) (t s:List Ob):List Ob:=Ml tb t.length s t 0++(s.drop tb.length).map (Ob.rn (ko tb t.length))
theorem vk (tb:List Nat) (n:Nat) (s:List Ob):∀t j,(Ml tb n s t j).length=t.length
 | [],_=>rfl
 |_::t,j=>by rw [Ml,Xx,vk tb n s t (j+1),Xx]
theorem Cn (tb:List Nat) (n:Nat) (s:List Ob):∀t j i,i<t.length→(Ml tb n s t j)[i]? =some (match tb.idxOf? (j+i) with|some i=>(s.getD i .dead).rn (ko tb n)|none=>t.getD i .dead)
 | [],_,_,h=>by simp at h
 |x::t,j,0,_=>by rw [Ml];rfl
 |x::t,j,i+1,h=>by
  rw [Ml,List.getElem?_cons_succ,Cn tb n s t (j+1) i (by simpa using h),show j+1+i=j+(i+1) by omega]
  rfl
theorem vj (tb:List Nat) (t s:List Ob):(Kj tb t s).length=t.length+(s.length - tb.length):=by
 rw [Kj,Xu,vk,List.length_map,List.length_drop]
theorem Ho (tb:List Nat) (t s:List Ob) (j:Nat):ca (Kj tb t s) j=match oP tb t.length j with|some i=>(ca s i).rn (ko tb t.length)|none=>ca t j:=by
 unfold ca Kj oP
 rw [Xr,List.getElem?_append,vk]
 by_cases h:j<t.length
 ·rw [if_pos h,if_pos h,Cn tb _ s t 0 j h,Yl]
  rfl
 ·rw [if_neg h,if_neg h,XH,List.getElem?_drop]
  simp only [Xr]
  cases s[tb.length+(j - t.length)]? <;>rfl
theorem Mi (tb:List Nat) (n:Nat) (hd:tb.Nodup) (hb:∀x∈tb,x<n) (i:Nat):oP tb n (ko tb n i)=some i:=by
 unfold oP ko
 by_cases h:i<tb.length
 ·rw [if_pos h,Xr,XY h]
  simp only [Option.getD_some]
  rw [if_pos (hb _ (List.getElem_mem h)),List.idxOf?_eq_some_iff]
  refine ⟨h,rfl,fun j hj e=> ?_⟩
  have hp:=List.pairwise_iff_getElem.mp hd j i (by omega) h hj
  exact hp e
 ·rw [if_neg h,if_neg (by omega)]
  congr 1
  omega
theorem Ke (tb:List Nat) (n:Nat) (j i:Nat) (h:oP tb n j=some i):ko tb n i=j:=by
 unfold oP at h
 unfold ko
 split at h
 ·rw [List.idxOf?_eq_some_iff] at h
  obtain ⟨h1,h2,_⟩:=h
  rw [if_pos h1,Xr,XY h1]
  exact h2
 ·simp only [Option.some.injEq] at h
  subst h
  rw [if_neg (by omega)]
  omega
theorem Ob.Mk {f:Nat→Nat} {o:Ob} {cs:List D} (h:o.rn f= .box cs):∃c,o= .box c∧cs=D.p9 f c:=by
 cases o<;>simp [Ob.rn] at h
 exact ⟨_,rfl,h.symm⟩
theorem Ob.Mj {f:Nat→Nat} {o:Ob} {v z:Nat} (h:o.rn f= .cM v z):o= .cM v z:=by
 cases o<;>simp [Ob.rn] at h
 obtain ⟨rfl,rfl⟩:=h
 rfl
theorem Ob.Cm {f:Nat→Nat} {o:Ob} :(o.rn f).Fe=o.Fe:=by cases o<;>rfl
theorem Ob.NL {f:Nat→Nat} {o:Ob} {k:Lk} {t:List D} {ps:Array Nat} {ag bd:Code} (h:o.rn f= .lp k t ps ag bd):∃t0,o= .lp k t0 ps ag bd∧t=D.p9 f t0:=by
 cases o<;>simp [Ob.rn] at h
 obtain ⟨rfl,rfl,rfl,rfl,rfl⟩:=h
 exact ⟨_,rfl,rfl⟩
theorem ak.rn {P:Program} {g:FuncId} {args:List D} {s:List Ob} {d:D} {s':List Ob} (h:ak P g args s d s') (tb:List Nat) (t:List Ob) (hl:s.length=tb.length) (hd:tb.Nodup) (hb:∀x∈tb,x<t.length) (ht:Kj tb t s=t):
  ak P g (D.p9 (ko tb t.length) args) t (d.rn (ko tb t.length)) (Kj tb t s'):=by
 have kf:=Mi tb t.length hd hb
 have fk:=Ke tb t.length
 have Ty:=Ho tb t s'
 have VV:∀i,ca t (ko tb t.length i)=(ca s i).rn (ko tb t.length):=fun i=>by
  have:=Ho tb t s (ko tb t.length i)
  rw [ht,kf] at this
  exact this
 have Xd:∀i,tb.length≤i→ko tb t.length i=t.length+(i - tb.length):=fun i hi=>by rw [ko,if_neg (by omega)]
 have hlen:=h.len
 refine ⟨h.JV,by rw [vj];omega,fun w0 M own w vs hw hu hr=> ?_⟩
 let X1:Nat→Prop:=fun b=>w0.X b∨∃j,own b=some j∧oP tb t.length j=none∧¬M.fV b
 let w1:fg:=⟨w,M.cell,X1⟩
 have hX:∀b,X1 b→b<w.heap.size:=by
  rintro b (q|⟨j,q,_⟩)
  ·exact hw.below.Oj q
  ·exact hw.owned b j q
 have bs:∀b i,¬w0.X b→own b=some (ko tb t.length i)→¬X1 b:=by
  rintro b i q e (k|⟨j,k1,k2,_⟩)
  ·exact q k
  ·rw [e,Option.some.injEq] at k1
   rw [← k1,kf] at k2
   cases k2
 have Uo:cJ w1 (M.pull (ko tb t.length)) (fun b=>(own b).bind (oP tb t.length)) (ca s) w:=by
  have ow:∀b i,own b=some (ko tb t.length i)→(own b).bind (oP tb t.length)=some i:=fun b i e=>by rw [e];exact kf i
  refine ⟨⟨rfl,rfl,rfl,XC _,fun _ _=>rfl,hX⟩,hw.cells,fun b o v q _=>q,?_,?_,?_,?_,?_,fun b q=>⟨?_,(hw.fV b q).2⟩⟩
  ·intro b id e
   rw [Option.bind_eq_some_iff] at e
   obtain ⟨j,e1,_⟩:=e
   exact hw.owned b j e1
  ·intro id cs e
   obtain ⟨b,vs,ty,q⟩:=hw.box (ko tb t.length id) _ (by rw [VV,e];rfl)
   refine ⟨b,vs,ty,q.box,bs _ _ q.base q.own,ow _ _ q.own,q.none,q.dZ,by simpa [D.ia] using q.len,fun i d v a c=>cz.pull M _ d v (q.rep i _ v (by rw [D.ia,XH,a];rfl) c),fun sz a len cap c=>q.room sz a len cap c⟩
  ·intro id ver sz e
   obtain ⟨a,len,cap,q⟩:=hw.cM (ko tb t.length id) ver sz (by rw [VV,e];rfl)
   refine ⟨a,len,cap,q.cu,q.last,q.room.imp (fun x=>x) fun ⟨b,vs,ty,fz,ha,r⟩=>⟨b,vs,ty,fz,ha,bs _ _ r.base r.own,ow _ _ r.own,r.dZ,r.fz,r.cap,r.none⟩⟩
  ·intro id F e
   obtain ⟨b,QV,clock,q⟩:=hw.mp (ko tb t.length id) F (by rw [VV,Ob.Cm,e])
   exact ⟨b,QV,clock,q.box,bs _ _ q.base q.own,ow _ _ q.own,q.none,q.dZ,q.fits⟩
  ·intro id k tt ps ag bd e
   obtain ⟨l,r,q⟩:=hw.lp (ko tb t.length id) k _ ps ag bd (by rw [VV,e];rfl)
   exact ⟨l,r,q.box,bs _ _ q.base q.own,ow _ _ q.own,q.dZ,q.st,q.pd,q.tm.pull,q.ps,q.ag,q.bd⟩
  ·rintro (k|⟨j,_,_,k⟩)
   ·exact (hw.fV b q).1 k
   ·exact k q
 have W5:(M.pull (ko tb t.length)).upto s.length:=by
  constructor
  ·intro id hi
   exact hu.1 _ (by rw [Xd id (by omega)];omega)
  ·intro id v hi
   exact hu.2 _ v (by rw [Xd id (by omega)];omega)
 refine Calls.mono (h.run w1 _ _ w vs Uo W5 hr.pull) ?_
 rintro e w' ⟨v,M',QK,rfl,q1,q2,q3,q4⟩
 let M2:MM:=⟨M'.cell,fun j=>match oP tb t.length j with|some i=>M'.box i|none=>M.box j,fun j v=>match oP tb t.length j with|some i=>M'.cu i v|none=>M.cu j v,M'.fV⟩
 have e1:∀i,M2.box (ko tb t.length i)=M'.box i:=fun i=>by show (match oP tb t.length (ko tb t.length i) with|some i=>M'.box i|none=>_)=_;rw [kf]
 have e2:∀i v,M2.cu (ko tb t.length i) v=M'.cu i v:=fun i v=>by show (match oP tb t.length (ko tb t.length i) with|some i=>M'.cu i v|none=>_)=_;rw [kf]
 have c1:∀b o v,M'.cell b o=some v→M2.cell b o=some v:=fun _ _ _ x=>x
 have b1:∀id b,M'.box id=some b→M2.box (ko tb t.length id)=some b:=fun id b x=>by rw [e1];exact x
 have s1:∀t' v x,M'.cu t' v=some x→M2.cu (ko tb t.length t') v=some x:=fun t' v x y=>by rw [e2];exact y
 have le:M.Le M2:=by
  refine ⟨q3.cell,?_,?_,q3.fV⟩
  ·intro j b e
   show (match oP tb t.length j with|some i=>M'.box i|none=>M.box j)=some b
   cases hk:oP tb t.length j with
   |none=>exact e
   |some i=>exact q3.box i b (by show M.box (ko tb t.length i)=some b;rw [fk j i hk];exact e)
  ·intro j v x e
   show (match oP tb t.length j with|some i=>M'.cu i v|none=>M.cu j v)=some x
   cases hk:oP tb t.length j with
   |none=>exact e
   |some i=>exact q3.cu i v x (by show M.cu (ko tb t.length i) v=some x;rw [fk j i hk];exact e)
 have mk:∀b j o,own b=some j→oP tb t.length j=none→w.heap[b]? =some o→(∀z,o≠ .deferred z)→X1 b:=fun b j o e k hb hn=> .inr ⟨j,e,k,fun hm=>by
  rw [(hw.fV b hm).2] at hb
  exact hn _ (Option.some.inj hb).symm⟩
 have VL:∀b o,X1 b→w.heap[b]? =some o→w'.heap[b]? =some o:=fun b o x y=>by rw [q1.below.block b x];exact y
 have UY:∀b o,X1 b→M.cell b o=none→M2.cell b o=none:=by
  intro b o x y
  show M'.cell b o=none
  cases e:M'.cell b o with
  |none=>rfl
  |some v=>
   have:M.cell b o=some v:=q1.ng b o v e x
   rw [y] at this
   cases this
 classical
 let R3:Nat→Option Nat:=fun b=>if X1 b then own b else (QK b).map (ko tb t.length)
 have ow:∀b i,¬X1 b→QK b=some i→R3 b=some (ko tb t.length i):=fun b i x e=>by show (if X1 b then _ else _)=_;rw [if_neg x,e];rfl
 have VZ:∀b j,X1 b→own b=some j→R3 b=some j:=fun b j x e=>by show (if X1 b then _ else _)=_;rw [if_pos x];exact e
 have Vr:∀b,¬X1 b→¬w0.X b:=fun b x y=>x (.inl y)
 have inv:∀j o,ca (Kj tb t s') j=o→(∃i,ko tb t.length i=j∧(ca s' i).rn (ko tb t.length)=o)∨(oP tb t.length j=none∧ca t j=o):=by
  intro j o e
  rw [Ty] at e
  cases hk:oP tb t.length j with
  |none=>rw [hk] at e;exact .inr ⟨rfl,e⟩
  |some i=>rw [hk] at e;exact .inl ⟨i,fk j i hk,e⟩
 have n1:∀j,oP tb t.length j=none→M2.box j=M.box j:=fun j k=>by show (match oP tb t.length j with|some i=>M'.box i|none=>M.box j)=_;rw [k]
 have n2:∀j v,oP tb t.length j=none→M2.cu j v=M.cu j v:=fun j v k=>by show (match oP tb t.length j with|some i=>M'.cu i v|none=>M.cu j v)=_;rw [k]
 refine ⟨v,M2,R3,rfl,⟨?_,q1.cells,?_,?_,?_,?_,?_,?_,?_⟩,⟨?_,?_⟩,le,q4.push _ c1 b1 s1⟩
 ·exact ⟨q1.below.os.trans hw.below.os,q1.below.tape.trans hw.below.tape,q1.below.output.trans hw.below.output,Nat.le_trans hw.below.size q1.below.size,fun k hk=>(q1.below.block k (.inl hk)).trans (hw.below.block k hk),hw.below.lt⟩
 ·intro b o v k hb
  exact hw.ng b o v (q1.ng b o v k (.inl hb)) hb
 ·intro b id e
  have e:(if X1 b then own b else (QK b).map (ko tb t.length))=some id:=e
  split at e
  ·rename_i hx
   exact Nat.lt_of_lt_of_le (hX b hx) q1.below.size
  ·rw [XF] at e
   obtain ⟨i,e,_⟩:=e
   exact q1.owned b i e
 ·intro j cs e
  rcases inv j _ e with ⟨i,rfl,hi⟩|⟨hk,hj⟩
  ·obtain ⟨c,hc,rfl⟩:=Ob.Mk hi
   obtain ⟨b,vs,ty,q⟩:=q1.box i c hc
   refine ⟨b,vs,ty,b1 _ _ q.box,Vr _ q.base,ow _ _ q.base q.own,q.none,q.dZ,by simpa [D.ia] using q.len,fun k d v x y=> ?_,fun sz a len cap x=>q.room sz a len cap (by rw [← e2];exact x)⟩
   rw [D.ia,XH,XF] at x
   obtain ⟨d0,h0,rfl⟩:=x
   exact (q.rep k d0 v h0 y).push _ c1 b1 s1
  ·obtain ⟨b,vs,ty,q⟩:=hw.box j cs hj
   have x:=mk b j _ q.own hk q.dZ (fun z hz=>by cases hz)
   exact ⟨b,vs,ty,le.box _ _ q.box,q.base,VZ _ _ x q.own,fun o=>UY b o x (q.none o),VL b _ x q.dZ,q.len,fun i d v a c=>(q.rep i d v a c).mono le,fun sz a len cap c=>q.room sz a len cap (by rw [← n2 _ _ hk];exact c)⟩
 ·intro j ver sz e
  rcases inv j _ e with ⟨i,rfl,hi⟩|⟨hk,hj⟩
  ·obtain ⟨a,len,cap,q⟩:=q1.cM i ver sz (Ob.Mj hi)
   exact ⟨a,len,cap,s1 _ _ _ q.cu,fun v hv=>by rw [e2];exact q.last v hv,q.room.imp (fun x=>x) fun ⟨b,vs,ty,fz,ha,r⟩=>⟨b,vs,ty,fz,ha,Vr _ r.base,ow _ _ r.base r.own,r.dZ,r.fz,r.cap,r.none⟩⟩
  ·obtain ⟨a,len,cap,q⟩:=hw.cM j ver sz hj
   refine ⟨a,len,cap,le.cu _ _ _ q.cu,fun v hv=>by rw [n2 _ _ hk];exact q.last v hv,q.room.imp (fun x=>x) fun ⟨b,vs,ty,fz,ha,r⟩=> ?_⟩
   have x:=mk b j _ r.own hk r.dZ (fun z hz=>by cases hz)
   exact ⟨b,vs,ty,fz,ha,r.base,VZ _ _ x r.own,VL b _ x r.dZ,r.fz,r.cap,fun o ho=>UY b o x (r.none o ho)⟩
 ·intro j F e
  rcases inv j _ rfl with ⟨i,rfl,hi⟩|⟨hk,hj⟩
  ·rw [← hi,Ob.Cm] at e
   obtain ⟨b,QV,clock,q⟩:=q1.mp i F e
   exact ⟨b,QV,clock,b1 _ _ q.box,Vr _ q.base,ow _ _ q.base q.own,q.none,q.dZ,q.fits⟩
  ·rw [← hj] at e
   obtain ⟨b,QV,clock,q⟩:=hw.mp j F e
   have x:=mk b j _ q.own hk q.dZ (fun z hz=>by cases hz)
   exact ⟨b,QV,clock,le.box _ _ q.box,q.base,VZ _ _ x q.own,fun o=>UY b o x (q.none o),VL b _ x q.dZ,q.fits⟩
 ·intro j k tt ps ag bd e
  rcases inv j _ e with ⟨i,rfl,hi⟩|⟨hk,hj⟩
  ·obtain ⟨t0,h0,rfl⟩:=Ob.NL hi
   obtain ⟨l,r,q⟩:=q1.lp i k t0 ps ag bd h0
   exact ⟨l,r,b1 _ _ q.box,Vr _ q.base,ow _ _ q.base q.own,q.dZ,q.st,q.pd,q.tm.push c1 b1 s1,q.ps,q.ag,q.bd⟩
  ·obtain ⟨l,r,q⟩:=hw.lp j k tt ps ag bd hj
   have x:=mk l j _ q.own hk q.dZ (fun z hz=>by cases hz)
   exact ⟨l,r,q.aV le (VZ _ _ x q.own) (VL l _ x q.dZ)⟩
 ·intro b q
  exact ⟨Vr _ (q1.fV b q).1,(q1.fV b q).2⟩
 ·intro j hj
  rw [vj] at hj
  show (match oP tb t.length j with|some i=>M'.box i|none=>M.box j)=none
  rw [oP,if_neg (by omega)]
  exact q2.1 _ (by omega)
 ·intro j v hj
  rw [vj] at hj
  show (match oP tb t.length j with|some i=>M'.cu i v|none=>M.cu j v)=none
  rw [oP,if_neg (by omega)]
  exact q2.2 _ v (by omega)
def Pw (w:World) (m:Nat):Option Addr→List Value
  |none=> []
  |some a=>(Xt m).map fun k=>(w.cell? (a.add k)).getD undef
end Go.Ev
namespace Go.Proofs.YtbfpahigdpigpaaGreat
open Go Go.Ev
abbrev ID (a b c d nc nx:Nat):List D:= [aB 1048576,.ez a 1 nc,ax false,aB 2097152,.ez b 1 nx,ax true,aB 3145728,.ez c 1 64,ax true,aB 4194304,.ez d 1 264,ax true]
abbrev uZ (k f:Nat) (m:aG) (an tr:List D) (v:Nat) (en:Int):List D:= [aB m.q0,aB m.q1,aB m.q2,aB m.q3,aB m.q4,aB m.q5,aB m.q6,aB m.q7,aB m.q8,aB m.q9,aB m.da,aB m.dj,aB m.dq,aB m.dp,aB m.dn,aB m.dh,ax m.fk,ax m.fc,ax m.fz,ax m.fs,ax m.fo,aB m.pc,.ptr false k 0,aZ 1 an,.bc (.tok f v) 3 tr,aj en]
theorem oW (f:Nat→Nat) (l:List Int):D.p9 f (bD l)=bD l:=by
 rw [D.ia,bD,List.map_map]
 rfl
abbrev pS (o0 o5 yt:Ob) (m:aG) (cc cx fr st an tr:List D) (en:Int) (nc nx v:Nat) (dd:List Ob):List Ob:=o0::aA::aA::aA::aA::o5::au (ID 9 12 13 14 nc nx)::aA::aA::au cc::aA::aA::au cx::au fr::au st::aA::au (uZ 6 21 m an tr v en)::yt::au [.ptr false 16 0]::aA::au [.ptr false 17 0]:: .cM v 3::dd
abbrev GR:List Nat:= [1,6,7,8,9,10,11,12,13,14,15,16,2,3,4,19,21]
theorem Pf (o0 o5 yt:Ob) (m0 m:aG) (c0 x0 f0 s0 a0 t0:List D) (e0 en:Int) (n0 y0 v0 nc nx v:Nat) (cb cx fr st:List Int) (an tr:List D) (dd:List Ob):
  Kj GR (pS o0 o5 yt m0 c0 x0 f0 s0 a0 t0 e0 n0 y0 v0 []) (aA::au (iv nc nx)::aA::aA::au (bD cb)::aA::aA::au (bD cx)::au (bD fr)::au (bD st)::aA::au (uC m an tr v en)::aA::aA::aA::aA:: .cM v 3::dd)=pS o0 o5 yt m (bD cb) (bD cx) (bD fr) (bD st) an tr en nc nx v (dd.map (Ob.rn (ko GR 22))):=by
 show pS o0 o5 yt m (D.p9 (ko GR 22) (bD cb)) (D.p9 (ko GR 22) (bD cx)) (D.p9 (ko GR 22) (bD fr)) (D.p9 (ko GR 22) (bD st)) an tr en nc nx v (dd.map (Ob.rn (ko GR 22)))=_
 rw [oW,oW,oW,oW]
theorem Ds (o0 o5 yt:Ob) (cb:List Int) (hb:du cb) (hc:cb.length≤16384) (nx:Nat) (QL:nx≤256) (e:kP) (hx:e.cx.length=nx) (hf:e.fr.length=64) (hs:e.st.length=264) (ht:e.tr.length≤100000):
  ∃(v:Nat) (dd:List Ob),(v=0∨v=1∧(cO cb e).2=true)∧ak Xh 47 [.ptr false 16 0] (pS o0 o5 yt e.m (bD cb) (bD e.cx) (bD e.fr) (bD e.st) (wD e.an) (fi e.tr) e.en cb.length nx 0 []) (ax (cO cb e).2) (pS o0 o5 yt (cO cb e).1.m (bD cb) (bD (cO cb e).1.cx) (bD (cO cb e).1.fr) (bD (cO cb e).1.st) (wD (cO cb e).1.an) (fi (cO cb e).1.tr) (cO cb e).1.en cb.length nx v dd):=by
 obtain ⟨v,dd,hv,hS⟩:=xJ .dead .dead .dead .dead .dead cb hb hc nx QL e hx hf hs ht
 have h:=hS.rn GR (pS o0 o5 yt e.m (bD cb) (bD e.cx) (bD e.fr) (bD e.st) (wD e.an) (fi e.tr) e.en cb.length nx 0 []) rfl (by decide) (show ∀x∈GR,x<22 by decide) (Pf o0 o5 yt _ _ _ _ _ _ _ _ _ _ _ _ _ _ _ _ _ _ _ _ _ _ [])
 have h2:=Pf o0 o5 yt e.m (cO cb e).1.m (bD cb) (bD e.cx) (bD e.fr) (bD e.st) (wD e.an) (fi e.tr) e.en (cO cb e).1.en cb.length nx 0 cb.length nx v cb (cO cb e).1.cx (cO cb e).1.fr (cO cb e).1.st (wD (cO cb e).1.an) (fi (cO cb e).1.tr) dd
 rw [h2] at h
 exact ⟨v,_,hv,h⟩
theorem H3 (o0 o5 yt:Ob) (cb cx fr st:List Int) (an tr:List D) (m:aG) (en:Int) (nc nx:Nat):
  ak Xh 46 [.ptr false 16 0] (pS o0 o5 yt m (bD cb) (bD cx) (bD fr) (bD st) an tr en nc nx 0 []) (ao (H4 m.pc)) (pS o0 o5 yt m (bD cb) (bD cx) (bD fr) (bD st) an tr en nc nx 0 []):=by
 have h1:=Pf o0 o5 yt m m (bD cb) (bD cx) (bD fr) (bD st) an tr en en nc nx 0 nc nx 0 cb cx fr st an tr []
 have h:=(we .dead .dead .dead .dead .dead (bD cb) (bD cx) (bD fr) (bD st) an tr m en nc nx).rn GR (pS o0 o5 yt m (bD cb) (bD cx) (bD fr) (bD st) an tr en nc nx 0 []) rfl (by decide) (show ∀x∈GR,x<22 by decide) h1
 rw [h1] at h
 exact h
abbrev dM (l:List D):List D:=l.map D.bu
theorem jL (b:List Int):dM (bD b)=bD b:=dH b
abbrev oi (ga gb:Code):Ob:= .lp .ready (e8 9++ [.ptr false 0 0]++e8 26) #[18,19] ga gb
abbrev pT:List D:=([.je 5,.ptr false 18 0,cX,.ptr false 20 0]++e8 31)
abbrev kU:List D:=(e8 35)
abbrev pZ (lp:Ob) (S:List D) (left:Int) (cc cx fr st u:List D) (nc nx v:Nat) (dd:List Ob):List Ob:= .box S::aA::aA::aA::aA::lp::au (ID 9 12 13 14 nc nx)::aA::aA::au cc::aA::aA::au cx::au fr::au st::aA::au u::au [ao left]::au [.ptr false 16 0]::aA::au [.ptr false 17 0]:: .cM v 3::dd
abbrev pP (lp:Ob) (S:List D) (left:Int) (cc cx fr st u:List D) (nc nx:Nat):List (Nat×Ob):= [(0,au S),(5,lp),(6,au (ID 9 12 13 14 nc nx)),(9,au cc),(12,au cx),(13,au fr),(14,au st),(16,au u),(17,au [ao left]),(18,au [.ptr false 16 0]),(20,au [.ptr false 17 0]),(21,.cM 0 3)]
theorem MG (S cc cx fr st an tr:List D) (m:aG) (left en:Int) (nc nx:Nat) (hS:∀c∈S,c.clean=true) (Rp:∀c∈cc,c.clean=true) (Sj:∀c∈cx,c.clean=true) (RD:∀c∈fr,c.clean=true) (QT:∀c∈st,c.clean=true) (h:left≤0):aJ Xh (db Tryz.f45 0) ⟨[],[5,6,16,17,18,20,1000000,1000009,1000012,1000013,1000014],[(1016024,3)]⟩ 21 pT [au S,aA,aA,aA,aA,
 .lp .ready
  (let y:=
   let y:=
    let y:=(e8 5);
    cX::cX::cX::cX::y;
   let y:=cX::cX::cX::cX::cX::y;
   cX::cX::cX::cX::y;
  let y:=
   let y:=cX::cX::cX::cX::cX::y;
   .ptr false 0 0::cX::cX::cX::y;
  let y:=cX::cX::cX::cX::cX::y;
  cX::cX::cX::cX::y)
  #[18,19] (dg XO 0) (de XO 0),
 .box (ID 9 12 13 14 nc nx),aA,aA,au cc,aA,aA,au cx,au fr,au st,aA,au (uZ 6 21 m an tr 0 en),au [ao left],au [.ptr false 16 0],aA,au [.ptr false 17 0],.cM 0 3] (Ex.exit 0) kU ((pZ (oi (dg XO 0) (de XO 0)) (dM S) left (dM cc) (dM cx) (dM fr) (dM st) (uZ 6 21 m an tr 0 en) nc nx 0 [])):=aJ.ai mixed [tC (bJ 0 (bT (Xl h))),.cl _ hS,.cl _ Rp,.cl _ Sj,.cl _ RD,.cl _ QT] (by kernel_rfl)
theorem MF (S cc cx fr st an tr:List D) (m:aG) (left en:Int) (nc nx:Nat) (hS:∀c∈S,c.clean=true) (Rp:∀c∈cc,c.clean=true) (Sj:∀c∈cx,c.clean=true) (RD:∀c∈fr,c.clean=true) (QT:∀c∈st,c.clean=true) (at_:Int) (a0: -1≤at_) (a1:at_≤16384) (lS:S.length=16386) (Sa Sc Sd SZ SR:List D) (m2:aG) (SV:Int) (dd:List Ob) (Rr:∀c∈Sa,c.clean=true) (Rq:∀c∈Sc,c.clean=true) (Rs:∀c∈Sd,c.clean=true) (h:0<left) (ho:ak Xh 46 [.ptr false 16 0] (pZ (oi (dg XO 0) (de XO 0)) S left cc cx fr st (uZ 6 21 m an tr 0 en) nc nx 0 []) (ao at_) (pZ (oi (dg XO 0) (de XO 0)) S left cc cx fr st (uZ 6 21 m an tr 0 en) nc nx 0 [])) (hs:ak Xh 47 [.ptr false 16 0] (pZ (oi (dg XO 0) (de XO 0)) (S.set (0+Xi (YO.i64.wrap (at_+1))*1) (ax true)) (YO.i64.wrap (left - 1)) cc cx fr st (uZ 6 21 m an tr 0 en) nc nx 0 []) (ax true) (pZ (oi (dg XO 0) (de XO 0)) (S.set (0+Xi (YO.i64.wrap (at_+1))*1) (ax true)) (YO.i64.wrap (left - 1)) cc Sa Sc Sd (uZ 6 21 m2 SZ SR 0 SV) nc nx 0 dd)):aJ Xh (db Tryz.f45 0) ⟨[0,1,3],[5,6,16,17,18,20,1000000,1000009,1000012,1000013,1000014],[(1016024,3)]⟩ 21 pT [au S,aA,aA,aA,aA,
 .lp .ready
  (let y:=
   let y:=
    let y:=(e8 5);
    cX::cX::cX::cX::y;
   let y:=cX::cX::cX::cX::cX::y;
   cX::cX::cX::cX::y;
  let y:=
   let y:=cX::cX::cX::cX::cX::y;
   .ptr false 0 0::cX::cX::cX::y;
  let y:=cX::cX::cX::cX::cX::y;
  cX::cX::cX::cX::y)
  #[18,19] (dg XO 0) (de XO 0),
 .box (ID 9 12 13 14 nc nx),aA,aA,au cc,aA,aA,au cx,au fr,au st,aA,au (uZ 6 21 m an tr 0 en),au [ao left],au [.ptr false 16 0],aA,au [.ptr false 17 0],.cM 0 3] .norm pT ((pZ (oi (dg XO 0) (de XO 0)) (dM (XG S (0+Xi (YO.i64.wrap (at_+1))*1) (ax true))) (YO.i64.wrap (left - 1)) (dM cc) (dM Sa) (dM Sc) (dM Sd) (uZ 6 21 m2 SZ SR 0 SV) nc nx 0 [])):=aJ.ai mixed [tC (bJ 0 (bg (by omega:¬left<1))),.aD _ _ _ _ _ ho,.aV (pP (oi (dg XO 0) (de XO 0)) S left cc cx fr st (uZ 6 21 m an tr 0 en) nc nx),aW,.dP (decide (0≤YO.i64.wrap (at_+1)∧YO.i64.wrap (at_+1)<(↑16386:Int))) true (by ((try simp only [eZ] at*);(try unfold cV at*);omega)),.dA _ _ _ _ (@cg (S) (0+Xi (YO.i64.wrap (at_+1))*1) (ax true) (by ((try simp only [eZ] at*);(try unfold cV at*);omega))),.raw,tF,.aD _ _ _ _ _ hs,tF,.cl (S.set (0+Xi (YO.i64.wrap (at_+1))*1) (ax true)) (BC hS rfl),.cl _ Rp,.cl _ Rr,.cl _ Rq,.cl _ Rs] (by kernel_rfl)
theorem ME (S cc cx fr st an tr:List D) (m:aG) (left en:Int) (nc nx:Nat) (hS:∀c∈S,c.clean=true) (Rp:∀c∈cc,c.clean=true) (Sj:∀c∈cx,c.clean=true) (RD:∀c∈fr,c.clean=true) (QT:∀c∈st,c.clean=true) (at_:Int) (a0: -1≤at_) (a1:at_≤16384) (lS:S.length=16386) (Sa Sc Sd SZ SR:List D) (m2:aG) (SV:Int) (dd:List Ob) (Rr:∀c∈Sa,c.clean=true) (Rq:∀c∈Sc,c.clean=true) (Rs:∀c∈Sd,c.clean=true) (h:0<left) (ho:ak Xh 46 [.ptr false 16 0] (pZ (oi (dg XO 0) (de XO 0)) S left cc cx fr st (uZ 6 21 m an tr 0 en) nc nx 0 []) (ao at_) (pZ (oi (dg XO 0) (de XO 0)) S left cc cx fr st (uZ 6 21 m an tr 0 en) nc nx 0 [])) (hs:ak Xh 47 [.ptr false 16 0] (pZ (oi (dg XO 0) (de XO 0)) (S.set (0+Xi (YO.i64.wrap (at_+1))*1) (ax true)) (YO.i64.wrap (left - 1)) cc cx fr st (uZ 6 21 m an tr 0 en) nc nx 0 []) (ax true) (pZ (oi (dg XO 0) (de XO 0)) (S.set (0+Xi (YO.i64.wrap (at_+1))*1) (ax true)) (YO.i64.wrap (left - 1)) cc Sa Sc Sd (uZ 6 21 m2 SZ SR 1 SV) nc nx 1 dd)):aJ Xh (db Tryz.f45 0) ⟨[0,1,3],[5,6,16,17,18,20,1000000,1000009,1000012,1000013,1000014],[(1016024,3)]⟩ 21 pT [au S,aA,aA,aA,aA,
 .lp .ready
  (let y:=
   let y:=
    let y:=(e8 5);
    cX::cX::cX::cX::y;
   let y:=cX::cX::cX::cX::cX::y;
   cX::cX::cX::cX::y;
  let y:=
   let y:=cX::cX::cX::cX::cX::y;
   .ptr false 0 0::cX::cX::cX::y;
  let y:=cX::cX::cX::cX::cX::y;
  cX::cX::cX::cX::y)
  #[18,19] (dg XO 0) (de XO 0),
 .box (ID 9 12 13 14 nc nx),aA,aA,au cc,aA,aA,au cx,au fr,au st,aA,au (uZ 6 21 m an tr 0 en),au [ao left],au [.ptr false 16 0],aA,au [.ptr false 17 0],.cM 0 3] .norm pT ((pZ (oi (dg XO 0) (de XO 0)) (dM (XG S (0+Xi (YO.i64.wrap (at_+1))*1) (ax true))) (YO.i64.wrap (left - 1)) (dM cc) (dM Sa) (dM Sc) (dM Sd) (uZ 6 21 m2 SZ SR 0 SV) nc nx 0 [])):=aJ.ai mixed [tC (bJ 0 (bg (by omega:¬left<1))),.aD _ _ _ _ _ ho,.aV (pP (oi (dg XO 0) (de XO 0)) S left cc cx fr st (uZ 6 21 m an tr 0 en) nc nx),aW,.dP (decide (0≤YO.i64.wrap (at_+1)∧YO.i64.wrap (at_+1)<(↑16386:Int))) true (by ((try simp only [eZ] at*);(try unfold cV at*);omega)),.dA _ _ _ _ (@cg (S) (0+Xi (YO.i64.wrap (at_+1))*1) (ax true) (by ((try simp only [eZ] at*);(try unfold cV at*);omega))),.raw,tF,.aD _ _ _ _ _ hs,tF,.cl (S.set (0+Xi (YO.i64.wrap (at_+1))*1) (ax true)) (BC hS rfl),.cl _ Rp,.cl _ Rr,.cl _ Rq,.cl _ Rs] (by kernel_rfl)
theorem N0 (S cc cx fr st an tr:List D) (m:aG) (left en:Int) (nc nx:Nat) (hS:∀c∈S,c.clean=true) (Rp:∀c∈cc,c.clean=true) (Sj:∀c∈cx,c.clean=true) (RD:∀c∈fr,c.clean=true) (QT:∀c∈st,c.clean=true) (at_:Int) (a0: -1≤at_) (a1:at_≤16384) (lS:S.length=16386) (Sa Sc Sd SZ SR:List D) (m2:aG) (SV:Int) (dd:List Ob) (Rr:∀c∈Sa,c.clean=true) (Rq:∀c∈Sc,c.clean=true) (Rs:∀c∈Sd,c.clean=true) (h:0<left) (ho:ak Xh 46 [.ptr false 16 0] (pZ (oi (dg XO 0) (de XO 0)) S left cc cx fr st (uZ 6 21 m an tr 0 en) nc nx 0 []) (ao at_) (pZ (oi (dg XO 0) (de XO 0)) S left cc cx fr st (uZ 6 21 m an tr 0 en) nc nx 0 [])) (hs:ak Xh 47 [.ptr false 16 0] (pZ (oi (dg XO 0) (de XO 0)) (S.set (0+Xi (YO.i64.wrap (at_+1))*1) (ax true)) (YO.i64.wrap (left - 1)) cc cx fr st (uZ 6 21 m an tr 0 en) nc nx 0 []) (ax false) (pZ (oi (dg XO 0) (de XO 0)) (S.set (0+Xi (YO.i64.wrap (at_+1))*1) (ax true)) (YO.i64.wrap (left - 1)) cc Sa Sc Sd (uZ 6 21 m2 SZ SR 0 SV) nc nx 0 dd)):aJ Xh (db Tryz.f45 0) ⟨[],[5,6,16,17,18,20,1000000,1000009,1000012,1000013,1000014],[(1016024,3)]⟩ 21 pT [au S,aA,aA,aA,aA,
 .lp .ready
  (let y:=
   let y:=
    let y:=(e8 5);
    cX::cX::cX::cX::y;
   let y:=cX::cX::cX::cX::cX::y;
   cX::cX::cX::cX::y;
  let y:=
   let y:=cX::cX::cX::cX::cX::y;
   .ptr false 0 0::cX::cX::cX::y;
  let y:=cX::cX::cX::cX::cX::y;
  cX::cX::cX::cX::y)
  #[18,19] (dg XO 0) (de XO 0),
 .box (ID 9 12 13 14 nc nx),aA,aA,au cc,aA,aA,au cx,au fr,au st,aA,au (uZ 6 21 m an tr 0 en),au [ao left],au [.ptr false 16 0],aA,au [.ptr false 17 0],.cM 0 3] (Ex.ret) kU ((pZ (oi (dg XO 0) (de XO 0)) (dM (XG S (0+Xi (YO.i64.wrap (at_+1))*1) (ax true))) (YO.i64.wrap (left - 1)) (dM cc) (dM Sa) (dM Sc) (dM Sd) (uZ 6 21 m2 SZ SR 0 SV) nc nx 0 [])):=aJ.ai mixed [tC (bJ 0 (bg (by omega:¬left<1))),.aD _ _ _ _ _ ho,.aV (pP (oi (dg XO 0) (de XO 0)) S left cc cx fr st (uZ 6 21 m an tr 0 en) nc nx),aW,.dP (decide (0≤YO.i64.wrap (at_+1)∧YO.i64.wrap (at_+1)<(↑16386:Int))) true (by ((try simp only [eZ] at*);(try unfold cV at*);omega)),.dA _ _ _ _ (@cg (S) (0+Xi (YO.i64.wrap (at_+1))*1) (ax true) (by ((try simp only [eZ] at*);(try unfold cV at*);omega))),.raw,tF,.aD _ _ _ _ _ hs,tT,.cl (S.set (0+Xi (YO.i64.wrap (at_+1))*1) (ax true)) (BC hS rfl),.cl _ Rp,.cl _ Rr,.cl _ Rq,.cl _ Rs] (by kernel_rfl)
theorem MD (S out:List D) (k:Nat) (lS:S.length=16386) (hS:∀c∈S,c.clean=true) (hk:16386≤k):aJ Xh (db XO 0) ⟨[8],[],[(8,1)]⟩ 22 (e8 8++ [.bc (.tok 22 0) 1 out]++e8 14++ [.agg S,ao (↑k:Int)]++e8 11) [aA,aA,aA,aA,aA,aA,aA,aA,aA,aA,aA,aA,aA,aA,aA,aA,aA,aA,aA,aA,aA,aA,.cM 0 1] (.exit 2) (e8 8++ [.bc (.tok 22 0) 1 out]++e8 27) ([aA,aA,aA,aA,aA,aA,aA,aA,aA,aA,aA,aA,aA,aA,aA,aA,aA,aA,aA,aA,aA,aA,.cM 0 1]):=(aJ.ai (sp:=⟨[8],[],[(8,1)]⟩) (n0:=22) (ex:=Ex.exit (2:Nat)) (t':=(e8 8++ [.bc (.tok 22 0) 1 out]++e8 27)) (s':= [aA,aA,aA,aA,aA,aA,aA,aA,aA,aA,aA,aA,aA,aA,aA,aA,aA,aA,aA,aA,aA,aA,.cM 0 1]) mixed [tC (by ((try simp only [Xu,Xx,XE,aU,bP,cq,ck,gu,eI] at*);omega):(decide ((↑k:Int)<(16386:Int)))=false)]).cast (by first|rfl|(rw [show YO.i64.wrap ((k:Int)+1)=((k+1:Nat):Int) by rw [aU];omega])) (by first|rfl|(rw [show YO.i64.wrap ((k:Int)+1)=((k+1:Nat):Int) by rw [aU];omega]))
theorem NY (S out:List D) (k:Nat) (lS:S.length=16386) (hS:∀c∈S,c.clean=true) (hk:k<16386) (hx:S[k*1]? =some (ax false)):aJ Xh (db XO 0) ⟨[8,24,1000023],[],[(8,1)]⟩ 22 (e8 8++ [.bc (.tok 22 0) 1 out]++e8 14++ [.agg S,ao (↑k:Int)]++e8 11) [aA,aA,aA,aA,aA,aA,aA,aA,aA,aA,aA,aA,aA,aA,aA,aA,aA,aA,aA,aA,aA,aA,.cM 0 1] .norm (e8 8++ [.bc (.tok 22 0) 1 out]++e8 14++ [.agg (YL D.bu S),ao (↑(k+(1:Nat)):Int)]++e8 11) ([aA,aA,aA,aA,aA,aA,aA,aA,aA,aA,aA,aA,aA,aA,aA,aA,aA,aA,aA,aA,aA,aA,.cM 0 1]):=(aJ.ai (sp:=⟨[8,24,1000023],[],[(8,1)]⟩) (n0:=22) (ex:=Ex.norm) (t':=(e8 8++ [.bc (.tok 22 0) 1 out]++e8 14++ [.agg (YL D.bu S),ao (YO.i64.wrap ((↑k:Int)+(1:Int)))]++e8 11)) (s':= [aA,aA,aA,aA,aA,aA,aA,aA,aA,aA,aA,aA,aA,aA,aA,aA,aA,aA,aA,aA,aA,aA,.cM 0 1]) mixed [tC (by ((try simp only [Xu,Xx,XE,aU,bP,cq,ck,gu,eI] at*);omega):(decide ((↑k:Int)<(16386:Int)))=true),.dP (decide ((0:Int)≤(↑k:Int)∧(↑k:Int)<(↑(16386:Nat):Int))) true (by ((try simp only [Xu,Xx,XE,aU,bP,cq,ck,gu,eI] at*);omega)),.get _ _ _ hx,tF,.cl (S) (by exact hS)]).cast (by first|rfl|(rw [show YO.i64.wrap ((k:Int)+1)=((k+1:Nat):Int) by rw [aU];omega])) (by first|rfl|(rw [show YO.i64.wrap ((k:Int)+1)=((k+1:Nat):Int) by rw [aU];omega]))
theorem MC (S out:List D) (k:Nat) (lS:S.length=16386) (hS:∀c∈S,c.clean=true) (hk:k<16386) (hx:S[k*1]? =some (ax true)) (ho:out.length≤16386):aJ Xh (db XO 0) ⟨[8,24,1000023],[],[(8,1)]⟩ 22 (e8 8++ [.bc (.tok 22 0) 1 out]++e8 14++ [.agg S,ao (↑k:Int)]++e8 11) [aA,aA,aA,aA,aA,aA,aA,aA,aA,aA,aA,aA,aA,aA,aA,aA,aA,aA,aA,aA,aA,aA,.cM 0 1] .norm (e8 8++ [.bc (.tok 22 0) 1 (out++ [ao (YO.i64.wrap ((↑k:Int) - (1:Int)))])]++e8 14++ [.agg (YL D.bu S),ao (↑(k+(1:Nat)):Int)]++e8 11) ([aA,aA,aA,aA,aA,aA,aA,aA,aA,aA,aA,aA,aA,aA,aA,aA,aA,aA,aA,aA,aA,aA,.cM 0 1]):=(aJ.ai (sp:=⟨[8,24,1000023],[],[(8,1)]⟩) (n0:=22) (ex:=Ex.norm) (t':=(e8 8++ [.bc (.tok 22 0) 1 (out++ [ao (YO.i64.wrap ((↑k:Int) - (1:Int)))])]++e8 14++ [.agg (YL D.bu S),ao (YO.i64.wrap ((↑k:Int)+(1:Int)))]++e8 11)) (s':= [aA,aA,aA,aA,aA,aA,aA,aA,aA,aA,aA,aA,aA,aA,aA,aA,aA,aA,aA,aA,aA,aA,.cM 0 1]) mixed [tC (by ((try simp only [Xu,Xx,XE,aU,bP,cq,ck,gu,eI] at*);omega):(decide ((↑k:Int)<(16386:Int)))=true),.dP (decide ((0:Int)≤(↑k:Int)∧(↑k:Int)<(↑(16386:Nat):Int))) true (by ((try simp only [Xu,Xx,XE,aU,bP,cq,ck,gu,eI] at*);omega)),.get _ _ _ hx,tT,.len (Xj out+(1:Nat)) ((2147483648:Nat)) (by first|decide|omega|(simp;omega)),.cl (S) (by exact hS)]).cast (by first|rfl|(rw [show YO.i64.wrap ((k:Int)+1)=((k+1:Nat):Int) by rw [aU];omega])) (by first|rfl|(rw [show YO.i64.wrap ((k:Int)+1)=((k+1:Nat):Int) by rw [aU];omega]))
theorem Er (cb cx:List Int) (an:List D) (fuel:Int) (hc:bZ (bD cb)=some (bD cb)) (hx:bZ (bD cx)=some (bD cx)) (bb:(bD cb).all isByte=true) (bx:(bD cx).all isByte=true) (lc:(bD cb).length≤16384) (lx:(bD cx).length≤256) (f0:0≤fuel) (f1:fuel≤640064):ak Xh 23 ([aZ 1 (bD cb),aZ 1 (bD cx),aZ 1 an,ao fuel]) ([]) (.aQ [.ptr false 10 0,ao 0]) ([au [aB 1048576,.ez 3 1 (Xi ((bD cb).length:Int)),ax false,aB 2097152,.ez 6 1 (Xi ((bD cx).length:Int)),ax true,aB 3145728,.ez 7 1 64,ax true,aB 4194304,.ez 8 1 264,ax true],aA,aA,au (bD cb),aA,aA,au (bD cx),au (Xg 64 (fh (X6 YO.u8 0))),au (Xg 264 (fh (X6 YO.u8 0))),aA,au [aB 0,aB 0,aB 0,aB 0,aB 4194560,aB 0,aB 0,aB 0,aB 0,aB 0,aB 0,aB 0,aB 0,aB 0,aB 0,aB 0,ax false,ax false,ax false,ax false,ax false,aB 1048576,.ptr false 0 0,aZ 1 an,.bc .tight 0 [],aj 0]]):=(ak.ai (aV:= [0,3,6,7,8,10]) (d:= .aQ [.ptr false 10 0,ao 0]) (s':= [au [aB 1048576,.ez 3 1 (Xi (↑(Xj (bD cb)):Int)),ax false,aB 2097152,.ez 6 1 (Xi (↑(Xj (bD cx)):Int)),ax true,aB 3145728,.ez 7 1 64,ax true,aB 4194304,.ez 8 1 264,ax true],aA,aA,au (bD cb),aA,aA,au (bD cx),au (Xg (64:Nat) (fh (X6 YO.u8 (0:Int)))),au (Xg (264:Nat) (fh (X6 YO.u8 (0:Int)))),aA,au [aB 0,aB 0,aB 0,aB 0,aB 4194560,aB 0,aB 0,aB 0,aB 0,aB 0,aB 0,aB 0,aB 0,aB 0,aB 0,aB 0,ax false,ax false,ax false,ax false,ax false,aB 1048576,.ptr false 0 0,aZ 1 an,.bc .tight 0 [],aj 0]]) mixed ([aW,tC (eF (bJ 256 (by ((try simp only [eZ] at*);(try unfold cV at*);omega):(decide ((↑(Xj (bD cx)):Int)<(257:Int)))=true))),tC (eF (bJ 256 (by ((try simp only [eZ] at*);(try unfold cV at*);omega):(decide ((↑(Xj (bD cx)):Int)<(257:Int)))=true))),tC (eF (bJ 256 (by ((try simp only [eZ] at*);(try unfold cV at*);omega):(decide ((↑(Xj (bD cx)):Int)<(257:Int)))=true))),tC (bJ 256 (by ((try simp only [eZ] at*);(try unfold cV at*);omega):(decide ((↑(Xj (bD cx)):Int)<(257:Int)))=true)),tC (bJ 16384 (by ((try simp only [eZ] at*);(try unfold cV at*);omega):(decide ((↑(Xj (bD cb)):Int)<(16385:Int)))=true)),aW,.dP (decide ((0:Int)≤(↑(Xj (bD cb)):Int)∧(↑(Xj (bD cb)):Int)=(↑(Xj (bD cb)):Int)∧(↑(Xj (bD cb)):Int)≤(2147483648:Int))) true (by ((try simp only [eZ] at*);(try unfold cV at*);omega)),.raw,.Jt _ _ hc,tC (v:=true) (@hP (Xj (bD cb))),tC (v:=true) bb,.dA _ _ _ _ (@jP _ (Xi (↑(Xj (bD cb)):Int)) (fh (X6 YO.u8 (0:Int))) (bD cb) (by first|rfl|decide) (by first|rfl|decide)),aW,.dP (decide ((0:Int)≤(↑(Xj (bD cx)):Int)∧(↑(Xj (bD cx)):Int)=(↑(Xj (bD cx)):Int)∧(↑(Xj (bD cx)):Int)≤(2147483648:Int))) true (by ((try simp only [eZ] at*);(try unfold cV at*);omega)),.raw]++ [.Jt _ _ hx,tC (v:=true) (@hP (Xj (bD cx))),tC (v:=true) bx,.dA _ _ _ _ (@jP _ (Xi (↑(Xj (bD cx)):Int)) (fh (X6 YO.u8 (0:Int))) (bD cx) (by first|rfl|decide) (by first|rfl|decide)),tT,.raw,tT,tT,.raw,tT,tT,tF,tC (eF (bg (Xk.2 f0))),tC (eF (bg (Xk.2 f0))),tC (bg (Xk.2 f0)),tC (bJ 640064 (bT (Xl f1)))]++ [aW])).cast (by rfl) (by rfl)
theorem Co (f:Nat→Nat) (n:Nat) (k:YO) (v:Int):D.p9 f (Xg n (fh (X6 k v)))=Xg n (fh (X6 k v)):=by
 rw [D.ia,List.map_replicate]
 rfl
abbrev Qh (cb cx:List Int) (an:List D):List Ob:= [au [aB 1048576,.ez 3 1 (Xi ((bD cb).length:Int)),ax false,aB 2097152,.ez 6 1 (Xi ((bD cx).length:Int)),ax true,aB 3145728,.ez 7 1 64,ax true,aB 4194304,.ez 8 1 264,ax true],aA,aA,au (bD cb),aA,aA,au (bD cx),au (Xg 64 (fh (X6 YO.u8 0))),au (Xg 264 (fh (X6 YO.u8 0))),aA,au [aB 0,aB 0,aB 0,aB 0,aB 4194560,aB 0,aB 0,aB 0,aB 0,aB 0,aB 0,aB 0,aB 0,aB 0,aB 0,aB 0,ax false,ax false,ax false,ax false,ax false,aB 1048576,.ptr false 0 0,aZ 1 an,.bc .tight 0 [],aj 0]]
theorem tx (p0 p1 p2 p3 p4 p5:Ob) (cb cx:List Int) (an:List D) (fuel:Int) (hc:bZ (bD cb)=some (bD cb)) (hx:bZ (bD cx)=some (bD cx)) (bb:(bD cb).all isByte=true) (bx:(bD cx).all isByte=true) (lc:(bD cb).length≤16384) (lx:(bD cx).length≤256) (f0:0≤fuel) (f1:fuel≤640064):ak Xh 23 [aZ 1 (bD cb),aZ 1 (bD cx),aZ 1 an,ao fuel] [p0,p1,p2,p3,p4,p5] (.aQ [.ptr false 16 0,ao 0]) [p0,p1,p2,p3,p4,p5,au (ID 9 12 13 14 (Xi ((bD cb).length:Int)) (Xi ((bD cx).length:Int))),aA,aA,au (bD cb),aA,aA,au (bD cx),au (Xg 64 (fh (X6 YO.u8 0))),au (Xg 264 (fh (X6 YO.u8 0))),aA,au [aB 0,aB 0,aB 0,aB 0,aB 4194560,aB 0,aB 0,aB 0,aB 0,aB 0,aB 0,aB 0,aB 0,aB 0,aB 0,aB 0,ax false,ax false,ax false,ax false,ax false,aB 1048576,.ptr false 6 0,aZ 1 an,.bc .tight 0 [],aj 0]]:=by
 have h:=(Er cb cx an fuel hc hx bb bx lc lx f0 f1).rn [] [p0,p1,p2,p3,p4,p5] rfl .nil (fun _ h=>by cases h) rfl
 have e:Kj [] [p0,p1,p2,p3,p4,p5] (Qh cb cx an)= [p0,p1,p2,p3,p4,p5,au (ID 9 12 13 14 (Xi ((bD cb).length:Int)) (Xi ((bD cx).length:Int))),aA,aA,au (bD cb),aA,aA,au (bD cx),au (Xg 64 (fh (X6 YO.u8 0))),au (Xg 264 (fh (X6 YO.u8 0))),aA,au [aB 0,aB 0,aB 0,aB 0,aB 4194560,aB 0,aB 0,aB 0,aB 0,aB 0,aB 0,aB 0,aB 0,aB 0,aB 0,aB 0,ax false,ax false,ax false,ax false,ax false,aB 1048576,.ptr false 6 0,aZ 1 an,.bc .tight 0 [],aj 0]]:=(rfl:_= [p0,p1,p2,p3,p4,p5,au (ID 9 12 13 14 (Xi ((bD cb).length:Int)) (Xi ((bD cx).length:Int))),aA,aA,au (D.p9 (ko [] 6) (bD cb)),aA,aA,au (D.p9 (ko [] 6) (bD cx)),au (D.p9 (ko [] 6) (Xg 64 (fh (X6 YO.u8 0)))),au (D.p9 (ko [] 6) (Xg 264 (fh (X6 YO.u8 0)))),aA,au [aB 0,aB 0,aB 0,aB 0,aB 4194560,aB 0,aB 0,aB 0,aB 0,aB 0,aB 0,aB 0,aB 0,aB 0,aB 0,aB 0,ax false,ax false,ax false,ax false,ax false,aB 1048576,.ptr false 6 0,aZ 1 an,.bc .tight 0 [],aj 0]]).trans (by rw [oW,oW,Co,Co])
 exact h.cast rfl e
end Go.Proofs.YtbfpahigdpigpaaGreat
namespace Go.Ev
open Go
def k8 (pc:Int):Int:=if decide (YO.u64.wrap (pc - 1048576)<16385)=true then YO.i64.wrap (YO.u64.wrap (pc - 1048576)) else -1
theorem H2 (pc:Int): -1≤k8 pc∧k8 pc≤16384:=by
 unfold k8
 split
 ·rename_i h
  have h:=of_decide_eq_true h
  have h0:0≤YO.u64.wrap (pc - 1048576):=by rw [dt];omega
  generalize YO.u64.wrap (pc - 1048576)=z at*
  rw [aU];omega
 ·decide
def iD (l:List Int):List D:=l.map (.int .i64)
theorem Nb (a b:List Int):iD (a++b)=iD a++iD b:=by simp [iD]
theorem rC (a:List Int):(iD a).length=a.length:=by simp [iD]
theorem Na {l:List Int} {k:Nat} {x:Int} (h:l[k]? =some x):(iD l)[k]? =some (ao x):=by simp [iD,h]
def kq (cb:List Int):Nat→kP→List Int
  |0,_=> []
  |f+1,e=>k8 e.m.pc::(match cO cb e with
    |(e2,true)=>kq cb f e2
    |(_,false)=> [])
theorem GK (cb:List Int):∀(f:Nat) (e:kP),∀x∈kq cb f e,-1≤x∧x≤16384
 |0,_,x,h=>by simp [kq] at h
 |f+1,e,x,h=>by
  rw [kq,Yx] at h
  rcases h with rfl|h
  ·exact H2 _
  ·cases hs:cO cb e with
   |mk e2 b=>
    rw [hs] at h
    cases b with
    |true=>exact GK cb f e2 x h
    |false=>simp at h
def kB (x:Int):Nat:=Xi (YO.i64.wrap (x+1))
def m8:List Int→List Bool→List Bool
  | [],l=>l
  |x::v,l=>m8 v (l.set (kB x) true)
def mB (l:List Bool):List D:=l.map D.bool
theorem iH (l:List Bool):∀c∈mB l,c.clean=true:=by
 intro c hc
 obtain ⟨n,_,rfl⟩:=List.mem_map.1 hc
 rfl
theorem lk (l:List Bool):(mB l).map D.bu=mB l:=by
 simp only [mB,List.map_map]
 rfl
theorem J8 (l:List Bool) (i:Nat):(mB l).set i (ax true)=mB (l.set i true):=by simp [mB,List.map_set]
theorem Ch {l:List Bool} {i:Nat} {b:Bool} (h:l[i]? =some b):(mB l)[i]? =some (ax b):=by simp [mB,h]
theorem wq (l:List Bool):(mB l).length=l.length:=by simp [mB]
theorem mA:∀(v:List Int) (l:List Bool),(m8 v l).length=l.length
 | [],_=>rfl
 |x::v,l=>by rw [m8,mA v,Ym]
theorem qe:∀(v:List Int) (l:List Bool) (k:Nat),k<l.length→((m8 v l)[k]? =some true↔l[k]? =some true∨∃x∈v,kB x=k)
 | [],l,k,h=>by simp [m8]
 |x::v,l,k,h=>by
  rw [m8,qe v _ k (by simpa using h),List.getElem?_set]
  by_cases e:kB x=k
  ·rw [if_pos e,if_pos (by omega)]
   simp [e]
  ·rw [if_neg e]
   constructor
   ·rintro (q|⟨y,q,z⟩)
    ·exact .inl q
    ·exact .inr ⟨y,List.mem_cons_of_mem _ q,z⟩
   ·rintro (q|⟨y,q,z⟩)
    ·exact .inl q
    ·rcases Yx.1 q with rfl|q
     ·exact absurd z e
     ·exact .inr ⟨y,q,z⟩
def JO (v:List Int):List D:=(Xt 16386).map fun i=>D.bool (v.any fun x=>kB x==i)
theorem vg (v:List Int):mB (m8 v (Xg 16386 false))=JO v:=by
 apply List.ext_getElem?
 intro i
 unfold mB JO
 rw [XH,XH]
 rcases XL i 16386 with h|h
 ·have hl:i<(m8 v (Xg 16386 false)).length:=by rw [mA,Yj];exact h
  have hg:=qe v (Xg 16386 false) i (by rw [Yj];exact h)
  rw [List.getElem?_replicate,if_pos h,XY hl] at hg
  rw [XY hl,List.getElem?_range h]
  have e:(m8 v (Xg 16386 false))[i]=v.any fun x=>kB x==i:=by
   rw [Xn,List.any_eq_true]
   constructor
   ·intro q
    rcases hg.1 (by rw [q]) with q|⟨x,q,z⟩
    ·cases q
    ·exact ⟨x,q,by rw [z];exact beq_self_eq_true _⟩
   ·rintro ⟨x,q,z⟩
    have:=hg.2 (.inr ⟨x,q,eq_of_beq z⟩)
    exact Option.some.inj this
  rw [e]
  rfl
 ·rw [Xy (by rw [mA,Yj];exact h),Xy (by rw [List.length_range];exact h)]
  rfl
theorem Ci (v:List Int):(JO v).length=16386:=by rw [JO,List.length_map,List.length_range]
def nZ:Nat→List Bool→List Int
  |_,[]=> []
  |k,true::r=>((k:Int) - 1)::nZ (k+1) r
  |k,false::r=>nZ (k+1) r
theorem Cw (p:Int):∀(l:List Bool) (k:Nat),p∈nZ k l↔ ∃i:Nat,l[i]? =some true∧p=((k+i:Nat):Int) - 1
 | [],k=>by simp [nZ]
 |b::r,k=>by
  have ih:=Cw p r (k+1)
  have sh:(∃i:Nat,(b::r)[i]? =some true∧p=((k+i:Nat):Int) - 1)↔(b=true∧p=(k:Int) - 1)∨∃i:Nat,r[i]? =some true∧p=((k+1+i:Nat):Int) - 1:=by
   constructor
   ·rintro ⟨i,h,e⟩
    cases i with
    |zero=>exact .inl ⟨by simpa using h,by simpa using e⟩
    |succ i=>exact .inr ⟨i,by simpa using h,by rw [e];omega⟩
   ·rintro (⟨rfl,e⟩|⟨i,h,e⟩)
    ·exact ⟨0,rfl,by simpa using e⟩
    ·exact ⟨i+1,by simpa using h,by rw [e];omega⟩
  rw [sh]
  cases b with
  |true=>rw [nZ,Yx,ih];simp
  |false=>rw [nZ,ih];simp
theorem vW:∀(l:List Bool) (k:Nat),(nZ k l).length≤l.length
 | [],_=>XC _
 |true::r,k=>by rw [nZ];have:=vW r (k+1);simp;omega
 |false::r,k=>by rw [nZ];have:=vW r (k+1);simp;omega
def ln (v:List Int):List Int:=nZ 0 (m8 v (Xg 16386 false))
theorem HP {v:List Int} (hv:∀x∈v,-1≤x∧x≤16384) (p:Int):p∈ln v↔p∈v:=by
 have hk:∀x∈v,(kB x:Int)=x+1:=fun x hx=>by
  have:=hv x hx
  unfold kB
  rw [aU];omega
 rw [ln,Cw]
 constructor
 ·rintro ⟨i,h,e⟩
  have hi:i<16386:=by
   rcases XL i 16386 with q|q
   ·exact q
   ·rw [Xy (by rw [mA,Yj];exact q)] at h;cases h
  rw [qe _ _ _ (by rw [Yj];exact hi)] at h
  rcases h with h|⟨x,hx,h⟩
  ·rw [List.getElem?_replicate,if_pos hi] at h;cases h
  ·have:=hk x hx
   have:p=x:=by omega
   rw [this];exact hx
 ·intro hp
  have h1:=hv p hp
  have h2:=hk p hp
  refine ⟨kB p,?_,by omega⟩
  rw [qe _ _ _ (by rw [Yj];omega)]
  exact .inr ⟨p,hp,rfl⟩
def Qq (t:Int):List Int→List (Int×D)→List (Int×D)
  | [],es=>es
  |x::v,es=>Qq t v (m7 es x (.int .i64 t))
def Qk (m:aG):Prop:=0≤m.pc∧m.pc≤18446744073709551615
end Go.Ev
namespace Go.Proofs.YtbfpahigdpigpaaGreat
open Go Go.Ev
abbrev pX (lp:Ob) (l:List Bool) (left:Int) (cb:List Int) (nx:Nat) (e:kP):List Ob:=pS (au (mB l)) lp (au [ao left]) e.m (bD cb) (bD e.cx) (bD e.fr) (bD e.st) (wD e.an) (fi e.tr) e.en cb.length nx 0 []
theorem MP (pc:Int):H4 pc=k8 pc:=rfl
theorem wR (l:List Bool):dM (mB l)=mB l:=lk l
theorem tu (cb:List Int) (hb:du cb) (hc:cb.length≤16384) (nx:Nat) (QL:nx≤256):∀(f:Nat) (e:kP) (l:List Bool),e.en=0→l.length=16386→e.cx.length=nx→e.fr.length=64→e.st.length=264→e.tr.length+f≤100000→
  cA Xh (db Tryz.f45 0) 21 pT (pX (oi (dg XO 0) (de XO 0)) l (f:Int) cb nx e) (GA (gZ cb f e).1) kU (pX (oi (dg XO 0) (de XO 0)) (m8 (kq cb f e) l) ((gZ cb f e).2:Int) cb nx (gZ cb f e).1)
 |0,e,l,h0,hl,hx,hf,hs,ht=>by
  have:=MG (mB l) (bD cb) (bD e.cx) (bD e.fr) (bD e.st) (wD e.an) (fi e.tr) e.m ((0:Nat):Int) e.en cb.length nx (iH _) (bn _) (bn _) (bn _) (bn _) (Int.le_refl _)
  rw [wR,jL,jL,jL,jL] at this
  rw [gZ,GA,if_pos h0]
  exact cA.last this (fun h=>by cases h)
 |f+1,e,l,h0,hl,hx,hf,hs,ht=>by
  have hw:YO.i64.wrap (((f+1:Nat):Int) - 1)=(f:Int):=by rw [aU];omega
  have hk:(mB l).set (0+Xi (YO.i64.wrap (k8 e.m.pc+1))*1) (ax true)=mB (l.set (kB (k8 e.m.pc)) true):=by rw [Yl,YJ];exact J8 _ _
  have TA:(l.set (kB (k8 e.m.pc)) true).length=16386:=by rw [Ym];exact hl
  obtain ⟨a0,a1⟩:=H2 e.m.pc
  have ho:=H3 (au (mB l)) (oi (dg XO 0) (de XO 0)) (au [ao ((f+1:Nat):Int)]) cb e.cx e.fr e.st (wD e.an) (fi e.tr) e.m e.en cb.length nx
  rw [MP] at ho
  obtain ⟨v,dd,hv,hS⟩:=Ds (au (mB (l.set (kB (k8 e.m.pc)) true))) (oi (dg XO 0) (de XO 0)) (au [ao (f:Int)]) cb hb hc nx QL e hx hf hs (by omega)
  have Ua:=Ce cb e
  have RN:=uV cb e
  rw [gZ,kq]
  have lS:(mB l).length=16386:=by rw [wq];exact hl
  cases QT:cO cb e with
  |mk e2 b=>
   rw [QT] at hS hv Ua RN
   simp only at hS hv Ua RN
   rw [← hk,← hw] at hS
   cases b with
   |true=>
    obtain ⟨t,Vf,hl3⟩:=RN.tr
    have ih:=tu cb hb hc nx QL f e2 (l.set (kB (k8 e.m.pc)) true) (Ua.1 rfl) TA (RN.cx.trans hx) (RN.fr.trans hf) (RN.st.trans hs) (by rw [Vf,Xu];omega)
    rw [m8]
    rcases hv with rfl|⟨rfl,_⟩
    ·have:=MF (mB l) (bD cb) (bD e.cx) (bD e.fr) (bD e.st) (wD e.an) (fi e.tr) e.m ((f+1:Nat):Int) e.en cb.length nx (iH _) (bn _) (bn _) (bn _) (bn _) (k8 e.m.pc) a0 a1 lS (bD e2.cx) (bD e2.fr) (bD e2.st) (wD e2.an) (fi e2.tr) e2.m e2.en dd (bn _) (bn _) (bn _) (by omega) ho hS
     rw [hk,wR,jL,jL,jL,jL,hw] at this
     exact cA.ic this ih
    ·have:=ME (mB l) (bD cb) (bD e.cx) (bD e.fr) (bD e.st) (wD e.an) (fi e.tr) e.m ((f+1:Nat):Int) e.en cb.length nx (iH _) (bn _) (bn _) (bn _) (bn _) (k8 e.m.pc) a0 a1 lS (bD e2.cx) (bD e2.fr) (bD e2.st) (wD e2.an) (fi e2.tr) e2.m e2.en dd (bn _) (bn _) (bn _) (by omega) ho hS
     rw [hk,wR,jL,jL,jL,jL,hw] at this
     exact cA.ic this ih
   |false=>
    rcases hv with rfl|⟨_,h⟩
    ·have:=N0 (mB l) (bD cb) (bD e.cx) (bD e.fr) (bD e.st) (wD e.an) (fi e.tr) e.m ((f+1:Nat):Int) e.en cb.length nx (iH _) (bn _) (bn _) (bn _) (bn _) (k8 e.m.pc) a0 a1 lS (bD e2.cx) (bD e2.fr) (bD e2.st) (wD e2.an) (fi e2.tr) e2.m e2.en dd (bn _) (bn _) (bn _) (by omega) ho hS
     rw [hk,wR,jL,jL,jL,jL,hw] at this
     simp only [GA,m8]
     rw [if_neg (Ua.2 rfl)]
     exact cA.last this (fun h=>by cases h)
    ·cases h
abbrev pO:List Ob:= [aA,aA,aA,aA,aA,aA,aA,aA,aA,aA,aA,aA,aA,aA,aA,aA,aA,aA,aA,aA,aA,aA,.cM 0 1]
abbrev Qj (k:Int) (o:List Int) (l:List Bool):List D:=(e8 8++ [.bc (.tok 22 0) 1 (iD o)]++e8 14++ [.agg (mB l),ao k]++e8 11)
abbrev PQ (o:List Int):List D:=(e8 8++ [.bc (.tok 22 0) 1 (iD o)]++e8 27)
theorem oZ (l:List Bool) (hl:l.length=16386):∀(n k:Nat) (o:List Int),n+k=16386→o.length≤k→cA Xh (db XO 0) 22 (Qj (k:Int) o l) pO (.exit 2) (PQ (o++nZ k (l.drop k))) pO
 |0,k,o,hk,_=>by
  rw [List.drop_of_length_le (by omega),nZ,List.append_nil]
  exact cA.last (MD (mB l) (iD o) k (by rw [wq];exact hl) (iH _) (by omega)) (by simp)
 |n+1,k,o,hk,ho=>by
  have QQ:k<l.length:=by omega
  have hx:l[k]? =some l[k]:=by simp
  have hd:l.drop k=l[k]::l.drop (k+1):=(List.getElem_cons_drop ..).symm
  have lS:(mB l).length=16386:=by rw [wq];exact hl
  rw [hd]
  cases hb:l[k] with
  |true=>
   rw [hb] at hx
   have:=MC (mB l) (iD o) k lS (iH _) (by omega) (by rw [YJ];exact Ch hx) (by rw [rC];omega)
   have ih:=oZ l hl n (k+1) (o++ [(k:Int) - 1]) (by omega) (by simp;omega)
   rw [lk,show YO.i64.wrap ((k:Int) - 1)=(k:Int) - 1 by rw [aU];omega,show iD o++ [D.int .i64 ((k:Int) - 1)]=iD (o++ [(k:Int) - 1]) by rw [Nb];rfl] at this
   rw [List.append_assoc] at ih
   rw [nZ]
   exact cA.ic this ih
  |false=>
   rw [hb] at hx
   have:=NY (mB l) (iD o) k lS (iH _) (by omega) (by rw [YJ];exact Ch hx)
   rw [lk] at this
   rw [nZ]
   exact cA.ic this (oZ l hl n (k+1) o (by omega) (by omega))
abbrev O7 (S:List D) (lp:Ob) (cc cx:List D) (an:List D) (f:Int):List Ob:= [au S,aA,aA,aA,aA,lp,au (ID 9 12 13 14 cc.length cx.length),aA,aA,au (cc.map D.bu),aA,aA,au (cx.map D.bu),au ((Xg 64 (fh (X6 YO.u8 0))).map D.bu),au ((Xg 264 (fh (X6 YO.u8 0))).map D.bu),aA,au [aB 0,aB 0,aB 0,aB 0,aB 4194560,aB 0,aB 0,aB 0,aB 0,aB 0,aB 0,aB 0,aB 0,aB 0,aB 0,aB 0,ax false,ax false,ax false,ax false,ax false,aB 1048576,.ptr false 6 0,aZ 1 an,.bc (.tok 21 0) 3 [],aj 0],au [ao f],au [.ptr false 16 0],aA,au [.ptr false 17 0],.cM 0 3]
abbrev qX (lp:Ob) (S:List D) (left:Int) (cb:List Int) (nx:Nat) (e:kP):List Ob:=pS (au S) lp (au [ao left]) e.m (bD cb) (bD e.cx) (bD e.fr) (bD e.st) (wD e.an) (fi e.tr) e.en cb.length nx 0 []
theorem NM (n:Nat):(Xg n (fh (Value.bool false))).map D.bu=mB (Xg n false):=by
 rw [mB,List.map_replicate,List.map_replicate];rfl
theorem LR (l0:List Bool) (hl:l0.length=16386) (cb cx an:List Int) (f:Nat) (E:kP) (lf:Nat) (RP:List Int) (hb:du cb) (lc:(bD cb).length≤16384) (lx:(bD cx).length≤256) (hf:f≤100000) (hR:gZ cb f (mh cx an)=(E,lf)) (hV:kq cb f (mh cx an)=RP):
  cB Xh 21 (.loop (db Tryz.f45 0)) pT (O7 (mB l0) (oi (dg XO 0) (de XO 0)) (bD cb) (bD cx) (wD an) (f:Int)) (GA E) kU (qX (oi (dg XO 0) (de XO 0)) (mB (m8 RP l0)) (lf:Int) cb cx.length E):=by
 have:=tu cb hb (by rw [aK] at lc;exact lc) cx.length (by rw [aK] at lx;exact lx) f (mh cx an) l0 rfl hl rfl rfl rfl (by show 0+f≤100000;omega)
 rw [hR,hV] at this
 unfold O7
 rw [Kl,Kl,dH,dH,aK,aK]
 exact cB.gI (by simp) this
theorem N2 (cb cx an:List Int) (f:Nat) (E:kP) (lf:Nat) (RP:List Int) (hb:du cb) (lc:(bD cb).length≤16384) (lx:(bD cx).length≤256) (hf:f≤100000) (hR:gZ cb f (mh cx an)=(E,lf)) (hV:kq cb f (mh cx an)=RP) (he:E.en=0):
  cB Xh 21 (.loop (db Tryz.f45 0)) pT (O7 ((Xg 16386 (fh (Value.bool false))).map D.bu) (oi (dg XO 0) (de XO 0)) (bD cb) (bD cx) (wD an) (f:Int)) (.exit 0) kU (qX (oi (dg XO 0) (de XO 0)) (JO RP) (lf:Int) cb cx.length E):=by
 rw [NM]
 rw [← vg]
 have:=LR (Xg 16386 false) (Yj ..) cb cx an f E lf RP hb lc lx hf hR hV
 rw [GA,if_pos he] at this
 exact this
theorem N1 (cb cx an:List Int) (f:Nat) (E:kP) (lf:Nat) (RP:List Int) (hb:du cb) (lc:(bD cb).length≤16384) (lx:(bD cx).length≤256) (hf:f≤100000) (hR:gZ cb f (mh cx an)=(E,lf)) (hV:kq cb f (mh cx an)=RP) (he:E.en≠0):
  cB Xh 21 (.loop (db Tryz.f45 0)) pT (O7 ((Xg 16386 (fh (Value.bool false))).map D.bu) (oi (dg XO 0) (de XO 0)) (bD cb) (bD cx) (wD an) (f:Int)) .ret kU (qX (oi (dg XO 0) (de XO 0)) (JO RP) (lf:Int) cb cx.length E):=by
 rw [NM]
 rw [← vg]
 have:=LR (Xg 16386 false) (Yj ..) cb cx an f E lf RP hb lc lx hf hR hV
 rw [GA,if_neg he] at this
 exact this
theorem NZ (RP:List Int):cB Xh 22 (.loop (db XO 0)) (e8 8++ [.bc (.tok 22 0) 1 []]++e8 14++ [.agg (((JO RP).drop 0|>.take 16386).map D.bu),ao 0]++e8 11) pO (.exit 2) (PQ (ln RP)) pO:=by
 have:=oZ (m8 RP (Xg 16386 false)) (by rw [mA,Yj]) 16386 0 [] rfl (XC _)
 rw [Yn,Yy (by rw [Ci];exact XC _),← vg,lk]
 exact cB.gI (by simp) this
theorem GD (n:Nat):∀c∈Xg n (ax false),c.clean=true:=fun c h=>by rw [List.eq_of_mem_replicate h];rfl
theorem GC (v:List Int):∀c∈Yz 16386 (Ya 0 (JO v)),c.clean=true:=fun c h=>by
 rw [Yn,Yy (by rw [Ci];exact XC _),← vg] at h
 exact iH _ c h
theorem KD (cb cx an:List Int) (f:Nat) (E:kP) (lf:Nat) (RP:List Int) (f0:0≤(f:Int)) (f1:(f:Int)≤640064) (hb:du cb) (lc:(bD cb).length≤16384) (lx:(bD cx).length≤256) (hf:f≤100000) (hR:gZ cb f (mh cx an)=(E,lf)) (hV:kq cb f (mh cx an)=RP) (hc:bZ (bD cb)=some (bD cb)) (hx:bZ (bD cx)=some (bD cx)) (bb:(bD cb).all isByte=true) (bx:(bD cx).all isByte=true) (he:E.en=0):aY Xh 16 ([aZ 1 (bD cb),aZ 1 (bD cx),aZ 1 (wD an),ao (f:Int)]) (aZ 1 (iD (ln RP))):=by
 have c0:= @N2 (cb) (cx) (an) (f) _ _ _ hb lc lx hf hR hV he
 have c1:= @NZ (RP)
 exact (aY.ai (d:= .bc (.fresh 1) 1 (iD (ln RP))) mixed Tryz.func16 (by kernel_rfl) [aW,.JQ [9],.aD _ _ _ _ _ (@tx (au (Xg 16386 (ax false))) (au [aZ 1 (bD cb)]) (au [aZ 1 (bD cx)]) (au [aZ 1 (wD an)]) (au [ao (↑f:Int)]) (Ob.lp Lk.ready (e8 9++ [.ptr false 0 0]++e8 26) #[(18:Nat),(19:Nat)] (dg XO (0:Nat)) (de XO (0:Nat))) (cb) (cx) (wD an) ((↑f:Int)) hc hx bb bx lc lx f0 f1),tF,aW,aW,.head ⟨[0,1,3],[5,6,16,17,18,20,1000000,1000009,1000012,1000013,1000014],[(1016024,3)]⟩ _ _ _ _ _ _ _ c0,.cl ((Xg 16386 (ax false))) (by first|exact bn _|exact GD _|exact GC _|exact eH rfl),.cl (bD cb) (by first|exact bn _|exact GD _|exact GC _|exact eH rfl),.cl (bD cx) (by first|exact bn _|exact GD _|exact GC _|exact eH rfl),.cl (Xg (64:Nat) (fh (X6 YO.u8 (0:Int)))) (by first|exact bn _|exact GD _|exact GC _|exact eH rfl),.cl (Xg (264:Nat) (fh (X6 YO.u8 (0:Int)))) (by first|exact bn _|exact GD _|exact GC _|exact eH rfl),.head ⟨[8,24,1000023],[],[(8,1)]⟩ _ _ _ _ _ _ _ c1,.cl ((Yz 16386 (Ya 0 (JO RP)))) (by first|exact bn _|exact GD _|exact GC _|exact eH rfl)]).to (by simp [aI,cT])
theorem KC (cb cx an:List Int) (f:Nat) (E:kP) (lf:Nat) (RP:List Int) (f0:0≤(f:Int)) (f1:(f:Int)≤640064) (hb:du cb) (lc:(bD cb).length≤16384) (lx:(bD cx).length≤256) (hf:f≤100000) (hR:gZ cb f (mh cx an)=(E,lf)) (hV:kq cb f (mh cx an)=RP) (hc:bZ (bD cb)=some (bD cb)) (hx:bZ (bD cx)=some (bD cx)) (bb:(bD cb).all isByte=true) (bx:(bD cx).all isByte=true) (he:E.en≠0):aY Xh 16 ([aZ 1 (bD cb),aZ 1 (bD cx),aZ 1 (wD an),ao (f:Int)]) (aZ 1 (iD (ln RP))):=by
 have c0:= @N1 (cb) (cx) (an) (f) _ _ _ hb lc lx hf hR hV he
 have c1:= @NZ (RP)
 exact (aY.ai (d:= .bc (.fresh 1) 1 (iD (ln RP))) mixed Tryz.func16 (by kernel_rfl) [aW,.JQ [9],.aD _ _ _ _ _ (@tx (au (Xg 16386 (ax false))) (au [aZ 1 (bD cb)]) (au [aZ 1 (bD cx)]) (au [aZ 1 (wD an)]) (au [ao (↑f:Int)]) (Ob.lp Lk.ready (e8 9++ [.ptr false 0 0]++e8 26) #[(18:Nat),(19:Nat)] (dg XO (0:Nat)) (de XO (0:Nat))) (cb) (cx) (wD an) ((↑f:Int)) hc hx bb bx lc lx f0 f1),tF,aW,aW,.head ⟨[0,1,3],[5,6,16,17,18,20,1000000,1000009,1000012,1000013,1000014],[(1016024,3)]⟩ _ _ _ _ _ _ _ c0,.cl ((Xg 16386 (ax false))) (by first|exact bn _|exact GD _|exact GC _|exact eH rfl),.cl (bD cb) (by first|exact bn _|exact GD _|exact GC _|exact eH rfl),.cl (bD cx) (by first|exact bn _|exact GD _|exact GC _|exact eH rfl),.cl (Xg (64:Nat) (fh (X6 YO.u8 (0:Int)))) (by first|exact bn _|exact GD _|exact GC _|exact eH rfl),.cl (Xg (264:Nat) (fh (X6 YO.u8 (0:Int)))) (by first|exact bn _|exact GD _|exact GC _|exact eH rfl),.head ⟨[8,24,1000023],[],[(8,1)]⟩ _ _ _ _ _ _ _ c1,.cl ((Yz 16386 (Ya 0 (JO RP)))) (by first|exact bn _|exact GD _|exact GC _|exact eH rfl)]).to (by simp [aI,cT])
abbrev un (n:Nat):List D:=Xg n .undef
end Go.Proofs.YtbfpahigdpigpaaGreat
namespace Go.Ev
open Go
theorem OJ (a:Int):((Xf 64 a&&&Xf 64 255).toNat:Int)=a%256:=by have:=and_ones 64 8 (by omega) a;exact this
theorem sw (v:Int) (i:Nat):(Xf 64 v).getLsbD i=decide ((v%18446744073709551616).toNat / 2^i%2=1):=by
 rw [← BitVec.testBit_toNat,toNat_ofInt,Nat.testBit_eq_decide_div_mod_eq]
 rfl
def xI (v w:Int):Bool:=YO.u64.wrap ((Xf 64 (v.fdiv (2^(min (YO.i8.wrap (w - 1)).toNat 64)))&&&Xf 64 1).toNat:Int)==1
theorem Nx (a:Int):((Xf 64 a&&&Xf 64 1).toNat:Int)=a%2:=by have:=and_ones 64 1 (by omega) a;exact this
theorem Ca (v:Int):xI v 32=(Xf 64 v).getLsbD 31:=by
 have e:xI v 32=(YO.u64.wrap ((Xf 64 (v.fdiv 2147483648)&&&Xf 64 1).toNat:Int)==1):=rfl
 rw [e,Nx,dt,Yd _ (by decide),sw,Xn,ck,bP]
 omega
theorem B9 {w v:Int} (hw:aE w=true):xI (bo v w) w=xI v w:=by
 rcases jo hw with rfl|rfl
 ·rw [Ca,Ca,sw,sw,show bo v 32=v%4294967296 from rfl,decide_eq_decide]
  omega
 ·rfl
theorem G5 {v:Int} (h:xI (bo v 32) 32=true):YO.u64.wrap (bo v 32 - 4294967296)=fF v 32:=by
 rw [show fF v 32=YO.u64.wrap (YO.i32.wrap v) from rfl]
 rw [B9 rfl,Ca,sw,bP] at h
 rw [show bo v 32=v%4294967296 from rfl,dt,dt,nM]
 omega
theorem G6 {v:Int} (h:xI (bo v 32) 32=false):bo v 32=fF v 32:=by
 rw [show fF v 32=YO.u64.wrap (YO.i32.wrap v) from rfl]
 rw [B9 rfl,Ca,sw,cq] at h
 rw [show bo v 32=v%4294967296 from rfl,dt,nM]
 omega
theorem ti {v:Int} (h:YO.u64.wrap ((Xf 64 ((bo v 32).fdiv 2147483648)&&&Xf 64 1).toNat:Int)=1):YO.u64.wrap (bo v 32 - 4294967296)=fF v 32:=by
 refine G5 ?_
 have e:xI (bo v 32) 32=(YO.u64.wrap ((Xf 64 ((bo v 32).fdiv 2147483648)&&&Xf 64 1).toNat:Int)==1):=rfl
 rw [e,h]
 rfl
theorem tj {v:Int} (h:¬YO.u64.wrap ((Xf 64 ((bo v 32).fdiv 2147483648)&&&Xf 64 1).toNat:Int)=1):bo v 32=fF v 32:=by
 refine G6 ?_
 have e:xI (bo v 32) 32=(YO.u64.wrap ((Xf 64 ((bo v 32).fdiv 2147483648)&&&Xf 64 1).toNat:Int)==1):=rfl
 rw [e]
 exact beq_eq_false_iff_ne.mpr h
def aO (b:List Int) (at_:Nat):Int:=b.getD at_ 0
def aP (b:List Int) (at_:Nat):Nat:=if at_<b.length then at_+1 else at_
def cC (b:List Int) (at_:Nat) (bad:Bool):Bool:=bad||decide (b.length≤at_)
theorem jm {b:List Int} {at_:Nat} (h:at_≤b.length):aP b at_≤b.length:=by unfold aP;split<;>omega
theorem xL {v:Int} (h:YO.u64.wrap ((Xf 64 ((bo v 8).fdiv 128)&&&Xf 64 1).toNat:Int)=1):YO.u64.wrap (bo v 8 - 256)=fF v 8:=by
 rw [show fF v 8=YO.u64.wrap (YO.i8.wrap v) from rfl]
 rw [Nx,dt,Yd _ (by decide),show bo v 8=v%256 from rfl] at h
 rw [show bo v 8=v%256 from rfl,dt,dt,dJ]
 omega
theorem xM {v:Int} (h:¬YO.u64.wrap ((Xf 64 ((bo v 8).fdiv 128)&&&Xf 64 1).toNat:Int)=1):bo v 8=fF v 8:=by
 rw [show fF v 8=YO.u64.wrap (YO.i8.wrap v) from rfl]
 rw [Nx,dt,Yd _ (by decide),show bo v 8=v%256 from rfl] at h
 rw [show bo v 8=v%256 from rfl,dt,dJ]
 omega
def eJ (b:List Int) (k:Nat):Int:=YO.i32.wrap (aO b k+256*aO b (aP b k)+65536*aO b (aP b (aP b k))+16777216*aO b (aP b (aP b (aP b k))))
def x8 (b:List Int) (k:Nat):Int:=YO.i8.wrap (aO b k)
def dG (b:List Int) (k:Nat):Nat:=aP b (aP b (aP b (aP b k)))
def dL (b:List Int) (k:Nat) (bad:Bool):Bool:=cC b (aP b (aP b (aP b k))) (cC b (aP b (aP b k)) (cC b (aP b k) (cC b k bad)))
def dz (n rr:Int):Int:=YO.i8.wrap (YO.i8.wrap (YO.i64.wrap ((Xf 64 (n.fdiv 8)&&&Xf 64 7).toNat:Int))+YO.i8.wrap (8*rr))
def dw (n mm:Int):Int:=YO.i8.wrap (YO.i8.wrap (YO.i64.wrap ((Xf 64 n&&&Xf 64 7).toNat:Int))+YO.i8.wrap (8*mm))
theorem xg (a:Int):((Xf 64 a&&&Xf 64 7).toNat:Int)=a%8:=by have:=and_ones 64 3 (by omega) a;exact this
theorem Kr {n rr:Int} (hn:0≤n∧n≤255) (hr:0≤rr∧rr≤1):dz n rr=n / 8%8+8*rr:=by
 unfold dz
 rw [xg,Yd _ (by decide),aU,dJ,dJ,dJ]
 omega
theorem Kq {n mm:Int} (hn:0≤n∧n≤255) (hr:0≤mm∧mm≤1):dw n mm=n%8+8*mm:=by
 unfold dw
 rw [xg,aU,dJ,dJ,dJ]
 omega
def gD (b:List Int) (k:Nat) (bad:Bool):Bool:=cC b k bad||decide (aO b k<192)
def dW (b:List Int) (k:Nat):Nat:=if aO b k%8=4 then aP b (aP b k) else aP b k
def jO (b:List Int) (k:Nat) (bad:Bool):Bool:=
  let b1:=cC b k bad||decide (aO b k<128)||decide (192≤aO b k)
  if aO b k%8=4 then cC b (aP b k) b1||decide (aO b (aP b k)≠36) else b1
def Ct (n:Int):Bool:=decide (n / 16%16=4)
def sT (b:List Int) (k:Nat):Nat:=if aO b k=102 then aP b k else k
def vV (b:List Int) (k:Nat) (bad:Bool):Bool:=if aO b k=102 then cC b k bad else bad
def HN (b:List Int) (k:Nat):Bool:=Ct (aO b (sT b k))
def Gz (b:List Int) (k:Nat):Int:=if HN b k then aO b (aP b (sT b k)) else aO b (sT b k)
def Cv (b:List Int) (k:Nat):Nat:=if HN b k then aP b (aP b (sT b k)) else aP b (sT b k)
def KB (b:List Int) (k:Nat) (bad:Bool):Bool:=
  if HN b k then cC b (aP b (sT b k)) (cC b (sT b k) (vV b k bad)||decide (aO b (sT b k) / 2%2=1)) else cC b (sT b k) (vV b k bad)
def ku (b:List Int) (k:Nat):Bool:=HN b k&&decide (aO b (sT b k) / 8%2=1)
def HM (b:List Int) (k:Nat):Int:=if HN b k then aO b (sT b k) / 4%2 else 0
def HO (b:List Int) (k:Nat):Int:=if HN b k then aO b (sT b k)%2 else 0
theorem Jv:∀n:Fin 256,(YO.i64.wrap ((Xf 64 (n.val:Int)&&&Xf 64 240).toNat:Int)=64↔(n.val:Int) / 16%16=4)∧((YO.i64.wrap ((Xf 64 (n.val:Int)&&&Xf 64 8).toNat:Int) !=0)=decide ((n.val:Int) / 8%2=1))∧((YO.i64.wrap ((Xf 64 (n.val:Int)&&&Xf 64 2).toNat:Int) !=0)=decide ((n.val:Int) / 2%2=1))∧YO.i8.wrap (YO.i64.wrap ((Xf 64 (Xq (n.val:Int) 4)&&&Xf 64 1).toNat:Int))=(n.val:Int) / 4%2∧YO.i8.wrap (YO.i64.wrap ((Xf 64 (n.val:Int)&&&Xf 64 1).toNat:Int))=(n.val:Int)%2:=by decide+kernel
theorem uk {n:Int} (h:0≤n∧n≤255):(YO.i64.wrap ((Xf 64 n&&&Xf 64 240).toNat:Int)=64↔n / 16%16=4)∧((YO.i64.wrap ((Xf 64 n&&&Xf 64 8).toNat:Int) !=0)=decide (n / 8%2=1))∧((YO.i64.wrap ((Xf 64 n&&&Xf 64 2).toNat:Int) !=0)=decide (n / 2%2=1))∧YO.i8.wrap (YO.i64.wrap ((Xf 64 (Xq n 4)&&&Xf 64 1).toNat:Int))=n / 4%2∧YO.i8.wrap (YO.i64.wrap ((Xf 64 n&&&Xf 64 1).toNat:Int))=n%2:=by
 have:=Jv ⟨n.toNat,by omega⟩
 have e:((n.toNat:Nat):Int)=n:=by omega
 simp only [e] at this
 exact this
def xp (op:Int):Int:=if op=0∨(2≤op∧op≤8) then bq op else bW op
def IW (base op:Int):Bool:=if base=129 then decide (bz op=2∧op≠15∧op≠1) else if base=193 then decide (bz op=3) else if base=211 then decide (bz op=4∧op≠23∧op≠24) else decide (op=23∨op=24∨op=15)
def lB (base n op:Int):Bool:=IW base op&&decide (xp op=n)
def kg (base n:Int):Int:=(gR.find? (lB base n)).getD (-1)
end Go.Ev
namespace Go.Proofs.YtbfpahigdpigpaaGreat
open Go Go.Ev
theorem HL (X0 X2:List D) (b:List Int) (k:Nat) (bad w:Bool) (rr mm:Int) (l1:((bD b).length:Int)≤1000) (h:(k:Int)<((bD b).length:Int)) (v:Int) (hv:(bD b)[Xi (YO.i64.wrap (YO.i64.wrap ((k:Int)+1) - 1))]? =some (av v)):ak Xh 38 ([.ptr false 1 0]) ([au X0,au [aZ 1 (bD b),ao ((k:Int)),ax bad,ax w,aj rr,aj mm],au X2]) (ao (YO.i64.wrap v)) ([au X0,au [aZ 1 (bD b),ao (YO.i64.wrap ((k:Int)+1)),ax bad,ax w,aj rr,aj mm],au X2]):=(ak.ai (aV:= [0,1,2]) (d:= .int .i64 (YO.wrap YO.i64 v)) (s':= [au X0,au [aZ 1 (bD b),ao (YO.i64.wrap ((↑k:Int)+(1:Int))),ax bad,ax w,aj rr,aj mm],au X2]) mixed [tC (by ((try simp only [aK,dJ,bF,aU,dt,bP,cq,ck,gu,eI,bne_eq_false_iff_eq,X8,Yk,Xp,XM] at*);(try unfold cV at*);omega):(decide ((↑k:Int)≥(↑(Xj (bD b)):Int)))=false),.dP (decide ((0:Int)≤YO.i64.wrap (YO.i64.wrap ((↑k:Int)+(1:Int)) - (1:Int)))) true (by ((try simp only [aK,dJ,bF,aU,dt,bP,cq,ck,gu,eI,bne_eq_false_iff_eq,X8,Yk,Xp,XM] at*);(try unfold cV at*);omega)),.get _ _ _ hv]).cast (by rfl) (by rfl)
theorem D1 (X0 X2:List D) (b:List Int) (k:Nat) (bad w:Bool) (rr mm:Int) (l1:((bD b).length:Int)≤1000) (h:((bD b).length:Int)≤(k:Int)):ak Xh 38 ([.ptr false 1 0]) ([au X0,au [aZ 1 (bD b),ao ((k:Int)),ax bad,ax w,aj rr,aj mm],au X2]) (ao 0) ([au X0,au [aZ 1 (bD b),ao ((k:Int)),ax true,ax w,aj rr,aj mm],au X2]):=(ak.ai (aV:= [0,1,2]) (d:= .int .i64 0) (s':= [au X0,au [aZ 1 (bD b),ao (↑k:Int),ax true,ax w,aj rr,aj mm],au X2]) mixed [tC (by ((try simp only [aK,dJ,bF,aU,dt,bP,cq,ck,gu,eI,bne_eq_false_iff_eq,X8,Yk,Xp,XM] at*);(try unfold cV at*);omega):(decide ((↑k:Int)≥(↑(Xj (bD b)):Int)))=true)]).cast (by rfl) (by rfl)
abbrev zW (X0 X2:List D) (b:List Int) (k:Nat) (bad w:Bool) (rr mm:Int):List Ob:= [au X0,au [aZ 1 (bD b),ao (k:Int),ax bad,ax w,aj rr,aj mm],au X2]
theorem dT {b:List Int} (hb:du b) (k:Nat):0≤aO b k∧aO b k≤255:=by
 unfold aO
 rw [Xr]
 cases e:b[k]? with
 |none=>simp
 |some v=>simpa using hb v (List.mem_of_getElem? e)
theorem bL (X0 X2:List D) (b:List Int) (hb:du b) (hl:b.length≤1000) (k:Nat) (bad w:Bool) (rr mm:Int):ak Xh 38 [.ptr false 1 0] (zW X0 X2 b k bad w rr mm) (ao (aO b k)) (zW X0 X2 b (aP b k) (cC b k bad) w rr mm):=by
 have l1:((bD b).length:Int)≤1000:=by rw [aK];omega
 by_cases h:k<b.length
 ·have hw:YO.i64.wrap ((k:Int)+1)=((k+1:Nat):Int):=by rw [aU];omega
  have St:YO.i64.wrap (YO.i64.wrap ((k:Int)+1) - 1)=(k:Int):=by rw [hw,aU];omega
  have hv:(bD b)[Xi (YO.i64.wrap (YO.i64.wrap ((k:Int)+1) - 1))]? =some (av (aO b k)):=by
   rw [St,Int.toNat_natCast]
   unfold aO bD
   simp [h,Xr]
  have:=HL X0 X2 b k bad w rr mm l1 (by rw [aK];omega) (aO b k) hv
  have hr:=dT hb k
  have e:YO.i64.wrap (aO b k)=aO b k:=by rw [aU];omega
  have e1:aP b k=k+1:=by unfold aP;rw [if_pos h]
  have e2:cC b k bad=bad:=by unfold cC;rw [bg (by omega),Bool.or_false]
  rw [hw,e] at this
  rw [e1,e2]
  exact this
 ·have:=D1 X0 X2 b k bad w rr mm l1 (by rw [aK];omega)
  have e0:aO b k=0:=by unfold aO;rw [Xr,Xy (by omega)];rfl
  have e1:aP b k=k:=by unfold aP;rw [if_neg h]
  have e2:cC b k bad=true:=by unfold cC;rw [bT (by omega),Bool.or_true]
  rw [e0,e1,e2]
  exact this
end Go.Proofs.YtbfpahigdpigpaaGreat
