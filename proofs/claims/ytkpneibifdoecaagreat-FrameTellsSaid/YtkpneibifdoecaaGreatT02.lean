import Derived.Laws.Cells
import Derived.Laws.Entries
import Derived.ChangeKeysEq
import Derived.Laws.BytesString
import Derived.Laws.MakeOwn
import Derived.WideLaws
import Derived.MapKept
import Derived.Laws.AppendOwn
import Derived.RangeFuncRecord
import Derived.Test.YtkpneibifdoecaaGreatT01
open List renaming replicate→Vt,length_append→Vu,length_set→Vv,length_cons→Vx,length_nil→Vy,getD_eq_getElem?_getD→VJ,getElem?_eq_none→VO,getElem?_map→VW,all_eq_true→V3,mem_of_getElem? →V5,append_nil→Wd,getElem?_cons_succ→Wp,getElem?_cons_zero→Wt,getElem?_append→Wz,drop_zero→WH,getElem?_set_ne→WJ,getElem?_take→WX
open Option.some renaming inj→VA,injEq→VI
open Nat renaming le_refl→VF,lt_or_ge→VS,beq_eq→VZ,zero_add→V9,mul_le_mul_right→Wo,blt→Wx,ble_eq→Wy,blt_eq→WC,add_mul→WD,le_trans→WG,add_zero→WV
open Bool renaming and_eq_true→VG,false_eq_true→Wj
open Go.Result renaming andThen_ok→VN
open Go.Op renaming operands→VQ
open Option renaming map_eq_some_iff→VU,getD_some→Wk,map_some→WK
open Go.Sem renaming run_bind→VV,run_pure→V1
open Array renaming getElem?_toList→VX,getD_eq_getD_getElem? →V6,getElem?_eq_none→Wb,getElem?_append_left→We,length_toList→Wg,getElem?_setIfInBounds_ne→Wm,size_append→WA,eq_empty_of_size_eq_zero→WN,toList_modify→WQ
open Go.Instr renaming sliceBounds→Wa,findKey→Wv,sameBits→WU
open Go.Builtin renaming firstCells→Wc,append_→Wf,zeroCells→WR
open Go.World renaming cell? →WE
open Go.MapKept renaming run_setObj_map→WM
open Go.Call renaming operands→W1
open Go renaming IntKind→W3
/- Contracts and plain laws that a statement's proof leans on (texts merged:EvK). -/
set_option linter.unusedVariables false
set_option linter.unusedSimpArgs false
namespace Go.Ev
open Go Go.RowKit
section
variable {P:Program} {w:World}
theorem BD {t:TypeId} (h:known P t=true):∃i,P.info? t=some i:=by
 unfold known at h;exact Option.isSome_iff_exists.1 h
theorem cj {t:TypeId} (h:known P t=true) (w:World):(sizeOf t).run P w= .ok (P.cellsOf t) w:=by
 obtain ⟨i,hi⟩:=BD h
 simp [sizeOf,typeInfo,hi,Program.cellsOf]
theorem ig {t:TypeId} {d:TypeDesc} (h:P.underlying t=some d):known P t=true:=by
 unfold known
 unfold Program.underlying at h
 cases e:P.info? t with
 |none=>simp [e] at h
 |some i=>rfl
theorem jL {t:TypeId} {d:TypeDesc} (h:P.underlying t=some d) (w:World):(isAgg t).run P w= .ok (cC d) w:=by
 cases d<;>simp [isAgg,run_underlying h,cC]
theorem dg {t:TypeId} {i:TypeInfo} {v:Value} (hi:P.info? t=some i) (hz:i.zero=some v) (w:World):(zeroValue t).run P w= .ok v w:=by
 simp [zeroValue,typeInfo,hi,hz]
theorem dK (b off n:Nat):(Addr.mk b off none).add n=⟨b,off+n,none⟩:=by
 unfold Addr.add
 split
 ·rename_i h;subst h;simp
 ·rfl
theorem fE (b off:Nat) (vs:Array Value) (h:∀j v,vs[j]? =some v→w.cell? ⟨b,off+j,none⟩=some v):
  (loadCells ⟨b,off,none⟩ vs.size).run P w= .ok vs w:=by
 have:=run_loadCells_list (P:=P) (w:=w) ⟨b,off,none⟩ vs.toList (fun j v hj=>by rw [dK];exact h j v (by simpa using hj))
 simpa using this
def cM (vs:Array Value) (off:Nat):List Value→Array Value
  | []=>vs
  |x::r=>cM (vs.setIfInBounds off x) (off+1) r
theorem cT (l:List Value):∀(vs:Array Value) (off:Nat),(cM vs off l).size=vs.size:=by
 induction l with
 |nil=>intro vs off;rfl
 |cons x r ih=>intro vs off;simp [cM,ih]
theorem ef (l:List Value):∀(vs:Array Value) (off k:Nat),off+l.length≤vs.size→
  (cM vs off l)[k]? =if off≤k∧k<off+l.length then l[k - off]? else vs[k]? :=by
 induction l with
 |nil=>intro vs off k _;rw [cM,if_neg (by intro h;have h1:=h.1;have h2:k<off+0:=h.2;omega)]
 |cons x r ih=>
  intro vs off k h
  simp only [Vx] at h
  rw [cM,ih _ _ _ (by simp;omega)]
  by_cases h1:off+1≤k∧k<off+1+r.length
  ·rw [if_pos h1,if_pos ⟨by omega,by simp;omega⟩]
   rw [show k - off=(k - (off+1))+1 by omega,Wp]
  ·rw [if_neg h1]
   by_cases h2:k=off
   ·subst h2
    rw [if_pos ⟨by omega,by simp⟩]
    simp [show k<vs.size by omega]
   ·rw [if_neg (by simp;omega),Wm (Ne.symm h2)]
theorem nK {w:World} {b:Nat} {o p:Obj} :bo (bo w b o) b p=bo w b p:=by
 unfold bo
 simp
theorem pb {w:World} {b o:Nat} {v:Value} {vs:Array Value} {ty:TypeId} {fz:Nat×Nat} (h:w.heap[b]? =some (.cells vs ty fz)):
  w.setCell ⟨b,o,none⟩ v=bo w b (.cells (vs.setIfInBounds o v) ty fz):=by
 have hb:=dy h
 have he:w.heap[b]= .cells vs ty fz:=by simpa [Array.getElem?_eq_getElem hb] using h
 unfold World.setCell bo
 congr 1
 apply Array.ext_getElem?
 intro k
 rw [Array.getElem?_modify]
 by_cases e:b=k
 ·subst e
  rw [if_pos rfl,h]
  simp [hb]
 ·rw [if_neg e,Wm e]
theorem dG {b off:Nat} {ty:TypeId} {fz:Nat×Nat} (l:List Value):∀(i:Nat) (w:World) (vs:Array Value),w.heap[b]? =some (.cells vs ty fz)→(∀v∈l,v.oneCell'=true)→
  off+i+l.length≤vs.size→jo fz vs.size→(storeCells ⟨b,off,none⟩ l i).run P w= .ok () (bo w b (.cells (cM vs (off+i) l) ty fz)):=by
 induction l with
 |nil=>
  intro i w vs h _ _ _
  simp only [storeCells,V1,cM]
  have hb:=dy h
  have he:w.heap.setIfInBounds b (.cells vs ty fz)=w.heap:=by
   apply Array.ext_getElem?
   intro k
   by_cases e:b=k
   ·subst e;rw [h];simp [hb]
   ·rw [Wm e]
  unfold bo
  rw [he]
 |cons x r ih=>
  intro i w vs h Qh hlen SG
  simp only [Vx] at hlen
  have Pd:off+i<vs.size:=by omega
  have PZ:w.cell? ⟨b,off+i,none⟩=some vs[off+i]:=by simp [WE,h,Pd]
  have Qo:w.frozen? ⟨b,off+i,none⟩=false:=by
   have:=SG _ Pd
   simp only [World.frozen?,h]
   simpa using this
  simp only [storeCells,VV,dK]
  rw [run_store _ _ _ _ _ (Qh x (by simp)),PZ]
  simp only [Qo,Wj,if_false,VN]
  rw [pb h]
  rw [ih (i+1) _ (vs.setIfInBounds (off+i) x) (dq h) (fun v hv=>Qh v (by simp [hv])) (by simp;omega) (by simpa using SG)]
  rw [nK]
  simp [cM,Nat.add_assoc]
theorem kV {t:TypeId} {d:TypeDesc} (h:P.underlying t=some d) (ha:cC d=false) {cs:Array Value} {off:Nat} {v:Value} (hv:cs[off]? =some v) (w:World):(part t cs off).run P w= .ok v w:=by
 simp [part,jL h,ha,hv]
theorem kW {t:TypeId} {d:TypeDesc} (h:P.underlying t=some d) (ha:cC d=true) (cs:Array Value) (off:Nat) (w:World):(part t cs off).run P w= .ok (.agg (cs.extract off (off+P.cellsOf t))) w:=by
 simp [part,jL h,ha,cj (ig h)]
theorem mR {t:TypeId} {d:TypeDesc} (h:P.underlying t=some d) (ha:cC d=false) {a:Addr} {v:Value} (hv:w.cell? a=some v):(loadVar t a).run P w= .ok v w:=by
 simp [loadVar,jL h,ha,hv]
theorem mS {t:TypeId} {d:TypeDesc} (h:P.underlying t=some d) (ha:cC d=true) {b off:Nat} (vs:Array Value) (hs:vs.size=P.cellsOf t)
  (hv:∀j v,vs[j]? =some v→w.cell? ⟨b,off+j,none⟩=some v):(loadVar t ⟨b,off,none⟩).run P w= .ok (.agg vs) w:=by
 simp [loadVar,jL h,ha,cj (ig h),← hs,fE b off vs hv]
end
theorem bV.get {M:MM} {cs:List D} {vs:Array Value} (h:bV M cs vs) {i:Nat} {d:D} (hd:cs[i]? =some d):∃v,vs[i]? =some v∧bz M d v:=by
 have hi:i<vs.size:=by
  rw [← h.1]
  rcases VS i cs.length with x|x
  ·exact x
  ·simp [VO x] at hd
 exact ⟨vs[i],by simp [hi],h.2 i d vs[i] hd (by simp [hi])⟩
theorem bV.sub {M:MM} {cs:List D} {vs:Array Value} (h:bV M cs vs) (off n:Nat) (hn:off+n≤cs.length):bV M ((cs.drop off).take n) (vs.extract off (off+n)):=by
 have hs:=h.1
 refine ⟨by simp;omega,fun i d v a b=> ?_⟩
 rw [WX] at a
 split at a
 ·rename_i hi
  rw [List.getElem?_drop] at a
  rw [Array.getElem?_extract] at b
  split at b
  ·exact h.2 _ d v a b
  ·cases b
 ·cases a
theorem m4 {M:MM} {v:Value} {d:D} (h:pZ v=some d):bz M d v:=by
 unfold pZ at h
 split at h<;>simp only [VI,reduceCtorEq] at h<;>subst h
 ·exact .bool _
 ·exact .int _ _
 ·exact .str _
 ·exact .eW
 ·exact .aq 0 0 (fun _ _=> .nilFunc) rfl (VF _) (fun h=>absurd rfl h) (fun i x h=>by simp at h) (fun i x cs j c h=>by simp at h) (fun i x cs j c h=>by simp at h) (fun i x cs c h=>by simp at h) rfl
 ·exact .bw
theorem la {M:MM} :∀ {vs:List Value} {l:List D},fP vs=some l→l.length=vs.length∧∀(i:Nat) (d:D) (v:Value),l[i]? =some d→vs[i]? =some v→bz M d v
 | [],l,h=>by
  simp only [fP,VI] at h;subst h;exact ⟨rfl,fun i d v a=>by simp at a⟩
 |v::r,l,h=>by
  unfold fP at h
  split at h
  ·rename_i d l' hd hl
   simp only [VI] at h
   subst h
   obtain ⟨h1,h2⟩:=la (M:=M) hl
   refine ⟨by simp [h1],fun i d' v' a b=> ?_⟩
   cases i with
   |zero=>simp at a b;subst a b;exact m4 hd
   |succ i=>exact h2 i d' v' (by simpa using a) (by simpa using b)
  ·cases h
theorem z0 {M:MM} :∀(vs:List Value),(tj vs).length=vs.length∧∀(i:Nat) (d:D) (v:Value),(tj vs)[i]? =some d→vs[i]? =some v→bz M d v
 | []=>⟨rfl,fun i d v a=>by simp [tj] at a⟩
 |v::r=>by
  obtain ⟨h1,h2⟩:=z0 (M:=M) r
  refine ⟨by simp [tj,h1],fun i d' v' a b=> ?_⟩
  cases i with
  |zero=>
   simp only [tj,Wt,VI] at a b
   subst a b
   split
   ·rename_i d hd;exact m4 hd
   ·exact .undef _
  |succ i=>exact h2 i d' v' (by simpa [tj] using a) (by simpa using b)
theorem en {M:MM} (v:Value):bz M (kQ v) v:=by
 unfold kQ
 split
 ·rename_i cs
  obtain ⟨h1,h2⟩:=z0 (M:=M) cs.toList
  exact .agg (by simpa using h1) (fun i d v a b=>h2 i d v a (by simpa using b))
 ·split
  ·rename_i d hd;exact m4 hd
  ·exact .undef _
theorem kY {M:MM} {t:List D} {a:Act} (h:bV M t a.tmps) (x:Operand):bz M (bJ t x) (a.eval x):=by
 cases x with
 |tmp i=>
  show bz M (t.getD i .undef) (a.tmps.getD i undef)
  cases e:t[i]? with
  |none=>rw [VJ,e];exact .undef _
  |some d=>
   obtain ⟨v,hv,hr⟩:=h.get e
   rw [VJ,e,V6,hv]
   exact hr
 |const v=>exact en v
 |global g=>exact .undef _
 |func f=>exact .fn (M:=M) (first:= []) (cap:= []) rfl rfl (fun i d v a=>by simp at a) (fun i d v a=>by simp at a)
theorem iE {M:MM} {d:D} {v:Value} (h:bz M d v) (hs:storable d=true):v.oneCell'=true:=by
 cases h<;>first|rfl|(simp [storable] at hs)
theorem ny {cs xs:List D} {off k:Nat} (h:off+xs.length≤cs.length):(fR cs off xs)[k]? =if off≤k∧k<off+xs.length then xs[k - off]? else cs[k]? :=by
 unfold fR
 rw [Wz]
 simp only [List.length_take,show min off cs.length=off by omega]
 by_cases h1:k<off
 ·rw [if_pos h1,if_neg (by omega),WX,if_pos h1]
 ·rw [if_neg h1,Wz]
  by_cases h2:k - off<xs.length
  ·rw [if_pos h2,if_pos ⟨by omega,by omega⟩]
  ·rw [if_neg h2,if_neg (by omega),List.getElem?_drop]
   congr 1
   omega
theorem nx {cs xs:List D} {off:Nat} (h:off+xs.length≤cs.length):(fR cs off xs).length=cs.length:=by
 unfold fR
 simp
 omega
theorem vn {M:MM} {cs xs:List D} {vs ws:Array Value} {off:Nat} (h:bV M cs vs) (k:bV M xs ws) (hl:off+xs.length≤cs.length):bV M (fR cs off xs) (cM vs off ws.toList):=by
 refine ⟨by rw [nx hl,cT,h.1],fun i d v a b=> ?_⟩
 have hs:off+ws.toList.length≤vs.size:=by rw [← h.1,Wg,← k.1];exact hl
 rw [ny hl] at a
 rw [ef _ _ _ _ hs] at b
 have:ws.toList.length=xs.length:=by rw [Wg,← k.1]
 rw [this] at b
 split at a
 ·rename_i hc
  rw [if_pos hc] at b
  exact k.2 _ d v a (by simpa using b)
 ·rename_i hc
  rw [if_neg hc] at b
  exact h.2 _ d v a b
theorem jM {M:MM} {cs:List D} {vs:Array Value} (hl:cs.length≤vs.size) (h:∀(i:Nat) (d:D) (v:Value),cs[i]? =some d→vs[i]? =some v→bz M d v) {i:Nat} {d:D} (hd:cs[i]? =some d):∃v,vs[i]? =some v∧bz M d v:=by
 have hi:i<vs.size:=by
  rcases VS i cs.length with x|x
  ·omega
  ·simp [VO x] at hd
 exact ⟨vs[i],by simp [hi],h i d vs[i] hd (by simp [hi])⟩
theorem lb {M:MM} {cs xs:List D} {vs ws:Array Value} {off:Nat} (h0:cs.length≤vs.size) (h:∀(i:Nat) (d:D) (v:Value),cs[i]? =some d→vs[i]? =some v→bz M d v) (k:bV M xs ws) (hl:off+xs.length≤cs.length):
  (fR cs off xs).length≤(cM vs off ws.toList).size∧∀(i:Nat) (d:D) (v:Value),(fR cs off xs)[i]? =some d→(cM vs off ws.toList)[i]? =some v→bz M d v:=by
 refine ⟨by rw [nx hl,cT];exact h0,fun i d v a b=> ?_⟩
 have hs:off+ws.toList.length≤vs.size:=by rw [Wg,← k.1];omega
 rw [ny hl] at a
 rw [ef _ _ _ _ hs] at b
 have:ws.toList.length=xs.length:=by rw [Wg,← k.1]
 rw [this] at b
 split at a
 ·rename_i hc
  rw [if_pos hc] at b
  exact k.2 _ d v a (by simpa using b)
 ·rename_i hc
  rw [if_neg hc] at b
  exact h _ d v a b
section
variable {ρ:Type} {P:Program} {r:ρ}
theorem bl {b:Bool} {k:Option ρ} (h:fj b k=some r):b=true∧k=some r:=by
 cases b
 ·cases h
 ·exact ⟨rfl,h⟩
theorem cK {z:Z P} {b:Bool} {k:Z P→Option ρ} (h:ask z b k=some r):∃z',k z'=some r∧(z'.c→z.c∧b=true):=by
 unfold ask at h
 split at h
 ·rename_i q hq rest _
  exact ⟨_,h,fun c=>⟨c.2,c.1▸hq⟩⟩
 ·cases h
theorem ql {z:Z P} {ys:List D} {k:Z P→List D→Option ρ} (h:Ax z ys k=some r):∃z' nc,k z' nc=some r∧(z'.c→z.c∧eo ys=some nc):=by
 unfold Ax at h
 split at h
 ·rename_i Tw nc hq rest _
  exact ⟨_,nc,h,fun c=>⟨c.2,c.1▸hq⟩⟩
 ·split at h
  ·rename_i nc hq
   exact ⟨_,nc,h,fun c=>⟨c,hq⟩⟩
  ·cases h
theorem Cj {z:Z P} {ys:List D} {k:Z P→List D→Option ρ} (h:Ey z ys k=some r):∃z' nc,k z' nc=some r∧(z'.c→z.c∧eo ys=some nc∧ys≠ []):=by
 unfold Ey at h
 split at h
 ·rename_i Tw nc hq rest _
  obtain ⟨z',h,hz⟩:=cK h
  refine ⟨z',nc,h,fun c=> ?_⟩
  obtain ⟨⟨e,c0⟩,hb⟩:=hz c
  refine ⟨c0,e▸hq,fun e0=> ?_⟩
  rw [e0] at hb
  cases hb
 ·split at h
  ·rename_i nc hq
   obtain ⟨hb,h⟩:=bl h
   refine ⟨_,nc,h,fun c=>⟨c,hq,fun e0=> ?_⟩⟩
   rw [e0] at hb
   cases hb
  ·cases h
theorem eL {z:Z P} {st b:Bool} {k:Z P→Option ρ} (h:jD z st b k=some r):∃z',k z'=some r∧(z'.c→z.c∧b=true):=by
 unfold jD at h
 split at h
 ·obtain ⟨h1,h2⟩:=bl h
  exact ⟨z,h2,fun c=>⟨c,h1⟩⟩
 ·exact cK h
theorem fm {z:Z P} {n m:Nat} {k:Z P→Option ρ} (h:iW z n m k=some r):∃z',k z'=some r∧(z'.c→z.c∧n≤m):=by
 unfold iW at h
 split at h
 ·rename_i n' m' hn rest _
  exact ⟨_,h,fun c=>⟨c.2,c.1.1▸c.1.2▸hn⟩⟩
 ·cases h
theorem gQ {z:Z P} {b:Bool} {k1 k2:Z P→Option ρ} (h:branch z b k1 k2=some r):
  ∃z',(k1 z'=some r∧(z'.c→z.c∧b=true))∨(k2 z'=some r∧(z'.c→z.c∧b=false)):=by
 unfold branch at h
 split at h
 ·rename_i q v hq rest _
  cases v
  ·exact ⟨_,.inr ⟨h,fun c=>⟨c.2,c.1▸hq⟩⟩⟩
  ·exact ⟨_,.inl ⟨h,fun c=>⟨c.2,c.1▸hq⟩⟩⟩
 ·cases h
theorem nM {z:Z P} {l:List D} {i:Nat} {k:Z P→D→Option ρ} (h:pick z l i k=some r):∃z' d,k z' d=some r∧(z'.c→z.c∧l[i]? =some d):=by
 unfold pick at h
 split at h
 ·rename_i l' i' d hg rest _
  exact ⟨_,d,h,fun c=>⟨c.2,c.1.1▸c.1.2▸hg⟩⟩
 ·split at h
  ·rename_i d hg
   exact ⟨_,d,h,fun c=>⟨c,hg⟩⟩
  ·cases h
theorem qd {z:Z P} {es:List (Int×D)} {n:Int} {k:Z P→Option D→Option ρ} (h:Al z es n k=some r):∃z' d,k z' d=some r∧(z'.c→z.c∧dC es n=d):=by
 unfold Al at h
 split at h
 ·rename_i Rb n' d hg rest _
  exact ⟨_,d,h,fun c=>⟨c.2,c.1.1▸c.1.2▸hg⟩⟩
 ·cases h
theorem nU {z:Z P} {es:List (List D×D)} {n:List D} {k:Z P→Option D→Option ρ} (h:sN z es n k=some r):∃z' d,k z' d=some r∧(z'.c→z.c∧gr es n=d):=by
 unfold sN at h
 split at h
 ·rename_i Rb n' d hg rest _
  exact ⟨_,d,h,fun c=>⟨c.2,c.1.1▸c.1.2▸hg⟩⟩
 ·cases h
theorem jS {z:Z P} {t:TypeId} {k:Z P→List LK→Option ρ} (h:qc z t k=some r):∃z' ks,k z' ks=some r∧(z'.c→z.c)∧gy P t ks:=by
 unfold qc at h
 split at h
 ·rename_i t' ks hk rest _
  obtain ⟨h1,h2⟩:=bl h
  rw [VZ] at h1
  subst h1
  exact ⟨_,ks,h2,id,hk⟩
 ·cases h
def jG (P:Program) (t:TypeId) (cs:List D) (off:Nat) (d:D):Prop:=
  ∃e,P.underlying t=some e∧((cC e=true∧off+P.cellsOf t≤cs.length∧d= .agg ((cs.drop off).take (P.cellsOf t)))∨(cC e=false∧cs[off]? =some d))
theorem jQ {z:Z P} {dyn:Bool} {t:TypeId} {cs:List D} {off:Nat} {k:Z P→D→Option ρ} (h:p8 P z dyn t cs off k=some r):
  ∃z' d,k z' d=some r∧(z'.c→z.c∧jG P t cs off d):=by
 unfold p8 at h
 split at h
 ·cases h
 ·rename_i e he
  split at h
  ·rename_i ha
   obtain ⟨hk,h⟩:=bl h
   split at h
   ·obtain ⟨h1,h2⟩:=bl h
    exact ⟨z,_,h2,fun c=>⟨c,e,he,.inl ⟨ha,by simpa using h1,rfl⟩⟩⟩
   ·split at h
    ·rename_i l i n l' hg rest _
     refine ⟨_,_,h,fun c=>⟨c.2,e,he,.inl ⟨ha,?_,?_⟩⟩⟩
     ·rw [← c.1.1,← c.1.2.1,← c.1.2.2];exact hg.2
     ·rw [← c.1.1,← c.1.2.1,← c.1.2.2,hg.1]
    ·cases h
  ·rename_i ha
   split at h
   ·split at h
    ·rename_i d hd
     exact ⟨z,d,h,fun c=>⟨c,e,he,.inr ⟨ha,hd⟩⟩⟩
    ·cases h
   ·obtain ⟨z',d,h1,h2⟩:=nM h
    exact ⟨z',d,h1,fun c=>⟨(h2 c).1,e,he,.inr ⟨ha,(h2 c).2⟩⟩⟩
theorem mr {M:MM} {t:TypeId} {cs:List D} {off:Nat} {d:D} (hp:jG P t cs off d) {vs:Array Value} (h:bV M cs vs):∃v,bz M d v∧∀w:World,(part t vs off).run P w= .ok v w:=by
 obtain ⟨e,he,⟨ha,hl,rfl⟩|⟨ha,hd⟩⟩:=hp
 ·have TC:=h.sub off (P.cellsOf t) hl
  exact ⟨_,.agg TC.1 TC.2,fun w=>kW he ha vs off w⟩
 ·obtain ⟨v,hv,hr⟩:=h.get hd
  exact ⟨v,hr,fun w=>kV he ha hv w⟩
theorem gG {M:MM} {t:TypeId} {cs:List D} {off b base:Nat} {d:D} (hp:jG P t cs off d) {w:World} (vs:Nat→Value)
  (hc:∀j c,cs[j]? =some c→w.cell? ⟨b,base+j,none⟩=some (vs j)∧bz M c (vs j)):∃v,(loadVar t ⟨b,base+off,none⟩).run P w= .ok v w∧bz M d v:=by
 obtain ⟨e,he,⟨ha,hl,rfl⟩|⟨ha,hd⟩⟩:=hp
 ·let ws:Array Value:=((List.range (P.cellsOf t)).map fun j=>vs (off+j)).toArray
  have Vj:∀j v,ws[j]? =some v→j<P.cellsOf t∧v=vs (off+j):=by
   intro j v hj
   simp only [ws,List.getElem?_toArray,VW,VU] at hj
   obtain ⟨x,hx,rfl⟩:=hj
   have Pd:j<P.cellsOf t:=by
    rcases VS j (P.cellsOf t) with h|h
    ·exact h
    ·rw [VO (by simpa using h)] at hx;cases hx
   rw [List.getElem?_range Pd] at hx
   cases hx
   exact ⟨Pd,rfl⟩
  have Pg:∀j,j<P.cellsOf t→∃c,cs[off+j]? =some c:=fun j hj=>⟨cs[off+j]'(by omega),by simp [show off+j<cs.length by omega]⟩
  refine ⟨.agg ws,mS he ha ws (by simp [ws]) ?_,.agg ?_ ?_⟩
  ·intro j v hj
   obtain ⟨h1,rfl⟩:=Vj j v hj
   obtain ⟨c,Rf⟩:=Pg j h1
   rw [Nat.add_assoc]
   exact (hc _ c Rf).1
  ·simp [ws];omega
  ·intro i c v a b
   obtain ⟨h1,rfl⟩:=Vj i v b
   rw [WX,if_pos h1,List.getElem?_drop] at a
   exact (hc _ c a).2
 ·obtain ⟨h1,h2⟩:=hc off d hd
  exact ⟨vs off,mR he ha h1,h2⟩
end
def Fb (P:Program) (o:Oper) (a:Act) (w:World) (next:Act→World→Prop) (Q:Exit→Act→World→Prop):Prop:= ∀r:Option Nat,o.wpIn (FW r) 0 P a w next Q
theorem A6 {P:Program} {o:Oper} {ρ:Operand→Value} {c:Call} (ho:o.op= .defer c) {w w':World} {x:Next} (h:(execOp ρ o).run P w= .ok x w'):∃d,x= .defer d:=by
 unfold execOp at h
 rw [ho] at h
 simp only [VV] at h
 cases hr:(resolve ρ c o.type).run P w with
 |ok d w1=>rw [hr] at h;simp only [VN,V1,Result.ok.injEq] at h;exact ⟨d,h.1.symm⟩
 |halt a b=>rw [hr] at h;cases h
theorem jI {P:Program} {o:Oper} {ρ:Operand→Value} {w w':World} {x:Next} (h:(execOp ρ o).run P w= .ok x w') (hx:∀d,x≠ .defer d) (r:Option Nat):(o.semAt r ρ).run P w= .ok x w':=by
 by_cases hd:∃c,o.op= .defer c
 ·obtain ⟨c,hc⟩:=hd
  obtain ⟨d,hd⟩:=A6 hc h
  exact absurd hd (hx d)
 ·rw [Oper.semAt_eq r ρ o (fun c hc=>hd ⟨c,hc⟩)]
  exact h
def gp.pre (e:gp) (M:MM) (σ:Nat→Ob) (id:Nat):Prop:=match e with
  | .pure _=>True
  | .read i o _=>σ i=o
  | .fG i j d=>eu (σ i) j=some d
  | .dv i o _ _=>σ i=o
  | .new _ _=>M.box id=none∧∀v,M.br id v=none
  | .all _ _=>False
def gp.post (e:gp) (σ:Nat→Ob) (id:Nat):Nat→Ob:=match e with
  | .dv i _ o' _=>Ev.dv σ i o'
  | .new o _=>Ev.dv σ id o
  |_=>σ
def gp.val (e:gp) (id:Nat):D:=match e with
  | .pure d=>d
  | .read _ _ d=>d
  | .fG _ _ d=>d
  | .dv _ _ _ d=>d
  | .new _ mk=>mk id
  | .all _ d=>d
def gp.Mg (e:gp) (M M':MM) (id:Nat):Prop:=match e with
  | .dv i _ _ _=>M'.box=M.box∧∀j,j≠i→M'.br j=M.br j
  | .new _ _=>(∀j,j≠id→M'.box j=M.box j)∧∀j,j≠id→M'.br j=M.br j
  |_=>M'.box=M.box∧M'.br=M.br
def dF (P:Program) (o:Oper) (ρ:Operand→D) (e:gp):Prop:=
  ∀(w0:de) (M:MM) (own:Nat→Option Nat) (σ:Nat→Ob) (w:World) (a:Act) (id:Nat),bH w0 M own σ w→(∀x∈o.op.operands,bz M (ρ x) (a.eval x))→e.pre M σ id→
    ∀(next:Act→World→Prop) (Q:Exit→Act→World→Prop),
      (∀v M' Pc w',M.Le M'→e.Mg M M' id→bH w0 M' Pc (e.post σ id) w'→bz M' (e.val id) v→next (a.put o.dst v) w')→Fb P o a w next Q
section
variable {P:Program} {o:Oper} {ρ:Operand→D}
theorem cG {a:Act} {w w':World} {v:Value} {next:Act→World→Prop} {Q:Exit→Act→World→Prop} (h:(execOp a.eval o).run P w= .ok (.value v) w') (k:next (a.put o.dst v) w'):Fb P o a w next Q:=by
 intro r
 refine ⟨fun _ _=>trivial,?_⟩
 rw [show (FW r).round=r from rfl,jI h (fun d e=>by cases e) r]
 exact k
theorem hY {a:Act} {w w':World} {next:Act→World→Prop} {Q:Exit→Act→World→Prop} (h:(execOp a.eval o).run P w= .ok .skip w') (k:next (a.put o.dst undef) w'):Fb P o a w next Q:=by
 intro r
 refine ⟨fun _ _=>trivial,?_⟩
 rw [show (FW r).round=r from rfl,jI h (fun d e=>by cases e) r]
 exact k
theorem bM {d:D} (h:∀(M:MM) (w:World) (a:Act),(∀b o v,M.cell b o=some v→w.cell? ⟨b,o,none⟩=some v)→(∀x∈o.op.operands,bz M (ρ x) (a.eval x))→
  ∃v,(execOp a.eval o).run P w= .ok (.value v) w∧bz M d v):dF P o ρ (.pure d):=by
 intro w0 M own σ w a id hw hr _ next Q hn
 obtain ⟨v,h1,h2⟩:=h M w a hw.cells hr
 exact cG h1 (hn v M own w (.refl M) ⟨rfl,rfl⟩ hw h2)
theorem vQ {d:D} (h:∀(M:MM) (w:World) (a:Act),(∀b o v,M.cell b o=some v→w.cell? ⟨b,o,none⟩=some v)→(∀x∈o.op.operands,bz M (ρ x) (a.eval x))→
  ∃v M' w',(execOp a.eval o).run P w= .ok (.value v) w'∧Ext M w M' w'∧M'.box=M.box∧M'.br=M.br∧M'.dE=M.dE∧bz M' d v):dF P o ρ (.pure d):=by
 intro w0 M own σ w a id hw hr _ next Q hn
 obtain ⟨v,M',w',h1,h2,h3,h4,hm,h5⟩:=h M w a hw.cells hr
 obtain ⟨k1,k2⟩:=hw.ext h2 h3 h4 hm
 exact cG h1 (hn v M' own w' k2 ⟨h3,h4⟩ k1 h5)
theorem mB {ty:TypeId} {x:Operand} {dyn:Bool} {id off:Nat} {cs:List D} {d:D} (ho:o.op= .load ty x) (hx:ρ x= .ptr dyn id off) (hp:jG P ty cs off d):dF P o ρ (.read id (.box cs) d):=by
 intro w0 M own σ w a i hw hr Pp next Q hn
 obtain ⟨b,vs,t,k⟩:=hw.box id cs Pp
 have Qq:=hr x (by simp [ho,VQ])
 rw [hx] at Qq
 generalize hv:a.eval x=v at Qq
 cases Qq with
 |ptr _ hb=>
  rename_i b'
  rw [k.box] at hb
  obtain rfl:=VA hb
  have PZ:∀j c,cs[j]? =some c→w.cell? ⟨b,0+j,none⟩=some (vs.getD j .nilFunc)∧bz M c (vs.getD j .nilFunc):=by
   intro j c hj
   obtain ⟨u,hu,hru⟩:=jM k.len k.rep hj
   rw [V6,hu]
   refine ⟨?_,hru⟩
   simp [WE,k.cq,hu]
  obtain ⟨v,h1,h2⟩:=gG hp (fun j=>vs.getD j .nilFunc) PZ
  rw [V9] at h1
  refine cG (v:=v) (w':=w) ?_ (hn v M own w (.refl M) ⟨rfl,rfl⟩ hw h2)
  simp [execOp,ho,Instr.loadAt,Instr.sureAddr,hv,h1]
theorem sE {ty:TypeId} {x:Operand} {dyn:Bool} {id off:Nat} {d:D} {e:TypeDesc} (ho:o.op= .load ty x) (hx:ρ x= .ptr dyn id off) (hu:P.underlying ty=some e) (ha:cC e=false):dF P o ρ (.fG id off d):=by
 intro w0 M own σ w a i hw hr Pp next Q hn
 have Pp:eu (σ id) off=some d:=Pp
 cases hs:σ id with
 |box cs=>
  rw [hs] at Pp
  exact mB (cs:=cs) (d:=d) ho hx ⟨e,hu,.inr ⟨ha,Pp⟩⟩ w0 M own σ w a i hw hr hs next Q hn
 |_=>rw [hs] at Pp;cases Pp
theorem sD {ty:TypeId} {x:Operand} {dyn:Bool} {y:D} {off:Nat} {cs:List D} {d:D} (ho:o.op= .load ty x) (hx:ρ x= .cN dyn y off) (hy:y.cells=some cs) (hp:jG P ty cs off d):dF P o ρ (.pure d):=by
 refine bM fun M w a hc hr=> ?_
 have Qq:=hr x (by simp [ho,VQ])
 rw [hx] at Qq
 generalize hv:a.eval x=v at Qq
 cases Qq with
 |cN _ vs hx' QL Rn=>
  rw [hy] at hx'
  obtain rfl:=VA hx'
  obtain ⟨v,h1,h2⟩:=gG (M:=M) (w:=w) hp vs (fun j c hj=>⟨hc _ _ _ (QL j c hj),(Rn j c hj).mono (MM.iU M)⟩)
  exact ⟨v,by simp [execOp,ho,Instr.loadAt,Instr.sureAddr,hv,h1],h2⟩
theorem Ad {x:Operand} (ho:o.op= .move x∨o.op= .assign x):dF P o ρ (.pure (ρ x)):=
 bM fun M w a _ hr=>⟨a.eval x,by rcases ho with h|h<;>simp [execOp,h],hr x (by rcases ho with h|h<;>simp [h,VQ])⟩
theorem Ac {c x y:Operand} {q:Bool} (ho:o.op= .pick c x y) (hc:ρ c= .bool q):dF P o ρ (.pure (if q then ρ x else ρ y)):=by
 refine bM fun M w a _ hr=> ?_
 have h1:=hr c (by simp [ho,VQ])
 rw [hc] at h1
 generalize hv:a.eval c=v at h1
 cases h1
 have h2:=hr x (by simp [ho,VQ])
 have h3:=hr y (by simp [ho,VQ])
 refine ⟨if q then a.eval x else a.eval y,?_,by cases q<;>simpa⟩
 cases q<;>simp [execOp,ho,asBool,hv]
theorem jy {x:Operand} (ho:o.op= .nilCheck x) (hx:(∃q i f,ρ x= .ptr q i f)∨(∃q y f,ρ x= .cN q y f)∨∃g l r,ρ x= .fn (.func g) l r):dF P o ρ (.pure (ρ x)):=by
 refine bM fun M w a _ hr=> ?_
 have h1:=hr x (by simp [ho,VQ])
 refine ⟨a.eval x,?_,h1⟩
 generalize hv:a.eval x=v at h1
 rcases hx with ⟨q,i,f,e⟩|⟨q,y,f,e⟩|⟨g,l,r,e⟩<;>rw [e] at h1<;>cases h1<;>simp [execOp,ho,hv]
theorem yE {x:Operand} {i:Nat} {ds:List D} {d:D} (ho:o.op= .extract x i) (hx:ρ x= .aQ ds) (hd:ds[i]? =some d):dF P o ρ (.pure d):=by
 refine bM fun M w a _ hr=> ?_
 have h1:=hr x (by simp [ho,VQ])
 rw [hx] at h1
 generalize hv:a.eval x=v at h1
 cases h1 with
 |aQ hl Pm=>
  obtain ⟨u,hu,hru⟩:=bV.get ⟨hl,Pm⟩ hd
  exact ⟨u,by simp [execOp,ho,Instr.extract,hv,hu],hru⟩
theorem vU {f:Fn} {first cap:Array Operand} (ho:o.op= .makeFunc f first cap):dF P o ρ (.pure (.fn f (first.toList.map ρ) (cap.toList.map ρ))):=by
 refine bM fun M w a _ hr=> ?_
 refine ⟨.func f (first.map a.eval) (cap.map a.eval),by simp [execOp,ho,Instr.makeFunc],.fn (by simp) (by simp) ?_ ?_⟩
 ·intro i d v h1 h2
  rw [VW,VU] at h1
  obtain ⟨x,hx,rfl⟩:=h1
  rw [VX] at hx
  rw [Array.getElem?_map,hx] at h2
  simp only [WK,VI] at h2
  subst h2
  exact hr x (by simp [ho,VQ,Array.mem_of_getElem? hx])
 ·intro i d v h1 h2
  rw [VW,VU] at h1
  obtain ⟨x,hx,rfl⟩:=h1
  rw [VX] at hx
  rw [Array.getElem?_map,hx] at h2
  simp only [WK,VI] at h2
  subst h2
  exact hr x (by simp [ho,VQ,Array.mem_of_getElem? hx])
theorem sH {s:TypeId} {x:Operand} {f:Nat} {fields:Array Field} {fd:Field} (ho:o.op= .fieldAddr s x f) (hs:P.underlying s=some (.struct fields)) (hf:fields[f]? =some fd)
  (hk:known P fd.type=true) (Pw:0<P.cellsOf fd.type):
  (∀q i off,ρ x= .ptr q i off→dF P o ρ (.pure (.ptr q i (off+fd.offset))))∧(∀q y off,ρ x= .cN q y off→dF P o ρ (.pure (.cN q y (off+fd.offset)))):=by
 constructor
 ·intro q i off hx
  refine bM fun M w a _ hr=> ?_
  have h1:=hr x (by simp [ho,VQ])
  rw [hx] at h1
  generalize hv:a.eval x=v at h1
  cases h1 with
  |ptr _ hb=>
   refine ⟨_,?_,.ptr q hb⟩
   simp [execOp,ho,Instr.fieldAt,run_underlying hs,hf,hv,Instr.sureAddr,fieldPlace,cj hk,Nat.ne_of_gt Pw,dK]
 ·intro q y off hx
  refine bM fun M w a _ hr=> ?_
  have h1:=hr x (by simp [ho,VQ])
  rw [hx] at h1
  generalize hv:a.eval x=v at h1
  cases h1 with
  |cN _ vs hx' QL Rn=>
   refine ⟨_,?_,.cN q vs hx' QL Rn⟩
   simp [execOp,ho,Instr.fieldAt,run_underlying hs,hf,hv,Instr.sureAddr,fieldPlace,cj hk,Nat.ne_of_gt Pw,dK,Nat.add_assoc]
theorem Dy {ty:TypeId} {x:Operand} {f:Nat} {fields:Array Field} {fd:Field} {cs:List D} {d:D} (ho:o.op= .field ty x f) (hs:P.underlying ty=some (.struct fields)) (hf:fields[f]? =some fd)
  (hx:ρ x= .agg cs) (hp:jG P fd.type cs fd.offset d):dF P o ρ (.pure d):=by
 refine bM fun M w a _ hr=> ?_
 have h1:=hr x (by simp [ho,VQ])
 rw [hx] at h1
 generalize hv:a.eval x=v at h1
 cases h1 with
 |agg hl Pm=>
  obtain ⟨v,h2,h3⟩:=mr hp ⟨hl,Pm⟩
  exact ⟨v,by simp [execOp,ho,Instr.field,run_underlying hs,hf,hv,asAgg,h3],h2⟩
theorem cu {M:MM} {d:D} {v:Value} {k:W3} {n:Int} (h:bz M d v) (e:d= .int k n):v= .int k n:=by subst e;cases h;rfl
theorem lg {ty:TypeId} {x ix:Operand} {k:W3} {i:Int} {len:Nat} {elem:TypeId} (ho:o.op= .indexAddr ty x ix) (hi:ρ ix= .int k i) (ht:P.underlying ty=some (.array len elem)) (hk:known P elem=true) (hb:0≤i∧i<len) (dyn:Bool):
  (∀q id off,ρ x= .ptr q id off→dF P o ρ (.pure (.ptr dyn id (off+i.toNat*P.cellsOf elem))))∧(∀q y off,ρ x= .cN q y off→dF P o ρ (.pure (.cN dyn y (off+i.toNat*P.cellsOf elem)))):=by
 constructor
 ·intro q id off hx
  refine bM fun M w a _ hr=> ?_
  have h1:=hr x (by simp [ho,VQ])
  have h2:=cu (hr ix (by simp [ho,VQ])) hi
  rw [hx] at h1
  generalize hv:a.eval x=v at h1
  cases h1 with
  |ptr _ hb'=>
   refine ⟨_,?_,.ptr dyn hb'⟩
   simp [execOp,ho,Instr.indexAt,h2,asIntOf,run_underlying ht,hv,Instr.sureAddr,hb,cj hk,dK]
 ·intro q y off hx
  refine bM fun M w a _ hr=> ?_
  have h1:=hr x (by simp [ho,VQ])
  have h2:=cu (hr ix (by simp [ho,VQ])) hi
  rw [hx] at h1
  generalize hv:a.eval x=v at h1
  cases h1 with
  |cN _ vs hx' QL Rn=>
   refine ⟨_,?_,.cN dyn vs hx' QL Rn⟩
   simp [execOp,ho,Instr.indexAt,h2,asIntOf,run_underlying ht,hv,Instr.sureAddr,hb,cj hk,dK,Nat.add_assoc]
theorem lX {ty:TypeId} {x ix:Operand} {k:W3} {i:Int} {elem:TypeId} {ow:jn} {sz:Nat} {xs:List D} {y:D} (ho:o.op= .indexAddr ty x ix) (hi:ρ ix= .int k i) (ht:P.underlying ty=some (.slice elem)) (hk:known P elem=true)
  (Po:P.cellsOf elem=sz) (hb:0≤i) (hx:ρ x= .aq ow sz xs) (hy:xs[i.toNat]? =some y):dF P o ρ (.pure (.cN false y 0)):=by
 refine bM fun M w a _ hr=> ?_
 have h1:=hr x (by simp [ho,VQ])
 have h2:=cu (hr ix (by simp [ho,VQ])) hi
 rw [hx] at h1
 generalize hv:a.eval x=v at h1
 cases h1 with
 |aq b off vs hl Ph ha hs hc hrr Pr PY=>
  rename_i ad len cap
  have Pd:i.toNat<xs.length:=by
   rcases VS i.toNat xs.length with h|h
   ·exact h
   ·simp [VO h] at hy
  have Px:xs≠ []:=fun e=>by simp [e] at Pd
  obtain rfl:=ha Px
  obtain ⟨cs,Pg,hlen⟩:=hs _ _ hy
  refine ⟨.pointer (some ⟨b,(off+i.toNat*sz)+0,none⟩),?_,.cN false (fun j=>vs i.toNat j) Pg (fun j c hj=>hc _ _ _ j c hy Pg hj) (fun j c hj=>hrr _ _ _ j c hy Pg hj)⟩
  have:i<len:=by omega
  simp [execOp,ho,Instr.indexAt,h2,asIntOf,run_underlying ht,hv,hb,this,cj hk,dK,Po]
theorem sG {ty:TypeId} {x ix:Operand} {k:W3} {i:Int} {len:Nat} {elem:TypeId} {cs:List D} {d:D} (ho:o.op= .index ty x ix) (hi:ρ ix= .int k i) (ht:P.underlying ty=some (.array len elem)) (hk:known P elem=true) (hb:0≤i∧i<len)
  (hx:ρ x= .agg cs) (hp:jG P elem cs (i.toNat*P.cellsOf elem) d):dF P o ρ (.pure d):=by
 refine bM fun M w a _ hr=> ?_
 have h1:=hr x (by simp [ho,VQ])
 have h2:=cu (hr ix (by simp [ho,VQ])) hi
 rw [hx] at h1
 generalize hv:a.eval x=v at h1
 cases h1 with
 |agg hl Pm=>
  obtain ⟨v,h3,h4⟩:=mr hp ⟨hl,Pm⟩
  exact ⟨v,by simp [execOp,ho,Instr.index,h2,asIntOf,run_underlying ht,hv,hb,cj hk,h4],h3⟩
theorem sF {ty:TypeId} {x ix:Operand} {k:W3} {i:Int} {s:ByteArray} {d:D} (ho:o.op= .index ty x ix) (hi:ρ ix= .int k i) (ht:P.underlying ty=some .string) (hb:0≤i)
  (hx:ρ x= .str s) (hp:(hO s)[i.toNat]? =some d):dF P o ρ (.pure d):=by
 refine bM fun M w a _ hr=> ?_
 have h1:=hr x (by simp [ho,VQ])
 have h2:=cu (hr ix (by simp [ho,VQ])) hi
 rw [hx] at h1
 generalize hv:a.eval x=v at h1
 cases h1
 unfold hO at hp
 rw [VW,VU] at hp
 obtain ⟨c,hc,rfl⟩:=hp
 rw [VX] at hc
 have QL:s[i.toNat]? =some c:=by
  have Pd:i.toNat<s.data.size:=by
   rcases VS i.toNat s.data.size with h|h
   ·exact h
   ·simp [Wb h] at hc
  have Uo:i.toNat<s.size:=Pd
  rw [getElem?_pos s i.toNat Uo]
  rw [getElem?_pos s.data i.toNat Pd] at hc
  exact hc
 exact ⟨.int .u8 c.toNat,by simp [execOp,ho,Instr.index,h2,asIntOf,run_underlying ht,hv,hb,QL],.int _ _⟩
end
section
variable {P:Program} {o:Oper} {ρ:Operand→D}
theorem vR {ty:TypeId} {x v:Operand} {dyn:Bool} {id off:Nat} {cs vc:List D} (ho:o.op= .store ty x v) (hx:ρ x= .ptr dyn id off) (hv:(ρ v).cells=some vc) (hk:known P ty=true)
  (Po:vc.length=P.cellsOf ty) (Pr:∀d∈vc,storable d=true) (hl:off+vc.length≤cs.length):dF P o ρ (.dv id (.box cs) (.box (fR cs off vc)) .undef):=by
 intro w0 M own σ w a i hw hr Pp next Q hn
 obtain ⟨b,vs,t,k⟩:=hw.box id cs Pp
 have Qq:=hr x (by simp [ho,VQ])
 have R9:=hr v (by simp [ho,VQ])
 rw [hx] at Qq
 generalize hva:a.eval x=va at Qq
 cases Qq with
 |ptr _ hb=>
  rename_i b'
  rw [k.box] at hb
  obtain rfl:=VA hb
  have Pn:=R9.cells hv
  have hlen:(a.eval v).cells.toList.length=vc.length:=by rw [Wg,← Pn.1]
  have Qh:∀u∈(a.eval v).cells.toList,u.oneCell'=true:=by
   intro u hu
   obtain ⟨j,hj⟩:=List.mem_iff_getElem?.1 hu
   rw [VX] at hj
   have QT:j<vc.length:=by
    rcases VS j vc.length with h|h
    ·exact h
    ·rw [Pn.1] at h;simp [Wb h] at hj
   exact iE (Pn.2 j vc[j] u (by simp [QT]) hj) (Pr _ (by simp))
  have Pt:=dG (P:=P) (b:=b) (off:=off) (fz:=(0,0)) (a.eval v).cells.toList 0 w vs k.cq Qh (by rw [hlen];have:=k.len;omega) (fun o _ h=>by have:=h.2;simp at this)
  rw [WV] at Pt
  have Pm:=lb (M:=M) k.len k.rep Pn hl
  refine hY (w':=bo w b (.cells (cM vs off (a.eval v).cells.toList) t (0,0))) ?_ (hn undef M own _ (.refl M) ⟨rfl,fun _ _=>rfl⟩ (hw.C2 k Pm.1 (cT _ _ _) Pm.2) (.undef _))
  have he:(a.eval v).cells.size=P.cellsOf ty:=by rw [← Pn.1,Po]
  simp [execOp,ho,Instr.storeAt,Instr.sureAddr,hva,storeVar,cj hk,he,Pt]
theorem lZ {cs:List D} (h:∀(M:MM) (w:World) (a:Act),(∀x∈o.op.operands,bz M (ρ x) (a.eval x))→∃vs ty,(execOp a.eval o).run P w= .ok (.value (.pointer (some ⟨w.heap.size,0,none⟩))) (w.alloc (.cells vs ty))∧bV M cs vs):
  dF P o ρ (.new (.box cs) fun id=> .ptr false id 0):=by
 intro w0 M own σ w a id hw hr Pp next Q hn
 obtain ⟨vs,ty,h1,h2⟩:=h M w a hr
 have k:=hw.nR Pp.1 Pp.2 ty (Nat.le_of_eq h2.1) h2.2
 exact cG h1 (hn _ _ _ _ (MM.dh Pp.1) ⟨fun j hj=>by simp [MM.bk,hj],fun _ _=>rfl⟩ k (.ptr false (by simp [MM.bk])))
theorem Ia {e:TypeId} {x:Operand} {cs:List D} (ho:o.op= .box e x) (hx:(ρ x).cells=some cs):dF P o ρ (.new (.box cs) fun id=> .ptr false id 0):=by
 refine lZ fun M w a hr=>⟨(a.eval x).cells,e,?_,(hr x (by simp [ho,VQ])).cells hx⟩
 simp [execOp,ho,Instr.box,newVar,newRow]
theorem ep {t:TypeId} {d:D} (h:fu P t=some d):∃i v,P.info? t=some i∧i.zero=some v∧d=kQ v:=by
 unfold fu at h
 split at h
 ·rename_i i hi
  split at h
  ·rename_i v hv
   exact ⟨i,v,hi,hv,(VA h).symm⟩
  ·cases h
 ·cases h
theorem DA {e:TypeId} {d:D} {cs:List D} (ho:o.op= .alloc e) (hz:fu P e=some d) (hc:d.cells=some cs):dF P o ρ (.new (.box cs) fun id=> .ptr false id 0):=by
 obtain ⟨i,v,hi,hv,rfl⟩:=ep hz
 refine lZ fun M w a hr=>⟨v.cells,e,?_,(en (M:=M) v).cells hc⟩
 simp [execOp,ho,Instr.alloc,dg hi hv,newVar,newRow]
theorem Bl {e:TypeId} {d:D} (ho:o.op= .alloc e) (hz:fu P e=some d) (h1:CG P e=true):dF P o ρ (.new (.box [.undef]) fun id=> .ptr false id 0):=by
 obtain ⟨i,v,hi,hv,rfl⟩:=ep hz
 have hs:v.cells.size=1:=by
  unfold CG at h1
  rw [hi] at h1
  simp only [hv,VZ] at h1
  exact h1
 refine lZ fun M w a hr=>⟨v.cells,e,?_,hs.symm,fun j d u x y=> ?_⟩
 ·simp [execOp,ho,Instr.alloc,dg hi hv,newVar,newRow]
 ·cases j with
  |zero=>simp at x;subst x;exact .undef u
  |succ j=>simp at x
theorem B8 (l:List Value):∀(cells:Array Value) (off k:Nat),(l.zipIdx k).foldl (fun cs (p:Value×Nat)=>cs.setIfInBounds (off+p.2) p.1) cells=cM cells (off+k) l:=by
 induction l with
 |nil=>intro cells off k;rfl
 |cons x r ih=>intro cells off k;simp [List.zipIdx_cons,cM,ih,Nat.add_assoc]
theorem oD (v cells:Array Value) (off:Nat):v.zipIdx.foldl (fun cs (c,j)=>cs.setIfInBounds (off+j) c) cells=cM cells off v.toList:=by
 rw [← Array.foldl_toList,Array.toList_zipIdx]
 exact B8 v.toList cells off 0
def GP (M:MM):List (Nat×D)→List (Nat×Value)→Prop
  | [],[]=>True
  |(i,d)::r,(j,v)::s=>i=j∧bz M d v∧GP M r s
  |_,_=>False
theorem vm {M:MM} {a:Act} (ps:List (Nat×Operand)) (h:∀p∈ps,bz M (ρ p.2) (a.eval p.2)):GP M (ps.map fun p=>(p.1,ρ p.2)) (ps.map fun p=>(p.1,a.eval p.2)):=by
 induction ps with
 |nil=>trivial
 |cons p r ih=>exact ⟨rfl,h p (by simp),ih fun q hq=>h q (by simp [hq])⟩
theorem s7 {M:MM} (place:Nat→Option (Nat×Nat)):∀(parts:List (Nat×D)) (P2:List (Nat×Value)) (cells cs:List D) (arr:Array Value),GP M parts P2→bV M cells arr→qp place cells parts=some cs→
  ∃arr',Instr.fill place arr P2=some arr'∧bV M cs arr'
 | [],[],cells,cs,arr,_,h,e=>by
  simp only [qp,VI] at e;subst e;exact ⟨arr,rfl,h⟩
 | [],_::_,_,_,_,hp,_,_=>hp.elim
 |_::_,[],_,_,_,hp,_,_=>hp.elim
 |(i,d)::r,(j,v)::s,cells,cs,arr,hp,h,e=>by
  obtain ⟨rfl,hd,hp⟩:=hp
  unfold qp at e
  split at e
  ·rename_i off size vc UU Sf
   split at e
   ·rename_i hb
    rw [VG,VZ,Wy] at hb
    have TT:=hd.cells Sf
    have Po:off+vc.length≤cells.length:=by omega
    obtain ⟨arr',h1,h2⟩:=s7 place r s _ cs _ hp (vn h TT Po) e
    refine ⟨arr',?_,h2⟩
    have e1:v.cells.size=size:=by rw [← TT.1];exact hb.1
    have e2:¬(off+v.cells.size>arr.size):=by rw [← h.1,e1];omega
    rw [Instr.fill,UU]
    simp only [e1,ne_eq,not_true_eq_false,decide_false,Bool.false_or]
    rw [← e1]
    simp only [e2,decide_false,Wj,if_false,oD]
    exact h1
   ·cases e
  ·cases e
theorem pI {α β:Type} (f:α→Sem β) (g:α→β) (l:List α) (h:∀x∈l,∀w,(f x).run P w= .ok (g x) w):∀w,(l.mapM f).run P w= .ok (l.map g) w:=by
 induction l with
 |nil=>intro w;simp
 |cons x r ih=>
  intro w
  simp [List.mapM_cons,h x (by simp),ih fun y hy=>h y (by simp [hy])]
theorem Dz {ty:TypeId} {parts:Array (Nat×Operand)} {d:D} (ho:o.op= .build ty parts) (hb:zt P ty (parts.toList.map fun p=>(p.1,ρ p.2))=some d):dF P o ρ (.pure d):=by
 refine bM fun M w a _ hr=> ?_
 have Q3:=vm (M:=M) (ρ:=ρ) (a:=a) parts.toList (fun p hp=>hr p.2 (by
  simp only [ho,VQ]
  exact List.mem_toArray.2 (List.mem_map.2 ⟨p,hp,rfl⟩)))
 have Tn:(parts.map fun (i,x)=>(i,a.eval x)).toList=parts.toList.map fun p=>(p.1,a.eval p.2):=by simp
 unfold zt at hb
 split at hb
 ·cases hb
 ·rename_i z hz
  obtain ⟨i,v,hi,hv,rfl⟩:=ep hz
  split at hb
  ·cases hb
  ·rename_i zero R3
   have U4:=(en (M:=M) v).cells R3
   split at hb
   ·rename_i fields ht
    split at hb
    ·rename_i PV
     split at hb
     ·rename_i cs Pg
      simp only [VI] at hb
      subst hb
      obtain ⟨arr,h1,h2⟩:=s7 (M:=M) _ _ _ _ _ _ Q3 U4 Pg
      refine ⟨.agg arr,?_,.agg h2.1 h2.2⟩
      have hm:∀w:World,(fields.mapM fun (f:Field)=>(do pure (f.offset,← sizeOf f.type):Sem (Nat×Nat))).run P w= .ok (fields.map fun (f:Field)=>(f.offset,P.cellsOf f.type)) w:=by
       intro w
       rw [Array.mapM_eq_mapM_toList]
       rw [V3] at PV
       have:=pI (P:=P) (fun f:Field=>(do pure (f.offset,← sizeOf f.type):Sem (Nat×Nat))) (fun f=>(f.offset,P.cellsOf f.type)) fields.toList (fun f hf w=>by simp [cj (PV f hf)]) w
       simp only [Sem.run_map,this,VN]
       rw [← Array.toList_map,Array.toArray_toList]
      have UU:(fun (i:Nat)=>(fields.map fun (f:Field)=>(f.offset,P.cellsOf f.type))[i]?)=fun (i:Nat)=>(fields[i]?).map fun (f:Field)=>(f.offset,P.cellsOf f.type):=by
       funext i;simp
      simp only [execOp,ho,Instr.build,VV,dg hi hv,VN,run_underlying ht]
      simp only [hm,VN,Tn,UU,h1,V1]
     ·cases hb
    ·cases hb
   ·rename_i n elem ht
    split at hb
    ·rename_i hk
     split at hb
     ·rename_i cs Pg
      simp only [VI] at hb
      subst hb
      obtain ⟨arr,h1,h2⟩:=s7 (M:=M) _ _ _ _ _ _ Q3 U4 Pg
      refine ⟨.agg arr,?_,.agg h2.1 h2.2⟩
      simp only [execOp,ho,Instr.build,VV,dg hi hv,VN,run_underlying ht,cj hk,Tn,h1,V1]
     ·cases hb
    ·cases hb
   ·cases hb
theorem mq {k k':W3} (h:dT k k'=true):k=k':=by cases k<;>cases k'<;>first|rfl|(simp [dT] at h)
theorem Ib {op:BinOp} {t t':TypeId} {x y:Operand} {d:D} (ho:o.op= .binOp op t x y t')
  (h:∀(M:MM) (w:World) (u v:Value),bz M (ρ x) u→bz M (ρ y) v→∃r,(do eqGuard op t x y u v;binOp op t u v:Sem Value).run P w= .ok r w∧bz M d r):dF P o ρ (.pure d):=by
 refine bM fun M w a _ hr=> ?_
 obtain ⟨r,h1,h2⟩:=h M w _ _ (hr x (by simp [ho,VQ])) (hr y (by simp [ho,VQ]))
 refine ⟨r,?_,h2⟩
 simp only [execOp,ho]
 rw [VV,h1]
 rfl
end
section
variable {ρ':Type} {P:Program} {r:ρ'}
theorem yT {z:Z P} {st:Bool} {op:BinOp} {k:W3} {a b:Int} {K:Z P→D→Option ρ'} (h:yU z st op k a b K=some r) (Q4:op≠ .shl) (UG:op≠ .shr):
  ∃z' d,K z' d=some r∧(z'.c→z.c∧∀(M:MM) (w:World) (t:TypeId) (x y:Operand),∃v,(do eqGuard op t x y (.int k a) (.int k b);binOp op t (.int k a) (.int k b):Sem Value).run P w= .ok v w∧bz M d v):=by
 cases op<;>simp only [yU] at h
 case shl=>exact absurd rfl Q4
 case shr=>exact absurd rfl UG
 case quo=>
  obtain ⟨z',h1,h2⟩:=eL h
  refine ⟨z',_,h1,fun c=>⟨(h2 c).1,fun M w t x y=>⟨_,?_,.int _ _⟩⟩⟩
  have hb:b≠0:=by simpa using (h2 c).2
  simp [eqGuard,binOp,Op.intDiv,hb]
 case rem=>
  obtain ⟨z',h1,h2⟩:=eL h
  refine ⟨z',_,h1,fun c=>⟨(h2 c).1,fun M w t x y=>⟨_,?_,.int _ _⟩⟩⟩
  have hb:b≠0:=by simpa using (h2 c).2
  simp [eqGuard,binOp,Op.intDiv,hb]
 case and=>exact ⟨z,_,h,fun c=>⟨c,fun M w t x y=>⟨.int k _,by rw [eqGuard_at_int];simp only [pure_bind,binOp,ne_eq,not_true_eq_false,if_false];rfl,.int _ _⟩⟩⟩
 case or=>exact ⟨z,_,h,fun c=>⟨c,fun M w t x y=>⟨.int k _,by rw [eqGuard_at_int];simp only [pure_bind,binOp,ne_eq,not_true_eq_false,if_false];rfl,.int _ _⟩⟩⟩
 case xor=>exact ⟨z,_,h,fun c=>⟨c,fun M w t x y=>⟨.int k _,by rw [eqGuard_at_int];simp only [pure_bind,binOp,ne_eq,not_true_eq_false,if_false];rfl,.int _ _⟩⟩⟩
 case andNot=>exact ⟨z,_,h,fun c=>⟨c,fun M w t x y=>⟨.int k _,by rw [eqGuard_at_int];simp only [pure_bind,binOp,ne_eq,not_true_eq_false,if_false];rfl,.int _ _⟩⟩⟩
 case add=>exact ⟨z,_,h,fun c=>⟨c,fun M w t x y=>⟨.int k _,by rw [eqGuard_at_int];simp only [pure_bind,binOp,ne_eq,not_true_eq_false,if_false];rfl,.int _ _⟩⟩⟩
 case sub=>exact ⟨z,_,h,fun c=>⟨c,fun M w t x y=>⟨.int k _,by rw [eqGuard_at_int];simp only [pure_bind,binOp,ne_eq,not_true_eq_false,if_false];rfl,.int _ _⟩⟩⟩
 case mul=>exact ⟨z,_,h,fun c=>⟨c,fun M w t x y=>⟨.int k _,by rw [eqGuard_at_int];simp only [pure_bind,binOp,ne_eq,not_true_eq_false,if_false];rfl,.int _ _⟩⟩⟩
 all_goals exact ⟨z,_,h,fun c=>⟨c,fun M w t x y=>⟨.bool _,by rw [eqGuard_at_int];simp only [pure_bind,binOp,ne_eq,not_true_eq_false,if_false];rfl,.bool _⟩⟩⟩
theorem lF {M:MM} :∀ {ks:List LK} {xs:List D} {vs:List Value},eC ks xs=true→xs.length=vs.length→(∀(i:Nat) (d:D) (v:Value),xs[i]? =some d→vs[i]? =some v→bz M d v)→cB ks vs
 | [],[],[],_,_,_=>trivial
 | [],[],_::_,_,h,_=>by simp at h
 | [],_::_,_,h,_,_=>by simp [eC] at h
 |_::_,[],_,h,_,_=>by simp [eC] at h
 |_::_,_::_,[],_,h,_=>by simp at h
 |k::ks,d::ds,v::vs,h,hl,hr=>by
  simp only [eC,VG] at h
  have h0:=hr 0 d v rfl rfl
  refine ⟨?_,lF h.2 (by simpa using hl) fun i d v a b=>hr (i+1) d v (by simpa using a) (by simpa using b)⟩
  have h1:=h.1
  cases k<;>cases d<;>simp only [LK.fits,Wj] at h1<;>cases h0
  ·trivial
  ·exact mq h1
  ·trivial
theorem mK {M:MM} :∀ {ks:List LK} {xs ys:List D} {us vs:List Value},eC ks xs=true→eC ks ys=true→xs.length=us.length→ys.length=vs.length→
  (∀(i:Nat) (d:D) (v:Value),xs[i]? =some d→us[i]? =some v→bz M d v)→(∀(i:Nat) (d:D) (v:Value),ys[i]? =some d→vs[i]? =some v→bz M d v)→cg us vs=aa xs ys
 | [],xs,ys,us,vs,hx,hy,lx,ly,_,_=>by
  cases xs<;>cases ys<;>simp [eC] at hx hy
  cases us<;>cases vs<;>simp at lx ly
  rfl
 |k::ks,xs,ys,us,vs,hx,hy,lx,ly,rx,ry=>by
  cases xs with
  |nil=>simp [eC] at hx
  |cons x xs=>
  cases ys with
  |nil=>simp [eC] at hy
  |cons y ys=>
  cases us with
  |nil=>simp at lx
  |cons u us=>
  cases vs with
  |nil=>simp at ly
  |cons v vs=>
   simp only [eC,VG] at hx hy
   have r1:=rx 0 x u rfl rfl
   have r2:=ry 0 y v rfl rfl
   have ih:=mK hx.2 hy.2 (by simpa using lx) (by simpa using ly) (fun i d v a b=>rx (i+1) d v (by simpa using a) (by simpa using b)) (fun i d v a b=>ry (i+1) d v (by simpa using a) (by simpa using b))
   simp only [cg,aa,ih]
   congr 1
   have h1:=hx.1
   have h2:=hy.1
   cases k<;>cases x<;>simp only [LK.fits,Wj] at h1<;>cases y<;>simp only [LK.fits,Wj] at h2<;>cases r1<;>cases r2<;>rfl
theorem IP {w:World} {t:TypeId} {u v:Value} {b:Bool} (he:binOp .eql t u v=(do pure (.bool (← Op.equal t u v)):Sem Value)) (hn:binOp .neq t u v=(do pure (.bool (!(← Op.equal t u v))):Sem Value))
  (h:(Op.equal t u v).run P w= .ok b w):(binOp .eql t u v).run P w= .ok (.bool b) w∧(binOp .neq t u v).run P w= .ok (.bool (!b)) w:=by
 rw [he,hn,VV,VV,h]
 exact ⟨rfl,rfl⟩
theorem AB {z : Z P} {t : TypeId} {x y : D} {K : Z P → Bool → Option ρ'} (h : KU P z t x y K = some r) :
    ∃z' b,K z' b=some r∧(z'.c→z.c)∧∀(M:MM) (w:World) (u v:Value),bz M x u→bz M y v→
      (∀op px py,(eqGuard op t px py u v).run P w= .ok () w)∧(binOp .eql t u v).run P w= .ok (.bool b) w∧(binOp .neq t u v).run P w= .ok (.bool (!b)) w:=by
  unfold KU at h
  split at h
  ·
    split at h
    · rename_i ht
      refine ⟨z,_,h,id,fun M w u v hu hv=> ?_⟩
      cases hu;cases hv
      exact ⟨fun op px py=>by rw [eqGuard_at_bool];rfl,run_eql_bool w t _ _ ht,run_neq_bool w t _ _ ht⟩
    · cases h
  · rename_i xs ys
    split at h
    · rename_i t' ks hf rest _
      obtain ⟨h1,h2⟩:=bl h
      rw [VG,VG,VZ] at h1
      obtain ⟨ht,hx,hy⟩:=h1
      subst ht
      refine ⟨_,_,h2,id,fun M w u v hu hv=> ?_⟩
      cases hu with
      |agg l1 r1=>
        cases hv with
        |agg l2 r2=>
          rename_i us vs
          have lx:xs.length=us.toList.length:=by simpa using l1
          have ly:ys.length=vs.toList.length:=by simpa using l2
          have e1:=lF (M:=M) hx lx (fun i d v a b=>r1 i d v a (by simpa using b))
          have e2:=lF (M:=M) hy ly (fun i d v a b=>r2 i d v a (by simpa using b))
          have e3:=mK (M:=M) hx hy lx ly (fun i d v a b=>r1 i d v a (by simpa using b)) (fun i d v a b=>r2 i d v a (by simpa using b))
          have e4:=hf.eq us vs w e1 e2
          refine ⟨fun op px py=>run_eqGuard_agg w op t' px py us vs hf.plain,?_,?_⟩
          · rw [run_eql_struct,e4,e3];rfl
          · rw [run_neq_struct,e4,e3];rfl
    · cases h
  all_goals first
    | (split at h
       · rename_i ht
         refine ⟨z,_,h,id,fun M w u v hu hv=> ?_⟩
         cases hu;cases hv
         refine ⟨fun op px py=>by cases op<;>rfl,?_⟩
         refine IP rfl rfl ?_
         show (Op.equalIn (9999+1) t _ _).run P w=_
         unfold Op.equalIn
         simp only [VV,run_underlying ht,VN,V1,Option.isNone_none]
       · cases h)
    |cases h
theorem EN {z:Z P} {st:Bool} {op:BinOp} {t:TypeId} {x y:D} {K:Z P→D→Option ρ'} (h:IW P z st op t x y K=some r):
  ∃z' d,K z' d=some r∧(z'.c→z.c∧∀(M:MM) (w:World) (px py:Operand) (u v:Value),bz M x u→bz M y v→
   ∃q,(do eqGuard op t px py u v;binOp op t u v:Sem Value).run P w= .ok q w∧bz M d q):=by
 unfold IW at h
 split at h
 ·rename_i k a k' b
  split at h
  ·obtain ⟨z',h1,h2⟩:=eL h
   refine ⟨z',_,h1,fun c=>⟨(h2 c).1,fun M w px py u v hu hv=> ?_⟩⟩
   cases hu;cases hv
   have hb:¬b<0:=by have:=(h2 c).2;simp at this;omega
   exact ⟨_,by simp [eqGuard,binOp,Op.shift,hb]<;>rfl,.int _ _⟩
  ·obtain ⟨z',h1,h2⟩:=eL h
   refine ⟨z',_,h1,fun c=>⟨(h2 c).1,fun M w px py u v hu hv=> ?_⟩⟩
   cases hu;cases hv
   have hb:¬b<0:=by have:=(h2 c).2;simp at this;omega
   exact ⟨_,by simp [eqGuard,binOp,Op.shift,hb]<;>rfl,.int _ _⟩
  ·rename_i Q4 UG
   obtain ⟨h1,h2⟩:=bl h
   obtain rfl:=mq h1
   obtain ⟨z',d,h3,h4⟩:=yT h2 Q4 UG
   refine ⟨z',d,h3,fun c=>⟨(h4 c).1,fun M w px py u v hu hv=> ?_⟩⟩
   cases hu;cases hv
   exact (h4 c).2 M w t px py
 ·split at h
  ·refine ⟨z,_,h,fun c=>⟨c,fun M w px py u v hu hv=> ?_⟩⟩
   cases hu;cases hv
   exact ⟨_,by simp [eqGuard,binOp,Op.stringOp]<;>rfl,.bool _⟩
  ·refine ⟨z,_,h,fun c=>⟨c,fun M w px py u v hu hv=> ?_⟩⟩
   cases hu;cases hv
   exact ⟨_,by simp [eqGuard,binOp,Op.stringOp]<;>rfl,.bool _⟩
  ·cases h
 ·split at h
  ·obtain ⟨z',b,h1,h2,h3⟩:=AB h
   refine ⟨z',_,h1,fun c=>⟨h2 c,fun M w px py u v hu hv=> ?_⟩⟩
   obtain ⟨e1,e2,e3⟩:=h3 M w u v hu hv
   exact ⟨_,by rw [VV,e1];exact e2,.bool _⟩
  ·obtain ⟨z',b,h1,h2,h3⟩:=AB h
   refine ⟨z',_,h1,fun c=>⟨h2 c,fun M w px py u v hu hv=> ?_⟩⟩
   obtain ⟨e1,e2,e3⟩:=h3 M w u v hu hv
   exact ⟨_,by rw [VV,e1];exact e3,.bool _⟩
  ·cases h
theorem Fi {op:UnOp} {x:D} {K:D→Option ρ'} (h:Lc op x K=some r):∃d,K d=some r∧∀(M:MM) (w:World) (u:Value),bz M x u→∃v,(Op.unary op u).run P w= .ok v w∧bz M d v:=by
 unfold Lc at h
 split at h
 ·refine ⟨_,h,fun M w u hu=> ?_⟩
  cases hu
  exact ⟨_,by simp [Op.unary,Op.intArith]<;>rfl,by simpa using .int _ _⟩
 ·refine ⟨_,h,fun M w u hu=> ?_⟩
  cases hu
  exact ⟨_,by simp [Op.unary,Op.intBits]<;>rfl,.int _ _⟩
 ·refine ⟨_,h,fun M w u hu=> ?_⟩
  cases hu
  exact ⟨_,by simp [Op.unary]<;>rfl,.bool _⟩
 ·cases h
end
theorem ee {a b:W3} (h:dT a b=true):a=b:=by cases a<;>cases b<;>first|rfl|(simp [dT] at h)
theorem mb {k:W3} :∀ {es:List (Int×D)} {l:List MapEntry},km k es l→es.length=l.length
 | [],[],_=>rfl
 | [],_::_,h=>h.elim
 |(_,_)::_,[],h=>h.elim
 |(n,d)::r,e::s,h=>by simp [mb h.2.2]
theorem oX:hP [] 0:=⟨rfl,fun i e h=>by simp at h⟩
theorem gh {l:List MapEntry} {c j:Nat} {f:MapEntry→MapEntry} (hf:∀e,(f e).born=e.born) (h:hP l c):hP (l.modify j f) c:=by
 refine ⟨by rw [List.length_modify];exact h.1,fun i e he=> ?_⟩
 rw [List.getElem?_modify] at he
 cases hl:l[i]? with
 |none=>rw [hl] at he;cases he
 |some e0=>
  rw [hl] at he
  have h0:=h.2 i e0 hl
  simp only [Option.map_eq_map,WK,VI] at he
  split at he
  ·rw [← he,hf];exact h0
  ·rw [← he];exact h0
theorem hB {l:List MapEntry} {c:Nat} {k v:Value} (h:hP l c):hP (l++ [⟨k,v,c⟩]) (c+1):=by
 refine ⟨by simp [h.1],fun i e he=> ?_⟩
 rw [Wz] at he
 split at he
 ·exact h.2 i e he
 ·rename_i hi
  have:i=l.length:=by
   rcases Nat.lt_trichotomy i l.length with q|q|q
   ·exact absurd q hi
   ·exact q
   ·rw [VO (by simp;omega)] at he;cases he
  subst this
  simp only [Nat.sub_self,Wt,VI] at he
  rw [← he];exact h.1
theorem Ct {Pf:Array MapEntry} {c:Nat} (h:hP Pf.toList c) {j:Nat} (hj:j<Pf.size):Pf.findIdx? (fun e=>((e.born:Int)==(j:Int)))=some j:=by
 rw [Array.findIdx?_eq_some_iff_getElem]
 refine ⟨hj,?_,fun i hi=> ?_⟩
 ·have:=h.2 j Pf[j] (by simp [hj])
  simp [this]
 ·have:=h.2 i (Pf[i]'(Nat.lt_trans hi hj)) (by simp [Nat.lt_trans hi hj])
  simp only [this]
  simp
  omega
theorem yJ {Pf:Array MapEntry} {j:Nat} {e0:MapEntry} {kv:Value} (he:Pf[j]? =some e0) (hk:e0.key=kv):(Pf.modify j fun e=> { e with key:=kv })=Pf:=by
 apply Array.ext_getElem?
 intro i
 rw [Array.getElem?_modify]
 split
 ·rename_i Va
  subst Va
  rw [he]
  simp [← hk]
 ·rfl
theorem ik {P:Program} {ty kt et:TypeId} {b:Nat} {Pf:Array MapEntry} {clock j:Nat} {kv v:Value} {e0:MapEntry} {w:World} (t1:P.underlying ty=some (.map kt et)) (cq:w.heap[b]? =some (.map Pf clock))
  (PL:(Instr.checkKey false 10000 kt kv).run P w= .ok () w) (PH:(Wv kt kv Pf.toList).run P w= .ok (some (j,v)) w) (he:Pf[j]? =some e0) (hk:e0.key=kv) (hs:WU 10000 kv kv=true) (hb:e0.born=j):
  (Instr.mapEntry ty (.map (some b)) kv).run P w= .ok (.tuple #[v,.int .i64 j]) (bo w b (.map Pf clock)):=by
 have hm:=yJ he hk
 simp [Instr.mapEntry,run_underlying t1,run_getObj_map w b Pf clock cq,PL,PH,he,hk,Instr.keyThatStays,hs,WM _ cq,bo,hm,goInt,hb]
theorem il {P:Program} {ty kt et:TypeId} {b:Nat} {Pf:Array MapEntry} {clock:Nat} {kv zv:Value} {zi:TypeInfo} {w:World} (t1:P.underlying ty=some (.map kt et)) (cq:w.heap[b]? =some (.map Pf clock))
  (PL:(Instr.checkKey false 10000 kt kv).run P w= .ok () w) (PH:(Wv kt kv Pf.toList).run P w= .ok none w) (hz:P.info? et=some zi) (Sc:zi.zero=some zv):
  (Instr.mapEntry ty (.map (some b)) kv).run P w= .ok (.tuple #[zv,.int .i64 clock]) (bo w b (.map (Pf.push ⟨kv,zv,clock⟩) (clock+1))):=by
 simp [Instr.mapEntry,run_underlying t1,run_getObj_map w b Pf clock cq,PL,PH,WM _ cq,bo,goInt,dg hz Sc]
theorem nC {P:Program} {ty:TypeId} {b:Nat} {Pf:Array MapEntry} {clock j:Nat} {q:W3} {v:Value} {w:World} (cq:w.heap[b]? =some (.map Pf clock)) (hb:hP Pf.toList clock) (hj:j<Pf.size):
  (Instr.entryStore ty (.map (some b)) (.int q j) v).run P w= .ok () (bo w b (.map (Pf.modify j fun e=> { e with val:=v }) clock)):=by
 simp [Instr.entryStore,run_getObj_map w b Pf clock cq,asInt,asIntOf,Ct hb hj,WM _ cq,bo]
theorem qn {k:W3} :∀ {es:List (Int×D)} {l:List MapEntry} (j:Nat) {d:D} {v:Value},km k es l→fC d=some v→km k (xe es j d) (l.modify j fun e=> { e with val:=v })
 | [],[],j,_,_,_,_=>by cases j<;>exact trivial
 | [],_::_,_,_,_,h,_=>h.elim
 |(_,_)::_,[],_,_,_,h,_=>h.elim
 |(n,a)::r,e::s,0,d,v,h,hd=>by
  rw [List.modify_zero_cons]
  exact ⟨h.1,hd,h.2.2⟩
 |(n,a)::r,e::s,j+1,d,v,h,hd=>by
  rw [List.modify_succ_cons]
  exact ⟨h.1,h.2.1,qn j h.2.2 hd⟩
theorem qo {ks:List LK} :∀ {es:List (List D×D)} {l:List MapEntry} (j:Nat) {d:D} {v:Value},jB ks es l→fC d=some v→jB ks (xe es j d) (l.modify j fun e=> { e with val:=v })
 | [],[],j,_,_,_,_=>by cases j<;>exact trivial
 | [],_::_,_,_,_,h,_=>h.elim
 |(_,_)::_,[],_,_,_,h,_=>h.elim
 |(n,a)::r,e::s,0,d,v,h,hd=>by
  rw [List.modify_zero_cons]
  exact ⟨h.1,hd,h.2.2⟩
 |(n,a)::r,e::s,j+1,d,v,h,hd=>by
  rw [List.modify_succ_cons]
  exact ⟨h.1,h.2.1,qo j h.2.2 hd⟩
theorem mc {ks:List LK} :∀ {es:List (List D×D)} {l:List MapEntry},jB ks es l→es.length=l.length
 | [],[],_=>rfl
 | [],_::_,h=>h.elim
 |(_,_)::_,[],h=>h.elim
 |(n,d)::r,e::s,h=>by simp [mc h.2.2]
theorem jJ {M:MM} {d:D} {v:Value} (h:fC d=some v):bz M d v:=by
 cases d<;>simp only [fC,VI,reduceCtorEq] at h<;>subst h
 ·exact .int _ _
 ·exact .bool _
 ·exact .str _
theorem jt {M:MM} {d:D} {v:Value} (h:bz M d v) (hs:fV d=true):fC d=some v:=by
 cases h<;>first|rfl|(simp [fV] at hs)
theorem jX {k q:W3} {n:Int} :∀ {es:List (Int×D)} {l:List MapEntry} (i:Nat),km k es l→
  (∃j v d e,(dC es n=some d∧oj es n=j)∧fC d=some v∧Instr.findNow (.int q) (.int k n) l i=some (some (i+j,v))∧l[j]? =some e∧e.key= .int k n∧∀v2 d2,fC d2=some v2→km k (eH es n d2) (l.modify j fun e=> { e with key:= .int k n,val:=v2 }))∨
  ((dC es n=none∧oj es n=es.length)∧Instr.findNow (.int q) (.int k n) l i=some none∧∀v2 d2 c,fC d2=some v2→km k (eH es n d2) (l++ [⟨.int k n,v2,c⟩]))
 | [],[],i,_=> .inr ⟨⟨rfl,rfl⟩,rfl,fun v2 d2 c h=>⟨rfl,h,trivial⟩⟩
 | [],_::_,_,h=>h.elim
 |(_,_)::_,[],_,h=>h.elim
 |(a,d)::r,e::s,i,h=>by
  obtain ⟨h1,h2,h3⟩:=h
  have PR:Instr.sameNow (.int q) (.int k n) e.key=some (n==a):=by rw [h1];simp [Instr.sameNow]
  by_cases hn:(n==a)=true
  ·left
   have hna:n=a:=by simpa using hn
   refine ⟨0,e.val,d,e,?_,h2,?_,rfl,by rw [h1,hna],?_⟩
   ·simp [dC,oj,hn]
   ·simp [Instr.findNow,PR,hn]
   ·intro v2 d2 hd
    simp only [eH,hn,List.modify_zero_cons]
    exact ⟨rfl,hd,h3⟩
  ·have RY:(n==a)=false:=by simpa using hn
   rcases jX (q:=q) (n:=n) (i+1) h3 with ⟨j,v,d',e',k1,k2,k3,k4,k5,k6⟩|⟨k1,k2,k3⟩
   ·left
    refine ⟨j+1,v,d',e',?_,k2,?_,by simpa using k4,k5,?_⟩
    ·simp [dC,oj,RY,k1]
    ·simp only [Instr.findNow,PR,RY]
     rw [k3,show i+1+j=i+(j+1) by omega]
    ·intro v2 d2 hd
     simp only [eH,RY,List.modify_succ_cons]
     exact ⟨h1,h2,k6 v2 d2 hd⟩
   ·right
    refine ⟨?_,?_,?_⟩
    ·simp [dC,oj,RY,k1]
    ·simp only [Instr.findNow,PR,RY,k2]
    ·intro v2 d2 c hd
     simp only [eH,RY,List.cons_append]
     exact ⟨h1,h2,k3 v2 d2 c hd⟩
section
variable {P:Program} {o:Oper} {ρ:Operand→D}
theorem gY {t:TypeId} {k:W3} {et:TypeId} (h:fZ P t=some (k,et)):∃kt,P.underlying t=some (.map kt et)∧P.underlying kt=some (.int k):=by
 unfold fZ at h
 split at h
 ·rename_i kt et' ht
  split at h
  ·rename_i k' hk
   simp only [VI,Prod.mk.injEq] at h
   obtain ⟨rfl,rfl⟩:=h
   exact ⟨kt,ht,hk⟩
  ·cases h
 ·cases h
theorem eK {kt:TypeId} {q:W3} (hk:P.underlying kt=some (.int q)) (b:Bool) (v:Value) (w:World):(Instr.checkKey b 10000 kt v).run P w= .ok () w:=by
 unfold Instr.checkKey
 simp [run_underlying hk]
theorem yD {ty:TypeId} {r:Option Operand} {k:W3} {et:TypeId} (ho:o.op= .makeMap ty r) (hk:fZ P ty=some (k,et)) (hr:∀x,r=some x→∃q n,ρ x= .int q n):
  dF P o ρ (.new (.mp k []) fun id=> .bA id):=by
 intro w0 M own σ w a id hw Pm Pp next Q hn
 obtain ⟨kt,h1,h2⟩:=gY hk
 have Pt:(execOp a.eval o).run P w= .ok (.value (.map (some w.heap.size))) (w.alloc (.map #[] 0)):=by
  cases r with
  |none=>simp [execOp,ho,Instr.makeMap]
  |some x=>
   obtain ⟨q,n,hx⟩:=hr x rfl
   have:=cu (Pm x (by simp [ho,VQ])) hx
   simp [execOp,ho,Instr.makeMap,run_underlying h1,this,asInt,asIntOf]
 have k:=hw.D5 Pp.1 (o:= .mp k []) rfl ⟨trivial,oX⟩
 exact cG Pt (hn _ _ _ _ (MM.dh Pp.1) ⟨fun j hj=>by simp [MM.bk,hj],fun _ _=>rfl⟩ k (.bA (by simp [MM.bk])))
theorem Bj {ty:TypeId} {m kx v:Operand} {id:Nat} {q:W3} {n:Int} {es:List (Int×D)} {et:TypeId} (ho:o.op= .insert ty m kx v∨o.op= .mapUpdate ty m kx v) (hk:fZ P ty=some (q,et))
  (hm:ρ m= .bA id) (hx:ρ kx= .int q n) (hv:fV (ρ v)=true):dF P o ρ (.dv id (.mp q es) (.mp q (eH es n (ρ v))) .undef):=by
 intro w0 M own σ w a i hw hr Pp next Q hn
 obtain ⟨kt,t1,t2⟩:=gY hk
 obtain ⟨b,Pf,clock,k⟩:=hw.mp id _ (by rw [(Pp:σ id=_)];rfl)
 have Q1:m∈o.op.operands∧kx∈o.op.operands∧v∈o.op.operands:=by rcases ho with h|h<;>simp [h,VQ]
 have Qx:=hr m Q1.1
 have Qq:=cu (hr kx Q1.2.1) hx
 have R9:=jt (hr v Q1.2.2) hv
 rw [hm] at Qx
 generalize hva:a.eval m=va at Qx
 cases Qx with
 |bA hb=>
  rename_i b'
  rw [k.box] at hb
  obtain rfl:=VA hb
  have Ps:(execOp a.eval o).run P w=((Instr.mapUpdate ty (.map (some b)) (.int q n) (a.eval v)).run P w).andThen fun _ w'=> .ok .skip w':=by
   rcases ho with h|h<;>simp [execOp,h,hva,Qq]
  rcases jX (q:=q) (n:=n) 0 k.fits.1 with ⟨j,v0,d0,e0,k1,k2,k3,k4,k5,k6⟩|⟨k1,k2,k3⟩
  ·have Qm:km q (eH es n (ρ v)) (Pf.modify j fun e=> { e with key:= .int q n,val:=a.eval v }).toList:=by
    rw [WQ];exact k6 _ _ R9
   have P0:=hw.hG k clock (o':= .mp q (eH es n (ρ v))) rfl ⟨Qm,by rw [WQ];exact gh (fun _=>rfl) k.fits.2⟩
   refine hY (w':=bo w b (.map (Pf.modify j fun e=> { e with key:= .int q n,val:=a.eval v }) clock)) ?_ (hn undef M own _ (.refl M) ⟨rfl,fun _ _=>rfl⟩ P0 (.undef _))
   rw [Ps]
   have R0:(Wv kt (.int q n) Pf.toList).run P w= .ok (some (j,v0)) w:=by
    simp [Wv,run_underlying t2,k3]
   have SC:Pf[j]? =some e0:=by simpa using k4
   have Uh:WU 10000 (Value.int q n) (Value.int q n)=true:=by simp [WU]
   simp [Instr.mapUpdate,run_underlying t1,run_getObj_map w b Pf clock k.cq,eK t2,R0,SC,k5,Instr.keyThatStays,Uh,WM _ k.cq,bo]
  ·have Qm:km q (eH es n (ρ v)) (Pf.push ⟨.int q n,a.eval v,clock⟩).toList:=by
    rw [Array.toList_push];exact k3 _ _ _ R9
   have P0:=hw.hG k (clock+1) (o':= .mp q (eH es n (ρ v))) rfl ⟨Qm,by rw [Array.toList_push];exact hB k.fits.2⟩
   refine hY (w':=bo w b (.map (Pf.push ⟨.int q n,a.eval v,clock⟩) (clock+1))) ?_ (hn undef M own _ (.refl M) ⟨rfl,fun _ _=>rfl⟩ P0 (.undef _))
   rw [Ps]
   have R0:(Wv kt (.int q n) Pf.toList).run P w= .ok none w:=by
    simp [Wv,run_underlying t2,k2]
   simp [Instr.mapUpdate,run_underlying t1,run_getObj_map w b Pf clock k.cq,eK t2,R0,WM _ k.cq,bo]
theorem yB {ty:TypeId} {m kx:Operand} {ok:Bool} {id:Nat} {q:W3} {n:Int} {es:List (Int×D)} {et:TypeId} {zd:D} {r:Option D} (ho:o.op= .lookup ty m kx ok) (hk:fZ P ty=some (q,et)) (hz:fu P et=some zd)
  (hm:ρ m= .bA id) (hx:ρ kx= .int q n) (hl:dC es n=r):dF P o ρ (.read id (.mp q es) (match ok with|true=> .aQ [r.getD zd,.bool r.isSome]|false=>r.getD zd)):=by
 intro w0 M own σ w a i hw hr Pp next Q hn
 obtain ⟨kt,t1,t2⟩:=gY hk
 obtain ⟨b,Pf,clock,k⟩:=hw.mp id _ (by rw [(Pp:σ id=_)];rfl)
 have Qx:=hr m (by simp [ho,VQ])
 have Qq:=cu (hr kx (by simp [ho,VQ])) hx
 rw [hm] at Qx
 generalize hva:a.eval m=va at Qx
 cases Qx with
 |bA hb=>
  rename_i b'
  rw [k.box] at hb
  obtain rfl:=VA hb
  obtain ⟨zi,zv,hzi,Sc,rfl⟩:=ep hz
  have main:∃v,bz M (r.getD (kQ zv)) v∧(execOp a.eval o).run P w= .ok (.value (if ok then .tuple #[v,.bool r.isSome] else v)) w:=by
   rcases jX (q:=q) (n:=n) 0 k.fits.1 with ⟨j,v0,d0,e0,k1,k2,k3,_⟩|⟨k1,k2,_⟩
   ·rw [k1.1] at hl
    subst hl
    refine ⟨v0,jJ k2,?_⟩
    have R0:(Wv kt (.int q n) Pf.toList).run P w= .ok (some (j,v0)) w:=by
     simp [Wv,run_underlying t2,k3]
    simp [execOp,ho,Instr.lookup,run_underlying t1,hva,Qq,run_getObj_map w b Pf clock k.cq,eK t2,R0]
   ·rw [k1.1] at hl
    subst hl
    refine ⟨zv,en zv,?_⟩
    have R0:(Wv kt (.int q n) Pf.toList).run P w= .ok none w:=by
     simp [Wv,run_underlying t2,k2]
    simp [execOp,ho,Instr.lookup,run_underlying t1,hva,Qq,run_getObj_map w b Pf clock k.cq,eK t2,R0,dg hzi Sc]
  obtain ⟨v,h1,h2⟩:=main
  refine cG h2 (hn _ M own w (.refl M) ⟨rfl,rfl⟩ hw ?_)
  cases ok
  ·exact h1
  ·refine .aQ rfl (fun i d u p q=> ?_)
   match i,p,q with
   |0,p,q=>simp at p q;subst p q;exact h1
   |1,p,q=>simp at p q;subst p q;exact .bool _
   |i+2,p,_=>simp at p
end
theorem jK:∀ {a b:List LK},ju a b=true→a=b
 | [],[],_=>rfl
 | [],_::_,h=>by simp [ju] at h
 |_::_,[],h=>by simp [ju] at h
 |a::x,b::y,h=>by
  simp only [ju,VG] at h
  rw [jK h.2]
  congr 1
  have h1:=h.1
  cases a<;>cases b<;>simp only [LK.same,Wj] at h1
  ·rfl
  ·rw [ee h1]
  ·rfl
theorem pY {M:MM} :∀ {ks:List LK} {cs:List D} {vs:List Value},eC ks cs=true→cs.length=vs.length→(∀(i:Nat) (d:D) (v:Value),cs[i]? =some d→vs[i]? =some v→bz M d v)→gm cs=some vs
 |_,[],[],_,_,_=>rfl
 |_,[],_::_,_,h,_=>by simp at h
 |_,_::_,[],_,h,_=>by simp at h
 | [],_::_,_::_,h,_,_=>by simp [eC] at h
 |k::ks,d::cs,v::vs,h,hl,hr=>by
  simp only [eC,VG] at h
  have h0:=hr 0 d v rfl rfl
  have ih:=pY h.2 (by simpa using hl) fun i d v a b=>hr (i+1) d v (by simpa using a) (by simpa using b)
  have hd:fC d=some v:=by
   have h1:=h.1
   cases k<;>cases d<;>simp only [LK.fits,Wj] at h1<;>cases h0<;>rfl
  simp only [gm,hd,ih]
theorem wG {a b:D} {u v:Value} (ha:fC a=some u) (hb:fC b=some v):ab a b=iT u v:=by
 cases a<;>simp only [fC,VI,reduceCtorEq] at ha<;>subst ha<;>cases b<;>simp only [fC,VI,reduceCtorEq] at hb<;>subst hb<;>rfl
theorem ko:∀ {a b:List D} {u v:List Value},gm a=some u→gm b=some v→aa a b=cg u v
 | [],[],u,v,ha,hb=>by simp only [gm,VI] at ha hb;subst ha hb;rfl
 | [],y::b,u,v,ha,hb=>by
  simp only [gm,VI] at ha hb
  subst ha
  split at hb
  ·obtain rfl:=VA hb;rfl
  ·cases hb
 |x::a,[],u,v,ha,hb=>by
  simp only [gm,VI] at ha hb
  subst hb
  split at ha
  ·obtain rfl:=VA ha;rfl
  ·cases ha
 |x::a,y::b,u,v,ha,hb=>by
  simp only [gm] at ha hb
  split at ha
  ·rename_i u0 ul h1 h2
   obtain rfl:=VA ha
   split at hb
   ·rename_i v0 vl h3 h4
    obtain rfl:=VA hb
    simp only [aa,cg,wG h1 h3,ko h2 h4]
   ·cases hb
  ·cases ha
theorem iL {k:LK} {ks:List LK} (h:kh (k::ks)=true):kh ks=true∧k≠ .str:=by
 cases k
 ·exact ⟨h,by simp⟩
 ·exact ⟨h,by simp⟩
 ·simp [kh] at h
theorem mL:∀ {ks:List LK} {u v:List Value},kh ks=true→cB ks u→cB ks v→cg u v=true→u=v
 | [],[],[],_,_,_,_=>rfl
 | [],_::_,_,_,h,_,_=>h.elim
 | [],[],_::_,_,_,h,_=>h.elim
 |_::_,[],_,_,h,_,_=>h.elim
 |_::_,_::_,[],_,_,h,_=>h.elim
 |k::ks,a::u,b::v,hs,hu,hv,h=>by
  simp only [cg,VG] at h
  rw [mL (iL hs).1 hu.2 hv.2 h.2]
  congr 1
  have h1:=hu.1
  have h2:=hv.1
  have h3:=h.1
  cases k<;>cases a<;>simp only [LK.jA] at h1<;>cases b<;>simp only [LK.jA] at h2
  ·simp only [iT,beq_iff_eq] at h3;rw [h3]
  ·simp only [iT,beq_iff_eq] at h3;rw [h3,← h1,← h2]
  ·exact absurd rfl (iL hs).2
theorem ka:∀ {ks:List LK} {u:List Value} (n:Nat),kh ks=true→cB ks u→∀p∈u.zip u,WU n p.1 p.2=true
 | [],[],_,_,_,p,hp=>by simp at hp
 | [],_::_,_,_,h,_,_=>h.elim
 |_::_,[],_,_,h,_,_=>h.elim
 |k::ks,a::u,n,hs,h,p,hp=>by
  rw [List.zip_cons_cons,List.mem_cons] at hp
  rcases hp with rfl|hp
  ·have h1:=h.1
   have h2:=(iL hs).2
   cases k
   ·cases a<;>simp only [LK.jA] at h1;simp [WU]
   ·cases a<;>simp only [LK.jA] at h1;simp [WU]
   ·exact absurd rfl h2
  ·exact ka n (iL hs).1 h.2 p hp
theorem kU {ks:List LK} {x:Array Value} (hs:kh ks=true) (h:cB ks x.toList):WU 10000 (.agg x) (.agg x)=true:=by
 show WU (9999+1) (.agg x) (.agg x)=true
 simp only [WU,beq_self_eq_true,Bool.true_and,V3]
 exact fun p hp=>ka 9999 hs h p hp
theorem iQ {ks:List LK} :∀ {es:List (List D×D)} {l:List MapEntry},jB ks es l→∀e∈l,∃y:Array Value,e.key= .agg y∧cB ks y.toList
 | [],[],_,e,he=>by simp at he
 | [],_::_,h,_,_=>h.elim
 |(_,_)::_,[],h,_,_=>h.elim
 |(n,d)::r,e::s,h,e',he=>by
  rcases List.mem_cons.mp he with rfl|he
  ·obtain ⟨y,h1,_,h3⟩:=h.1
   exact ⟨y,h1,h3⟩
  ·exact iQ h.2.2 e' he
theorem iR {ks:List LK} {x:Array Value} {cs:List D} (hs:kh ks=true) (hx:gm cs=some x.toList) (hf:cB ks x.toList):∀ {es:List (List D×D)} {l:List MapEntry} (i:Nat),jB ks es l→
  (∃j v d e,(gr es cs=some d∧oi es cs=j)∧fC d=some v∧jC x.toList l i=some (i+j,v)∧l[j]? =some e∧e.key= .agg x∧∀v2 d2,fC d2=some v2→jB ks (fN es cs d2) (l.modify j fun e=> { e with key:= .agg x,val:=v2 }))∨
  ((gr es cs=none∧oi es cs=es.length)∧jC x.toList l i=none∧∀v2 d2 c,fC d2=some v2→jB ks (fN es cs d2) (l++ [⟨.agg x,v2,c⟩]))
 | [],[],i,_=> .inr ⟨⟨rfl,rfl⟩,rfl,fun v2 d2 c h=>⟨⟨x,rfl,hx,hf⟩,h,trivial⟩⟩
 | [],_::_,_,h=>h.elim
 |(_,_)::_,[],_,h=>h.elim
 |(a,d)::r,e::s,i,h=>by
  obtain ⟨⟨y,hk,hy,hfy⟩,h2,h3⟩:=h
  have heq:aa cs a=cg x.toList y.toList:=ko hx hy
  cases hn:cg x.toList y.toList with
  |true=>
   left
   have hxy:x=y:=Array.ext' (mL hs hf hfy hn)
   refine ⟨0,e.val,d,e,?_,h2,?_,rfl,by rw [hk,hxy],?_⟩
   ·simp [gr,oi,heq,hn]
   ·simp [jC,hk,hn]
   ·intro v2 d2 hd
    simp only [fN,heq,hn,List.modify_zero_cons]
    exact ⟨⟨x,rfl,hx,hf⟩,hd,h3⟩
  |false=>
   rcases iR hs hx hf (i+1) h3 with ⟨j,v,d',e',k1,k2,k3,k4,k5,k6⟩|⟨k1,k2,k3⟩
   ·left
    refine ⟨j+1,v,d',e',?_,k2,?_,by simpa using k4,k5,?_⟩
    ·simp [gr,oi,heq,hn,k1]
    ·simp only [jC,hk,hn]
     rw [k3,show i+1+j=i+(j+1) by omega]
    ·intro v2 d2 hd
     simp only [fN,heq,hn,List.modify_succ_cons]
     exact ⟨⟨y,hk,hy,hfy⟩,h2,k6 v2 d2 hd⟩
   ·right
    refine ⟨?_,?_,?_⟩
    ·simp [gr,oi,heq,hn,k1]
    ·simp only [jC,hk,hn,k2]
    ·intro v2 d2 c hd
     simp only [fN,heq,hn,List.cons_append]
     exact ⟨⟨y,hk,hy,hfy⟩,h2,k3 v2 d2 c hd⟩
theorem kM {M:MM} {ks:List LK} {cs:List D} {v:Value} (h:bz M (.agg cs) v) (hf:eC ks cs=true):∃x:Array Value,v= .agg x∧gm cs=some x.toList∧cB ks x.toList:=by
 cases h with
 |agg hl hr=>
  rename_i vs
  have l1:cs.length=vs.toList.length:=by simpa using hl
  have r1:∀(i:Nat) (d:D) (v:Value),cs[i]? =some d→vs.toList[i]? =some v→bz M d v:=fun i d v a b=>hr i d v a (by simpa using b)
  exact ⟨vs,rfl,pY hf l1 r1,lF hf l1 r1⟩
section
variable {P:Program} {o:Oper} {ρ:Operand→D}
theorem gZ {t kt et:TypeId} (h:gd P t=some (kt,et)):P.underlying t=some (.map kt et):=by
 unfold gd at h
 split at h
 ·rename_i kt' et' ht
  obtain ⟨rfl,rfl⟩:=Prod.mk.inj (VA h)
  exact ht
 ·cases h
theorem vT {ty:TypeId} {r:Option Operand} {ks:List LK} {kt et:TypeId} (ho:o.op= .makeMap ty r) (hk:gd P ty=some (kt,et)) (hr:∀x,r=some x→∃q n,ρ x= .int q n):
  dF P o ρ (.new (.mf ks []) fun id=> .bA id):=by
 intro w0 M own σ w a id hw Pm Pp next Q hn
 have h1:=gZ hk
 have Pt:(execOp a.eval o).run P w= .ok (.value (.map (some w.heap.size))) (w.alloc (.map #[] 0)):=by
  cases r with
  |none=>simp [execOp,ho,Instr.makeMap]
  |some x=>
   obtain ⟨q,n,hx⟩:=hr x rfl
   have:=cu (Pm x (by simp [ho,VQ])) hx
   simp [execOp,ho,Instr.makeMap,run_underlying h1,this,asInt,asIntOf]
 have k:=hw.D5 Pp.1 (o:= .mf ks []) rfl ⟨trivial,oX⟩
 exact cG Pt (hn _ _ _ _ (MM.dh Pp.1) ⟨fun j hj=>by simp [MM.bk,hj],fun _ _=>rfl⟩ k (.bA (by simp [MM.bk])))
theorem yA {ty:TypeId} {m kx v:Operand} {id:Nat} {ks:List LK} {cs:List D} {es:List (List D×D)} {kt et:TypeId} (ho:o.op= .insert ty m kx v∨o.op= .mapUpdate ty m kx v) (hk:gd P ty=some (kt,et)) (hK:gy P kt ks)
  (hm:ρ m= .bA id) (hx:ρ kx= .agg cs) (hf:eC ks cs=true) (hv:fV (ρ v)=true):dF P o ρ (.dv id (.mf ks es) (.mf ks (fN es cs (ρ v))) .undef):=by
 intro w0 M own σ w a i hw hr Pp next Q hn
 have t1:=gZ hk
 obtain ⟨b,Pf,clock,k⟩:=hw.mp id _ (by rw [(Pp:σ id=_)];rfl)
 have Q1:m∈o.op.operands∧kx∈o.op.operands∧v∈o.op.operands:=by rcases ho with h|h<;>simp [h,VQ]
 have Qx:=hr m Q1.1
 have Qq:=hr kx Q1.2.1
 rw [hx] at Qq
 obtain ⟨x,ex,sx,fx⟩:=kM Qq hf
 have R9:=jt (hr v Q1.2.2) hv
 rw [hm] at Qx
 generalize hva:a.eval m=va at Qx
 cases Qx with
 |bA hb=>
  rename_i b'
  rw [k.box] at hb
  obtain rfl:=VA hb
  have Ps:(execOp a.eval o).run P w=((Instr.mapUpdate ty (.map (some b)) (.agg x) (a.eval v)).run P w).andThen fun _ w'=> .ok .skip w':=by
   rcases ho with h|h<;>simp [execOp,h,hva,ex]
  have PH:=hK.find w x Pf.toList fx (iQ k.fits.1)
  have PL:=hK.check w false x fx
  rcases iR hK.vX sx fx 0 k.fits.1 with ⟨j,v0,d0,e0,k1,k2,k3,k4,k5,k6⟩|⟨k1,k2,k3⟩
  ·have Qm:jB ks (fN es cs (ρ v)) (Pf.modify j fun e=> { e with key:= .agg x,val:=a.eval v }).toList:=by
    rw [WQ];exact k6 _ _ R9
   have P0:=hw.hG k clock (o':= .mf ks (fN es cs (ρ v))) rfl ⟨Qm,by rw [WQ];exact gh (fun _=>rfl) k.fits.2⟩
   refine hY (w':=bo w b (.map (Pf.modify j fun e=> { e with key:= .agg x,val:=a.eval v }) clock)) ?_ (hn undef M own _ (.refl M) ⟨rfl,fun _ _=>rfl⟩ P0 (.undef _))
   rw [Ps]
   rw [k3,V9] at PH
   have SC:Pf[j]? =some e0:=by simpa using k4
   simp [Instr.mapUpdate,run_underlying t1,run_getObj_map w b Pf clock k.cq,PL,PH,SC,k5,Instr.keyThatStays,kU hK.vX fx,WM _ k.cq,bo]
  ·have Qm:jB ks (fN es cs (ρ v)) (Pf.push ⟨.agg x,a.eval v,clock⟩).toList:=by
    rw [Array.toList_push];exact k3 _ _ _ R9
   have P0:=hw.hG k (clock+1) (o':= .mf ks (fN es cs (ρ v))) rfl ⟨Qm,by rw [Array.toList_push];exact hB k.fits.2⟩
   refine hY (w':=bo w b (.map (Pf.push ⟨.agg x,a.eval v,clock⟩) (clock+1))) ?_ (hn undef M own _ (.refl M) ⟨rfl,fun _ _=>rfl⟩ P0 (.undef _))
   rw [Ps]
   rw [k2] at PH
   simp [Instr.mapUpdate,run_underlying t1,run_getObj_map w b Pf clock k.cq,PL,PH,WM _ k.cq,bo]
theorem vS {ty:TypeId} {m kx:Operand} {ok:Bool} {id:Nat} {ks:List LK} {cs:List D} {es:List (List D×D)} {kt et:TypeId} {zd:D} {r:Option D} (ho:o.op= .lookup ty m kx ok) (hk:gd P ty=some (kt,et)) (hK:gy P kt ks)
  (hz:fu P et=some zd) (hm:ρ m= .bA id) (hx:ρ kx= .agg cs) (hf:eC ks cs=true) (hl:gr es cs=r):dF P o ρ (.read id (.mf ks es) (match ok with|true=> .aQ [r.getD zd,.bool r.isSome]|false=>r.getD zd)):=by
 intro w0 M own σ w a i hw hr Pp next Q hn
 have t1:=gZ hk
 obtain ⟨b,Pf,clock,k⟩:=hw.mp id _ (by rw [(Pp:σ id=_)];rfl)
 have Qx:=hr m (by simp [ho,VQ])
 have Qq:=hr kx (by simp [ho,VQ])
 rw [hx] at Qq
 obtain ⟨x,ex,sx,fx⟩:=kM Qq hf
 rw [hm] at Qx
 generalize hva:a.eval m=va at Qx
 cases Qx with
 |bA hb=>
  rename_i b'
  rw [k.box] at hb
  obtain rfl:=VA hb
  obtain ⟨zi,zv,hzi,Sc,rfl⟩:=ep hz
  have PH:=hK.find w x Pf.toList fx (iQ k.fits.1)
  have PL:=fun em=>hK.check w em x fx
  have main:∃v,bz M (r.getD (kQ zv)) v∧(execOp a.eval o).run P w= .ok (.value (if ok then .tuple #[v,.bool r.isSome] else v)) w:=by
   rcases iR hK.vX sx fx 0 k.fits.1 with ⟨j,v0,d0,e0,k1,k2,k3,_⟩|⟨k1,k2,_⟩
   ·rw [k1.1] at hl
    subst hl
    rw [k3] at PH
    refine ⟨v0,jJ k2,?_⟩
    simp [execOp,ho,Instr.lookup,run_underlying t1,hva,ex,run_getObj_map w b Pf clock k.cq,PL,PH]
   ·rw [k1.1] at hl
    subst hl
    rw [k2] at PH
    refine ⟨zv,en zv,?_⟩
    simp [execOp,ho,Instr.lookup,run_underlying t1,hva,ex,run_getObj_map w b Pf clock k.cq,PL,PH,dg hzi Sc]
  obtain ⟨v,h1,h2⟩:=main
  refine cG h2 (hn _ M own w (.refl M) ⟨rfl,rfl⟩ hw ?_)
  cases ok
  ·exact h1
  ·refine .aQ rfl (fun i d u p q=> ?_)
   match i,p,q with
   |0,p,q=>simp at p q;subst p q;exact h1
   |1,p,q=>simp at p q;subst p q;exact .bool _
   |i+2,p,_=>simp at p
end
section
variable {P:Program} {o:Oper} {ρ:Operand→D}
theorem mZ {M:MM} {d:D} {v:Value} {j j':Nat} (h:bz M d v) (e:j=j'):bz M (.aQ [d,.int .i64 (j:Int)]) (.tuple #[v,.int .i64 (j':Int)]):=by
 subst e
 refine .aQ rfl (fun i d' u p q=> ?_)
 match i,p,q with
 |0,p,q=>simp at p q;subst p q;exact h
 |1,p,q=>simp at p q;subst p q;exact .int _ _
 |i+2,p,_=>simp at p
theorem Bk {ty:TypeId} {m kx:Operand} {id:Nat} {q:W3} {n:Int} {es:List (Int×D)} {et:TypeId} {zd:D} {r:Option D} (ho:o.op= .mapEntry ty m kx) (hk:fZ P ty=some (q,et)) (hz:fu P et=some zd) (Rs:fV zd=true)
  (hm:ρ m= .bA id) (hx:ρ kx= .int q n) (hl:dC es n=r):dF P o ρ (match r with|some d=> .dv id (.mp q es) (.mp q es) (.aQ [d,.int .i64 (oj es n)])|none=> .dv id (.mp q es) (.mp q (eH es n zd)) (.aQ [zd,.int .i64 (oj es n)])):=by
 have main:∀ {w0:de} {M:MM} {own:Nat→Option Nat} {σ:Nat→Ob} {w:World} {a:Act},bH w0 M own σ w→(∀x∈o.op.operands,bz M (ρ x) (a.eval x))→σ id= .mp q es→∃d v Rb w',(execOp a.eval o).run P w= .ok (.value v) w'∧
   bz M (.aQ [d,.int .i64 (oj es n)]) v∧bH w0 M own (dv σ id (.mp q Rb)) w'∧((dC es n=some d∧Rb=es)∨(dC es n=none∧d=zd∧Rb=eH es n zd)):=by
  intro w0 M own σ w a hw hr Pp
  obtain ⟨kt,t1,t2⟩:=gY hk
  obtain ⟨b,Pf,clock,k⟩:=hw.mp id _ (by rw [Pp];rfl)
  have Qx:=hr m (by simp [ho,VQ])
  have Qq:=cu (hr kx (by simp [ho,VQ])) hx
  rw [hm] at Qx
  generalize hva:a.eval m=va at Qx
  cases Qx with
  |bA hb=>
   rename_i b'
   rw [k.box] at hb
   obtain rfl:=VA hb
   obtain ⟨zi,zv,hzi,Sc,rfl⟩:=ep hz
   have Ps:(execOp a.eval o).run P w=((Instr.mapEntry ty (.map (some b)) (.int q n)).run P w).andThen fun v w'=> .ok (.value v) w':=by
    simp [execOp,ho,hva,Qq]
   have Uh:WU 10000 (Value.int q n) (Value.int q n)=true:=by simp [WU]
   rcases jX (q:=q) (n:=n) 0 k.fits.1 with ⟨j,v0,d0,e0,k1,k2,k3,k4,k5,_⟩|⟨k1,k2,k3⟩
   ·have R0:(Wv kt (.int q n) Pf.toList).run P w= .ok (some (j,v0)) w:=by
     simp [Wv,run_underlying t2,k3]
    have SC:Pf[j]? =some e0:=by simpa using k4
    have P0:=hw.hG k clock (o':= .mp q es) rfl k.fits
    refine ⟨d0,_,es,_,?_,mZ (jJ k2) k1.2,P0,.inl ⟨k1.1,rfl⟩⟩
    rw [Ps,ik t1 k.cq (eK t2 _ _ _) R0 SC k5 Uh (k.fits.2.2 j e0 k4)]
    rfl
   ·have R0:(Wv kt (.int q n) Pf.toList).run P w= .ok none w:=by
     simp [Wv,run_underlying t2,k2]
    have SM:=jt (en (M:=M) zv) Rs
    have P0:=hw.hG k (clock+1) (ents':=Pf.push ⟨.int q n,zv,clock⟩) (o':= .mp q (eH es n (kQ zv))) rfl ⟨by rw [Array.toList_push];exact k3 _ _ _ SM,by rw [Array.toList_push];exact hB k.fits.2⟩
    refine ⟨kQ zv,_,_,_,?_,mZ (en zv) (j':=clock) (by rw [k1.2,mb k.fits.1,← k.fits.2.1]),P0,.inr ⟨k1.1,rfl,rfl⟩⟩
    rw [Ps,il t1 k.cq (eK t2 _ _ _) R0 hzi Sc]
    rfl
 cases r with
 |none=>
  intro w0 M own σ w a i hw hr Pp next Q hn
  obtain ⟨d,v,Rb,w',h1,h2,h3,⟨h4,_⟩|⟨_,rfl,rfl⟩⟩:=main hw hr Pp
  ·rw [hl] at h4;cases h4
  ·exact cG h1 (hn _ M own w' (.refl M) ⟨rfl,fun _ _=>rfl⟩ h3 h2)
 |some d=>
  intro w0 M own σ w a i hw hr Pp next Q hn
  obtain ⟨d',v,Rb,w',h1,h2,h3,⟨h4,rfl⟩|⟨h4,_⟩⟩:=main hw hr Pp
  ·rw [hl] at h4
   obtain rfl:=VA h4
   exact cG h1 (hn _ M own w' (.refl M) ⟨rfl,fun _ _=>rfl⟩ h3 h2)
  ·rw [hl] at h4;cases h4
theorem yC {ty:TypeId} {m kx:Operand} {id:Nat} {ks:List LK} {cs:List D} {es:List (List D×D)} {kt et:TypeId} {zd:D} {r:Option D} (ho:o.op= .mapEntry ty m kx) (hk:gd P ty=some (kt,et)) (hK:gy P kt ks) (hz:fu P et=some zd) (Rs:fV zd=true)
  (hm:ρ m= .bA id) (hx:ρ kx= .agg cs) (hf:eC ks cs=true) (hl:gr es cs=r):dF P o ρ (match r with|some d=> .dv id (.mf ks es) (.mf ks es) (.aQ [d,.int .i64 (oi es cs)])|none=> .dv id (.mf ks es) (.mf ks (fN es cs zd)) (.aQ [zd,.int .i64 (oi es cs)])):=by
 have main:∀ {w0:de} {M:MM} {own:Nat→Option Nat} {σ:Nat→Ob} {w:World} {a:Act},bH w0 M own σ w→(∀x∈o.op.operands,bz M (ρ x) (a.eval x))→σ id= .mf ks es→∃d v Rb w',(execOp a.eval o).run P w= .ok (.value v) w'∧
   bz M (.aQ [d,.int .i64 (oi es cs)]) v∧bH w0 M own (dv σ id (.mf ks Rb)) w'∧((gr es cs=some d∧Rb=es)∨(gr es cs=none∧d=zd∧Rb=fN es cs zd)):=by
  intro w0 M own σ w a hw hr Pp
  have t1:=gZ hk
  obtain ⟨b,Pf,clock,k⟩:=hw.mp id _ (by rw [Pp];rfl)
  have Qx:=hr m (by simp [ho,VQ])
  have Qq:=hr kx (by simp [ho,VQ])
  rw [hx] at Qq
  obtain ⟨x,ex,sx,fx⟩:=kM Qq hf
  rw [hm] at Qx
  generalize hva:a.eval m=va at Qx
  cases Qx with
  |bA hb=>
   rename_i b'
   rw [k.box] at hb
   obtain rfl:=VA hb
   obtain ⟨zi,zv,hzi,Sc,rfl⟩:=ep hz
   have Ps:(execOp a.eval o).run P w=((Instr.mapEntry ty (.map (some b)) (.agg x)).run P w).andThen fun v w'=> .ok (.value v) w':=by
    simp [execOp,ho,hva,ex]
   have PH:=hK.find w x Pf.toList fx (iQ k.fits.1)
   have PL:=hK.check w false x fx
   rcases iR hK.vX sx fx 0 k.fits.1 with ⟨j,v0,d0,e0,k1,k2,k3,k4,k5,_⟩|⟨k1,k2,k3⟩
   ·rw [k3,V9] at PH
    have SC:Pf[j]? =some e0:=by simpa using k4
    have P0:=hw.hG k clock (o':= .mf ks es) rfl k.fits
    refine ⟨d0,_,es,_,?_,mZ (jJ k2) k1.2,P0,.inl ⟨k1.1,rfl⟩⟩
    rw [Ps,ik t1 k.cq PL PH SC k5 (kU hK.vX fx) (k.fits.2.2 j e0 k4)]
    rfl
   ·rw [k2] at PH
    have SM:=jt (en (M:=M) zv) Rs
    have P0:=hw.hG k (clock+1) (ents':=Pf.push ⟨.agg x,zv,clock⟩) (o':= .mf ks (fN es cs (kQ zv))) rfl ⟨by rw [Array.toList_push];exact k3 _ _ _ SM,by rw [Array.toList_push];exact hB k.fits.2⟩
    refine ⟨kQ zv,_,_,_,?_,mZ (en zv) (j':=clock) (by rw [k1.2,mc k.fits.1,← k.fits.2.1]),P0,.inr ⟨k1.1,rfl,rfl⟩⟩
    rw [Ps,il t1 k.cq PL PH hzi Sc]
    rfl
 cases r with
 |none=>
  intro w0 M own σ w a i hw hr Pp next Q hn
  obtain ⟨d,v,Rb,w',h1,h2,h3,⟨h4,_⟩|⟨_,rfl,rfl⟩⟩:=main hw hr Pp
  ·rw [hl] at h4;cases h4
  ·exact cG h1 (hn _ M own w' (.refl M) ⟨rfl,fun _ _=>rfl⟩ h3 h2)
 |some d=>
  intro w0 M own σ w a i hw hr Pp next Q hn
  obtain ⟨d',v,Rb,w',h1,h2,h3,⟨h4,rfl⟩|⟨h4,_⟩⟩:=main hw hr Pp
  ·rw [hl] at h4
   obtain rfl:=VA h4
   exact cG h1 (hn _ M own w' (.refl M) ⟨rfl,fun _ _=>rfl⟩ h3 h2)
  ·rw [hl] at h4;cases h4
theorem mC {ty:TypeId} {m kn v:Operand} {id:Nat} {q0:W3} {jj:Int} {ob RB:Ob} (ho:o.op= .entryStore ty m kn v) (hm:ρ m= .bA id) (hx:ρ kn= .int q0 jj) (hv:fV (ρ v)=true) (h0:0≤jj)
  (SN:(∃q es,ob= .mp q es∧RB= .mp q (xe es jj.toNat (ρ v))∧jj.toNat<es.length)∨(∃ks es,ob= .mf ks es∧RB= .mf ks (xe es jj.toNat (ρ v))∧jj.toNat<es.length)):dF P o ρ (.dv id ob RB .undef):=by
 intro w0 M own σ w a i hw hr Pp next Q hn
 have Qx:=hr m (by simp [ho,VQ])
 have Qq:=cu (hr kn (by simp [ho,VQ])) hx
 have R9:=jt (hr v (by simp [ho,VQ])) hv
 rw [hm] at Qx
 obtain ⟨j,rfl⟩:∃j:Nat,jj=j:=⟨jj.toNat,by omega⟩
 have hσ:σ id=ob:=Pp
 have main:∃b Pf clock,M.box id=some b∧w.heap[b]? =some (.map Pf clock)∧hP Pf.toList clock∧j<Pf.size∧bH w0 M own (dv σ id RB) (bo w b (.map (Pf.modify j fun e=> { e with val:=a.eval v }) clock)):=by
  rcases SN with ⟨q,es,rfl,rfl,hj⟩|⟨ks,es,rfl,rfl,hj⟩
  ·obtain ⟨b,Pf,clock,k⟩:=hw.mp id _ (by rw [hσ];rfl)
   have hl:=mb k.fits.1
   refine ⟨b,Pf,clock,k.box,k.cq,k.fits.2,by simp at hl hj;omega,?_⟩
   exact hw.hG k clock (ents':=Pf.modify j fun e=> { e with val:=a.eval v }) rfl ⟨by rw [WQ];exact qn _ k.fits.1 R9,by rw [WQ];exact gh (fun _=>rfl) k.fits.2⟩
  ·obtain ⟨b,Pf,clock,k⟩:=hw.mp id _ (by rw [hσ];rfl)
   have hl:=mc k.fits.1
   refine ⟨b,Pf,clock,k.box,k.cq,k.fits.2,by simp at hl hj;omega,?_⟩
   exact hw.hG k clock (ents':=Pf.modify j fun e=> { e with val:=a.eval v }) rfl ⟨by rw [WQ];exact qo _ k.fits.1 R9,by rw [WQ];exact gh (fun _=>rfl) k.fits.2⟩
 obtain ⟨b,Pf,clock,Ri,hblk,hborn,hj,P0⟩:=main
 generalize hva:a.eval m=va at Qx
 cases Qx with
 |bA hb=>
  rename_i b'
  rw [Ri] at hb
  obtain rfl:=VA hb
  refine hY (w':=bo w b (.map (Pf.modify j fun e=> { e with val:=a.eval v }) clock)) ?_ (hn undef M own _ (.refl M) ⟨rfl,fun _ _=>rfl⟩ P0 (.undef _))
  simp [execOp,ho,hva,Qq,nC hblk hborn hj]
end
section
variable {P:Program} {o:Oper} {ρ:Operand→D}
theorem pP (z:Array Value) (n i:Nat) (v:Value) (h:(madeCells z n)[i]? =some v) (hz:0<z.size):z[i%z.size]? =some v∧i<n:=by
 unfold madeCells at h
 rw [Array.getElem?_map,VU] at h
 obtain ⟨j,hj,rfl⟩:=h
 rw [Array.getElem?_eq_some_iff] at hj
 obtain ⟨h1,h2⟩:=hj
 rw [Array.getElem_range] at h2
 subst h2
 rw [Array.size_range] at h1
 have hm:=Nat.mod_lt i hz
 refine ⟨?_,h1⟩
 rw [getElem!_pos z (i%z.size) hm,Array.getElem?_eq_getElem hm]
theorem wA {zc:List D} (hz:0<zc.length):∀(n i:Nat) (d:D),(Vt n zc).flatten[i]? =some d→zc[i%zc.length]? =some d
 |0,i,d,h=>by simp at h
 |n+1,i,d,h=>by
  rw [List.replicate_succ,List.flatten_cons,Wz] at h
  split at h
  ·rename_i hi
   rw [Nat.mod_eq_of_lt hi];exact h
  ·rename_i hi
   have:=wA hz n _ d h
   rwa [← Nat.mod_eq_sub_mod (by omega)] at this
theorem Dk {zc:List D} (hz:0<zc.length) (n i:Nat) (d:D) (h:(sA n zc)[i]? =some d):zc[i%zc.length]? =some d:=by
 unfold sA at h
 split at h
 ·rename_i d0
  rw [List.getElem?_replicate] at h
  split at h
  ·simp only [VI] at h;subst h;simp [Nat.mod_one]
  ·cases h
 ·exact wA hz n i d h
theorem wz (zc:List D):∀n:Nat,((Vt n zc).flatten).length=n*zc.length
 |0=>by simp
 |n+1=>by rw [List.replicate_succ,List.flatten_cons,Vu,wz zc n,Nat.succ_mul];omega
theorem Dj (zc:List D) (n:Nat):(sA n zc).length=n*zc.length:=by
 unfold sA
 split
 ·simp
 ·exact wz zc n
theorem Ge {ty e:TypeId} {l c:Operand} {q q':W3} {n:Int} {zd:D} {zc:List D} (ho:o.op= .makeSlice ty l c) (ht:P.underlying ty=some (.slice e)) (hk:known P e=true) (hz:fu P e=some zd) (R3:zd.cells=some zc)
  (hlen:zc.length=P.cellsOf e) (Pw:0<zc.length) (TG:P.bytesOf e≤65536) (hl:ρ l= .int q n) (hc:ρ c= .int q' n) (h0:0≤n) (h1:n≤2147483648):
  dF P o ρ (.new (.box (sA n.toNat zc)) fun id=> .bP id (P.cellsOf e) n.toNat):=by
 intro w0 M own σ w a id hw hr Pp next Q hn
 obtain ⟨i,v,hi,hv,rfl⟩:=ep hz
 have r1:=cu (hr l (by simp [ho,VQ])) hl
 have r2:=cu (hr c (by simp [ho,VQ])) hc
 have hb:(i.bytes:Int)≤65536:=by
  have:P.bytesOf e=i.bytes:=by simp [Program.bytesOf,hi]
  omega
 have Po:P.cellsOf e=i.size:=by simp [Program.cellsOf,hi]
 have hmul:(i.bytes:Int)*n≤281474976710656:=by
  have:=Int.mul_le_mul hb h1 h0 (by omega:(0:Int)≤65536)
  omega
 have Pt:=run_make (P:=P) w ty e i v ht hi hv q q' n n h0 (Int.le_refl _) hmul (by omega)
 have SM:=(en (M:=M) v).cells R3
 have hvs:v.cells.size=i.size:=by rw [← SM.1,hlen,Po]
 have Pm:bV M (sA n.toNat zc) (madeCells v.cells (n.toNat*i.size)):=by
  refine ⟨by rw [Dj,size_madeCells,hlen,Po],fun j d u p r=> ?_⟩
  obtain ⟨u1,_⟩:=pP _ _ _ _ r (by rw [hvs,← Po,← hlen];exact Pw)
  have u2:=Dk Pw _ _ _ p
  rw [← SM.1] at u1
  exact SM.2 _ d u u2 u1
 have k:=hw.nR Pp.1 Pp.2 e (Nat.le_of_eq Pm.1) Pm.2
 obtain ⟨b1,vs1,ty1,kb⟩:=k.box id (sA n.toNat zc) (aR _ _ _)
 have eb:b1=w.heap.size:=by have:=kb.box;simp only [MM.bk,if_true] at this;exact (VA this).symm
 have RX:vs1.size=n.toNat*i.size:=by
  have h1:=kb.cq
  rw [eb] at h1
  have h2:(w.alloc (.cells (madeCells v.cells (n.toNat*i.size)) e)).heap[w.heap.size]? =some (.cells (madeCells v.cells (n.toNat*i.size)) e (0,0)):=by
   show (w.heap.push _)[w.heap.size]? =_
   simp
  rw [h2] at h1
  have h3:=VA h1
  simp only [Obj.cells.injEq] at h3
  rw [← h3.1,size_madeCells]
 have k2:=k.jZ (aR _ _ _) kb (sz:=P.cellsOf e) (len:=n.toNat) (cap:=n.toNat) (Pp.2 _) (by rw [RX,Po];exact VF _)
 subst eb
 have Qw:(M.bk id w.heap.size).Le ((M.bk id w.heap.size).aV id (P.cellsOf e) (.slice (some ⟨w.heap.size,0,none⟩) n.toNat n.toNat)):=MM.cA (Pp.2 _)
 refine cG (v:= .slice (some ⟨w.heap.size,0,none⟩) n.toNat n.toNat) (w':=w.alloc (.cells (madeCells v.cells (n.toNat*i.size)) e)) ?_ (hn _ _ _ _ ((MM.dh Pp.1).trans Qw) ⟨fun j hj=>by simp [MM.bk,MM.aV,hj],fun j hj=>by funext q;simp [MM.aV,MM.bk,hj]⟩ k2 (.bP (b:=w.heap.size) (by simp [MM.bk,MM.aV]) (by simp [MM.aV]) (VF _)))
 simp only [execOp,ho,r1,r2,VV,Pt,VN,V1]
theorem lW {ty:TypeId} {x ix:Operand} {k:W3} {i:Int} {elem:TypeId} {id sz n:Nat} (ho:o.op= .indexAddr ty x ix) (hi:ρ ix= .int k i) (ht:P.underlying ty=some (.slice elem)) (hk:known P elem=true)
  (Po:P.cellsOf elem=sz) (hb:0≤i∧i<n) (hx:ρ x= .bP id sz n):dF P o ρ (.pure (.ptr true id (i.toNat*sz))):=by
 refine bM fun M w a _ hr=> ?_
 have h1:=hr x (by simp [ho,VQ])
 have h2:=cu (hr ix (by simp [ho,VQ])) hi
 rw [hx] at h1
 generalize hv:a.eval x=v at h1
 cases h1 with
 |bP QW hhx Ph=>
  refine ⟨_,?_,.ptr true QW⟩
  have:i<n:=hb.2
  simp [execOp,ho,Instr.indexAt,h2,asIntOf,run_underlying ht,hv,hb.1,this,cj hk,dK,Po]
theorem lV {ty:TypeId} {x ix:Operand} {k:W3} {i:Int} {elem:TypeId} {id off sz n:Nat} {cp:Option Nat} (ho:o.op= .indexAddr ty x ix) (hi:ρ ix= .int k i) (ht:P.underlying ty=some (.slice elem)) (hk:known P elem=true)
  (Po:P.cellsOf elem=sz) (hb:0≤i∧i<n) (hx:ρ x= .sub id off sz n cp):dF P o ρ (.pure (.ptr true id (off+i.toNat*sz))):=by
 refine bM fun M w a _ hr=> ?_
 have h1:=hr x (by simp [ho,VQ])
 have h2:=cu (hr ix (by simp [ho,VQ])) hi
 rw [hx] at h1
 generalize hv:a.eval x=v at h1
 cases h1 with
 |sub QW hc hp QE=>
  obtain rfl:=QE (by omega)
  refine ⟨_,?_,.ptr true QW⟩
  have:i<n:=hb.2
  simp [execOp,ho,Instr.indexAt,h2,asIntOf,run_underlying ht,hv,hb.1,this,cj hk,dK,Po]
end
theorem bz.A1 {M:MM} {o:jn} {sz:Nat} {xs:List D} {a:Option Addr} {len cap:Nat} (h:bz M (.aq o sz xs) (.slice a len cap)) (l hh m:Nat) (h1:l≤hh) (h2:hh≤len) (h3:hh≤m) (_h4:m≤cap) (o':jn)
  (Qz:o'= .no∨(o'= .tight∧m=hh)):bz M (.aq o' sz ((xs.take hh).drop l)) (.slice (if m=l then a else a.map (·.add (l*sz))) (hh - l) (m - l)):=by
 cases h with
 |aq b off vs hl Ph ha Po hc hr Pr ho=>
  have P5:∀i x,((xs.take hh).drop l)[i]? =some x→xs[l+i]? =some x∧l+i<hh:=by
   intro i x hx
   rw [List.getElem?_drop,WX] at hx
   split at hx
   ·exact ⟨hx,by assumption⟩
   ·cases hx
  refine .aq b (off+l*sz) (fun i j=>vs (l+i) j) (by simp;omega) (by omega) ?_ ?_ ?_ ?_ ?_ ?_
  ·intro Px
   have Pd:l<hh:=by
    rcases VS l hh with h|h
    ·exact h
    ·exact absurd (List.drop_eq_nil_of_le (by simp;omega)) Px
   have:xs≠ []:=fun e=>by subst e;simp at hl;omega
   rw [if_neg (by omega),ha this]
   simp [dK]
  ·intro i x hx;exact Po _ x (P5 i x hx).1
  ·intro i x cs j c hx Pg hj
   have:=hc _ x cs j c (P5 i x hx).1 Pg hj
   rw [WD] at this
   rw [show off+l*sz+i*sz+j=off+(l*sz+i*sz)+j by omega]
   exact this
  ·intro i x cs j c hx Pg hj;exact hr _ x cs j c (P5 i x hx).1 Pg hj
  ·intro i x cs c hx Pg hj;exact Pr _ x cs c (P5 i x hx).1 Pg hj
  ·rcases Qz with rfl|⟨rfl,rfl⟩
   ·trivial
   ·rfl
section
variable {ρ':Type} {P:Program} {r:ρ'}
theorem bN {k:W3} {i:Int} {y:Nat} {code:BoundsCode} (h:0≤i∧i≤y) (w:World):(Instr.sliceBound (.int k i) y code).run P w= .ok i.toNat w:=by
 simp [Instr.sliceBound,asIntOf,h]
def zI:Option Int→Option Value→Prop
  |none,v=>v=none
  |some n,v=> ∃k,v=some (.int k n)
theorem xb {z:Z P} {o:jn} {sz:Nat} {xs:List D} {lo hi mx:Option Int} {K:Z P→D→Option ρ'} (h:xd z o sz xs lo hi mx K=some r):
  ∃z' d,K z' d=some r∧(z'.c→z.c∧∀(M:MM) (w:World) (t e:TypeId) (u:Value) (lv hv mv:Option Value),P.underlying t=some (.slice e)→known P e=true→P.cellsOf e=sz→bz M (.aq o sz xs) u→
   zI lo lv→zI hi hv→zI mx mv→
   ∃v,(Instr.sliceAt t u lv hv mv).run P w= .ok v w∧bz M d v):=by
 have run:∀ {w:World} {t e:TypeId} {a:Option Addr} {len cap:Nat} {lv hv mv:Option Value} {l hh m:Nat},P.underlying t=some (.slice e)→known P e=true→P.cellsOf e=sz→
   (Wa true len cap lv hv mv).run P w= .ok (l,hh,m) w→(Instr.sliceAt t (.slice a len cap) lv hv mv).run P w= .ok (.slice (if m=l then a else a.map (·.add (l*sz))) (hh - l) (m - l)) w:=by
  intro w t e a len cap lv hv mv l hh m ht hk hs hb
  simp only [Instr.sliceAt,VV,run_underlying ht,VN,Instr.slice,hb,cj hk,hs,V1]
 unfold xd at h
 split at h
 ·refine ⟨z,_,h,fun c=>⟨c,fun M w t e u lv hv mv ht hk hs hu e1 e2 e3=> ?_⟩⟩
  obtain rfl:=e1
  obtain rfl:=e2
  obtain rfl:=e3
  cases hu with
  |aq b off vs hl Ph ha Po hc hr Pr ho=>
   rename_i a len cap
   have hb:(Wa true len cap none none none).run P w= .ok (0,len,cap) w:=by simp [Wa]
   refine ⟨_,run ht hk hs hb,?_⟩
   have Pm:bz M (.aq o sz xs) (.slice a len cap):= .aq b off vs hl Ph ha Po hc hr Pr ho
   have hd:(o.aG= .no∨(o.aG= .tight∧cap=len)):=by
    cases o<;>first|exact .inl rfl|exact .inr ⟨rfl,ho⟩
   have:=Pm.A1 0 len cap (by omega) (VF _) Ph (VF _) o.aG hd
   rw [List.take_of_length_le (by omega),WH] at this
   exact this
 ·rename_i l
  obtain ⟨z',h1,h2⟩:=cK h
  refine ⟨z',_,h1,fun c=>⟨(h2 c).1,fun M w t e u lv hv mv ht hk hs hu e1 e2 e3=> ?_⟩⟩
  obtain ⟨k1,rfl⟩:=e1
  obtain rfl:=e2
  obtain rfl:=e3
  have SS:0≤l∧l≤xs.length:=by simpa using (h2 c).2
  cases hu with
  |aq b off vs hl Ph ha Po hc hr Pr ho=>
   rename_i a len cap
   have hb:(Wa true len cap (some (.int k1 l)) none none).run P w= .ok (l.toNat,len,cap) w:=by
    simp [Wa,bN (show 0≤l∧l≤(len:Int) by omega)]
   refine ⟨_,run ht hk hs hb,?_⟩
   have Pm:bz M (.aq o sz xs) (.slice a len cap):= .aq b off vs hl Ph ha Po hc hr Pr ho
   have hd:(o.aG= .no∨(o.aG= .tight∧cap=len)):=by
    cases o<;>first|exact .inl rfl|exact .inr ⟨rfl,ho⟩
   have:=Pm.A1 l.toNat len cap (by omega) (VF _) Ph (VF _) o.aG hd
   rw [List.take_of_length_le (by omega)] at this
   exact this
 ·rename_i hh
  obtain ⟨z',h1,h2⟩:=cK h
  refine ⟨z',_,h1,fun c=>⟨(h2 c).1,fun M w t e u lv hv mv ht hk hs hu e1 e2 e3=> ?_⟩⟩
  obtain ⟨k1,rfl⟩:=e2
  obtain rfl:=e1
  obtain rfl:=e3
  have SS:0≤hh∧hh≤xs.length:=by simpa using (h2 c).2
  cases hu with
  |aq b off vs hl Ph ha Po hc hr Pr ho=>
   rename_i a len cap
   have hb:(Wa true len cap none (some (.int k1 hh)) none).run P w= .ok (0,hh.toNat,cap) w:=by
    simp [Wa,bN (show 0≤hh∧hh≤(cap:Int) by omega)]
   refine ⟨_,run ht hk hs hb,?_⟩
   have Pm:bz M (.aq o sz xs) (.slice a len cap):= .aq b off vs hl Ph ha Po hc hr Pr ho
   have:=Pm.A1 0 hh.toNat cap (by omega) (by omega) (by omega) (VF _) .no (.inl rfl)
   rw [WH] at this
   exact this
 ·rename_i l hh
  obtain ⟨z',h1,h2⟩:=cK h
  refine ⟨z',_,h1,fun c=>⟨(h2 c).1,fun M w t e u lv hv mv ht hk hs hu e1 e2 e3=> ?_⟩⟩
  obtain ⟨k1,rfl⟩:=e1
  obtain ⟨k2,rfl⟩:=e2
  obtain rfl:=e3
  have SS:0≤l∧l≤hh∧hh≤xs.length:=by simpa using (h2 c).2
  cases hu with
  |aq b off vs hl Ph ha Po hc hr Pr ho=>
   rename_i a len cap
   have hb:(Wa true len cap (some (.int k1 l)) (some (.int k2 hh)) none).run P w= .ok (l.toNat,hh.toNat,cap) w:=by
    simp [Wa,bN (show 0≤hh∧hh≤(cap:Int) by omega),bN (show 0≤l∧l≤(hh.toNat:Int) by omega)]
   refine ⟨_,run ht hk hs hb,?_⟩
   have Pm:bz M (.aq o sz xs) (.slice a len cap):= .aq b off vs hl Ph ha Po hc hr Pr ho
   exact Pm.A1 l.toNat hh.toNat cap (by omega) (by omega) (by omega) (VF _) .no (.inl rfl)
 ·rename_i hh m
  obtain ⟨z',h1,h2⟩:=cK h
  refine ⟨z',_,h1,fun c=>⟨(h2 c).1,fun M w t e u lv hv mv ht hk hs hu e1 e2 e3=> ?_⟩⟩
  obtain ⟨k1,rfl⟩:=e2
  obtain ⟨k2,rfl⟩:=e3
  obtain rfl:=e1
  have SS:0≤hh∧hh≤xs.length∧m=hh:=by simpa using (h2 c).2
  obtain ⟨RJ,SZ,rfl⟩:=SS
  cases hu with
  |aq b off vs hl Ph ha Po hc hr Pr ho=>
   rename_i a len cap
   have hb:(Wa true len cap none (some (.int k1 m)) (some (.int k2 m))).run P w= .ok (0,m.toNat,m.toNat) w:=by
    simp [Wa,bN (show 0≤m∧m≤(cap:Int) by omega),bN (show 0≤m∧m≤(m.toNat:Int) by omega)]
   refine ⟨_,run ht hk hs hb,?_⟩
   have Pm:bz M (.aq o sz xs) (.slice a len cap):= .aq b off vs hl Ph ha Po hc hr Pr ho
   have:=Pm.A1 0 m.toNat m.toNat (by omega) (by omega) (by omega) (by omega) .tight (.inr ⟨rfl,rfl⟩)
   rw [WH] at this
   exact this
 ·rename_i l hh m
  obtain ⟨z',h1,h2⟩:=cK h
  refine ⟨z',_,h1,fun c=>⟨(h2 c).1,fun M w t e u lv hv mv ht hk hs hu e1 e2 e3=> ?_⟩⟩
  obtain ⟨k1,rfl⟩:=e1
  obtain ⟨k2,rfl⟩:=e2
  obtain ⟨k3,rfl⟩:=e3
  have SS:0≤l∧l≤hh∧hh≤xs.length∧m=hh:=by simpa using (h2 c).2
  obtain ⟨RJ,SZ,Vo,rfl⟩:=SS
  cases hu with
  |aq b off vs hl Ph ha Po hc hr Pr ho=>
   rename_i a len cap
   have hb:(Wa true len cap (some (.int k1 l)) (some (.int k2 m)) (some (.int k3 m))).run P w= .ok (l.toNat,m.toNat,m.toNat) w:=by
    simp [Wa,bN (show 0≤m∧m≤(cap:Int) by omega),bN (show 0≤m∧m≤(m.toNat:Int) by omega),bN (show 0≤l∧l≤(m.toNat:Int) by omega)]
   refine ⟨_,run ht hk hs hb,?_⟩
   have Pm:bz M (.aq o sz xs) (.slice a len cap):= .aq b off vs hl Ph ha Po hc hr Pr ho
   exact Pm.A1 l.toNat m.toNat m.toNat (by omega) (by omega) (by omega) (by omega) .tight (.inr ⟨rfl,rfl⟩)
 ·cases h
theorem nv {z:Z P} {id off sz n:Nat} {cp:Option Nat} {lo hi mx:Option Int} {K:Z P→D→Option ρ'} (h:CV z id off sz n cp lo hi mx K=some r):
  ∃(z':Z P) (l hh:Nat) (Si:Option Nat),K z' (.sub id (off+l*sz) sz (hh - l) Si)=some r∧(z'.c→z.c∧l≤hh∧hh≤n∧∀(q:Bool) (w:World) (c:Nat) (lv hv mv:Option Value),n≤c→(∀k,cp=some k→c=k)→zI lo lv→zI hi hv→zI mx mv→
   ∃m,hh≤m∧(∀k,Si=some k→m - l=k)∧(Wa q n c lv hv mv).run P w= .ok (l,hh,m) w):=by
 unfold CV at h
 split at h
 ·refine ⟨z,0,n,cp,by simpa using h,fun c=>⟨c,Nat.zero_le _,VF _,fun q w c lv hv mv hc hp e1 e2 e3=> ?_⟩⟩
  obtain rfl:=e1
  obtain rfl:=e2
  obtain rfl:=e3
  exact ⟨c,hc,fun k hk=>by rw [hp k hk];rfl,by simp [Wa]⟩
 ·rename_i l
  obtain ⟨z',h1,h2⟩:=cK h
  refine ⟨z',l.toNat,n,cp.map (· - l.toNat),h1,fun c=> ?_⟩
  have hb:0≤l∧l≤(n:Int):=by simpa using (h2 c).2
  refine ⟨(h2 c).1,by omega,VF _,fun q w c lv hv mv hc hp e1 e2 e3=> ?_⟩
  obtain ⟨k1,rfl⟩:=e1
  obtain rfl:=e2
  obtain rfl:=e3
  refine ⟨c,hc,fun k hk=> ?_,by simp [Wa,bN hb]⟩
  cases cp with
  |none=>cases hk
  |some v=>rw [hp v rfl];simpa using hk
 ·rename_i hh
  obtain ⟨z',h1,h2⟩:=cK h
  refine ⟨z',0,hh.toNat,cp,by simpa using h1,fun c=> ?_⟩
  have hb:0≤hh∧hh≤(n:Int):=by simpa using (h2 c).2
  refine ⟨(h2 c).1,Nat.zero_le _,by omega,fun q w c lv hv mv hc hp e1 e2 e3=> ?_⟩
  obtain ⟨k1,rfl⟩:=e2
  obtain rfl:=e1
  obtain rfl:=e3
  exact ⟨c,by omega,fun k hk=>by rw [hp k hk];rfl,by simp [Wa,bN (show 0≤hh∧hh≤(c:Int) by omega)]⟩
 ·rename_i l hh
  obtain ⟨z',h1,h2⟩:=cK h
  refine ⟨z',l.toNat,hh.toNat,cp.map (· - l.toNat),h1,fun c=> ?_⟩
  have hb:0≤l∧l≤hh∧hh≤(n:Int):=by simpa using (h2 c).2
  refine ⟨(h2 c).1,by omega,by omega,fun q w c lv hv mv hc hp e1 e2 e3=> ?_⟩
  obtain ⟨k1,rfl⟩:=e1
  obtain ⟨k2,rfl⟩:=e2
  obtain rfl:=e3
  refine ⟨c,by omega,fun k hk=> ?_,by simp [Wa,bN (show 0≤hh∧hh≤(c:Int) by omega),bN (show 0≤l∧l≤(hh.toNat:Int) by omega)]⟩
  cases cp with
  |none=>cases hk
  |some v=>rw [hp v rfl];simpa using hk
 ·rename_i hh m
  obtain ⟨z',h1,h2⟩:=cK h
  refine ⟨z',0,hh.toNat,some m.toNat,by simpa using h1,fun c=> ?_⟩
  have hb:0≤hh∧hh≤m∧m≤(n:Int):=by simpa using (h2 c).2
  refine ⟨(h2 c).1,Nat.zero_le _,by omega,fun q w c lv hv mv hc hp e1 e2 e3=> ?_⟩
  obtain ⟨k1,rfl⟩:=e2
  obtain ⟨k2,rfl⟩:=e3
  obtain rfl:=e1
  exact ⟨m.toNat,by omega,fun k hk=>by simpa using hk,by simp [Wa,bN (show 0≤m∧m≤(c:Int) by omega),bN (show 0≤hh∧hh≤(m.toNat:Int) by omega)]⟩
 ·rename_i l hh m
  obtain ⟨z',h1,h2⟩:=cK h
  refine ⟨z',l.toNat,hh.toNat,some (m.toNat - l.toNat),h1,fun c=> ?_⟩
  have hb:0≤l∧l≤hh∧hh≤m∧m≤(n:Int):=by simpa using (h2 c).2
  refine ⟨(h2 c).1,by omega,by omega,fun q w c lv hv mv hc hp e1 e2 e3=> ?_⟩
  obtain ⟨k1,rfl⟩:=e1
  obtain ⟨k2,rfl⟩:=e2
  obtain ⟨k3,rfl⟩:=e3
  exact ⟨m.toNat,by omega,fun k hk=>by simpa using hk,by simp [Wa,bN (show 0≤m∧m≤(c:Int) by omega),bN (show 0≤hh∧hh≤(m.toNat:Int) by omega),bN (show 0≤l∧l≤(hh.toNat:Int) by omega)]⟩
 ·cases h
theorem nG {M:MM} {id off o2 sz n b l hh m:Nat} {Si:Option Nat} (hb:M.box id=some b) (QE:n≠0→o2=off) (h1:l≤hh) (h2:hh≤n) (h3:hh≤m) (hp:∀k,Si=some k→m - l=k):
  bz M (.sub id (off+l*sz) sz (hh - l) Si) (.slice (if m=l then some ⟨b,o2,none⟩ else some ((⟨b,o2,none⟩:Addr).add (l*sz))) (hh - l) (m - l)):=by
 split
 ·exact .sub hb (by omega) hp (fun hn=>by omega)
 ·rw [dK]
  exact .sub hb (by omega) hp (fun hn=>by rw [QE (by omega)])
theorem jb {w:World} {t e:TypeId} {a:Addr} {len cap sz:Nat} {lv hv mv:Option Value} {l hh m:Nat} (ht:P.underlying t=some (.slice e)) (hk:known P e=true) (hs:P.cellsOf e=sz) (hb:(Wa true len cap lv hv mv).run P w= .ok (l,hh,m) w):
  (Instr.sliceAt t (.slice (some a) len cap) lv hv mv).run P w= .ok (.slice (if m=l then some a else some (a.add (l*sz))) (hh - l) (m - l)) w:=by
 simp only [Instr.sliceAt,VV,run_underlying ht,VN,Instr.slice,hb,cj hk,hs,V1,WK]
theorem mQ {w:World} {t e:TypeId} {a:Addr} {n sz:Nat} {lv hv mv:Option Value} {l hh m:Nat} (ht:P.underlying t=some (.array n e)) (hk:known P e=true) (hs:P.cellsOf e=sz) (hb:(Wa false n n lv hv mv).run P w= .ok (l,hh,m) w):
  (Instr.sliceAt t (.pointer (some a)) lv hv mv).run P w= .ok (.slice (if m=l then some a else some (a.add (l*sz))) (hh - l) (m - l)) w:=by
 simp only [Instr.sliceAt,VV,run_underlying ht,VN,Instr.sureAddr,hb,cj hk,hs,V1]
 split<;>rfl
theorem GH {x:D} {K:Int→Option ρ'} (h:idx x K=some r):∃k n,x= .int k n∧K n=some r:=by
 unfold idx at h
 split at h
 ·exact ⟨_,_,rfl,h⟩
 ·cases h
theorem dx {t:List D} {o:Option Operand} {K:Option Int→Option ρ'} (h:fH t o K=some r):∃n,K n=some r∧∀(M:MM) (a:Act),(∀x,o=some x→bz M (bJ t x) (a.eval x))→zI n (o.map a.eval):=by
 unfold fH at h
 split at h
 ·exact ⟨none,h,fun M a _=>rfl⟩
 ·obtain ⟨k,n,hx,hK⟩:=GH h
  refine ⟨some n,hK,fun M a hr=>⟨k,?_⟩⟩
  have:=cu (hr _ rfl) hx
  simp [this]
theorem dr {o:Oper} {ρv:Operand→Value} {c:Call} {b:Builtin} (ho:o.op= .call c) (hc:c.callee= .builtin b) (w:World):
  (execOp ρv o).run P w=(builtin b c.argTypes o.type (c.args.map fun| .const _=>true|_=>false) (c.args.map ρv)).run P w:=by
 simp only [execOp,ho,resolve,hc,VV,V1,VN,invoke]
 rfl
theorem Eg {t:TypeId} {x:D} {K:D→Option ρ'} (h:Iy P t x K=some r):∃d,K d=some r∧∀(M:MM) (w:World) (u:Value) (ts:Array TypeId) (ty:TypeId) (vs:Array Value),bz M x u→ts[0]? =some t→vs[0]? =some u→∃v,(Builtin.len_ ts ty vs).run P w= .ok v w∧bz M d v:=by
 unfold Iy at h
 split at h
 ·rename_i ht
  refine ⟨_,h,fun M w u ts ty vs hu h1 h2=> ?_⟩
  cases hu
  exact ⟨.int .i64 _,by simp [Builtin.len_,h1,h2,run_underlying ht,goInt],.int _ _⟩
 ·rename_i ht
  refine ⟨_,h,fun M w u ts ty vs hu h1 h2=> ?_⟩
  exact ⟨.int .i64 _,by simp [Builtin.len_,h1,h2,run_underlying ht,goInt],.int _ _⟩
 ·rename_i ht
  refine ⟨_,h,fun M w u ts ty vs hu h1 h2=> ?_⟩
  cases hu with
  |aq b off vs' hl Ph ha Po hc hr Pr ho=>exact ⟨.int .i64 _,by simp [Builtin.len_,h1,h2,run_underlying ht,goInt];omega,.int _ _⟩
 ·rename_i ht
  refine ⟨_,h,fun M w u ts ty vs hu h1 h2=> ?_⟩
  cases hu with
  |bP hb hh hc=>exact ⟨.int .i64 _,by simp [Builtin.len_,h1,h2,run_underlying ht,goInt],.int _ _⟩
 ·rename_i ht
  refine ⟨_,h,fun M w u ts ty vs hu h1 h2=> ?_⟩
  cases hu with
  |sub hb hc hp QE=>exact ⟨.int .i64 _,by simp [Builtin.len_,h1,h2,run_underlying ht,goInt],.int _ _⟩
 ·cases h
theorem D9 {x y:D} {K:D→Option ρ'} (h:Iv x y K=some r):∃d,K d=some r∧∀(M:MM) (w:World) (u v:Value) (ts:Array TypeId) (ty:TypeId) (vs:Array Value),bz M x u→bz M y v→vs.toList= [u,v]→∃q,(Builtin.min_ ts ty vs).run P w= .ok q w∧bz M d q:=by
 unfold Iv at h
 split at h
 ·refine ⟨_,h,fun M w u v ts ty vs hu hv h1=> ?_⟩
  cases hu;cases hv
  exact ⟨_,by simp only [Builtin.min_,h1,List.foldlM_cons,List.foldlM_nil,Builtin.min2,pure_bind];rfl,.int _ _⟩
 ·cases h
theorem Ee {x y:D} {K:D→Option ρ'} (h:Iw x y K=some r):∃d,K d=some r∧∀(M:MM) (w:World) (u v:Value) (ts:Array TypeId) (ty:TypeId) (vs:Array Value),bz M x u→bz M y v→vs.toList= [u,v]→∃q,(Builtin.max_ ts ty vs).run P w= .ok q w∧bz M d q:=by
 unfold Iw at h
 split at h
 ·refine ⟨_,h,fun M w u v ts ty vs hu hv h1=> ?_⟩
  cases hu;cases hv
  exact ⟨_,by simp only [Builtin.max_,h1,List.foldlM_cons,List.foldlM_nil,Builtin.max2,pure_bind];rfl,.int _ _⟩
 ·cases h
end
structure eO (M:MM) (sz:Nat) (xs:List D) (arr:Array Value):Prop where
  len:xs.length*sz≤arr.size
  elem:∀(i:Nat) (x:D),xs[i]? =some x→∃cs,x.cells=some cs∧cs.length=sz
  get:∀(i:Nat) (x:D) (cs:List D) (j:Nat) (c:D),xs[i]? =some x→x.cells=some cs→cs[j]? =some c→∃v,arr[i*sz+j]? =some v∧bz M.bare c v
  st:∀(i:Nat) (x:D) (cs:List D) (c:D),xs[i]? =some x→x.cells=some cs→c∈cs→storable c=true
theorem eO.mono {M M':MM} {sz:Nat} {xs:List D} {arr:Array Value} (h:eO M sz xs arr) (le:M.Le M'):eO M' sz xs arr:=
 ⟨h.len,h.elem,fun i x cs j c h1 h2 h3=>let ⟨v,a,b⟩:=h.get i x cs j c h1 h2 h3;⟨v,a,b.mono le.bare⟩,h.st⟩
def MM.lay (M:MM) (b:Nat) (arr:Array Value) (n:Nat):MM:=M.bK b fun o=>if o<n then arr[o]? else none
theorem lG {M:MM} {w wd:World} {arr:Array Value} {ty:TypeId} {n:Nat} (hw:∀b o v,M.cell b o=some v→w.cell? ⟨b,o,none⟩=some v) (hd:wd.heap=w.heap) (hb:Below w.heap.size w wd) (fz:Nat×Nat):
  Ext M w (M.lay w.heap.size arr n) (wd.alloc (.cells arr ty fz)):=by
 have Po:wd.heap.size=w.heap.size:=by rw [hd]
 refine ⟨hb.alloc (by omega) _,?_,?_,?_⟩
 ·intro b o v h
  have:b≠w.heap.size:=fun e=>by rw [e,cR hw (VF _) o] at h;cases h
  simp only [MM.lay,MM.bK,this,if_false];exact h
 ·intro b o v h Pd
  simp only [MM.lay,MM.bK,show b≠w.heap.size by omega,if_false] at h;exact h
 ·intro b o v h
  by_cases e:b=w.heap.size
  ·subst e
   simp only [MM.lay,MM.bK,if_true] at h
   split at h
   ·have hh:(wd.alloc (.cells arr ty fz)).heap[w.heap.size]? =some (.cells arr ty fz):=by
     show (wd.heap.push _)[w.heap.size]? =_
     rw [← Po];simp
    simp only [WE,hh]
    exact h
   ·cases h
  ·simp only [MM.lay,MM.bK,e,if_false] at h
   have h1:=hw b o v h
   have Pd:b<w.heap.size:=World.block_lt_of_cell? w _ h1
   rw [World.cell?_alloc_lt _ _ _ (by simpa [Po] using Pd)]
   simpa [WE,hd] using h1
theorem kZ {M:MM} {b:Nat} {arr:Array Value} {sz:Nat} {xs:List D} {o:jn} {cap n:Nat} (h:eO M sz xs arr) (hM:∀o,M.cell b o=none) (Ph:xs.length≤cap) (hn:xs.length*sz≤n) (ho:(M.lay b arr n).kA o (some ⟨b,0,none⟩) xs.length cap):
  bz (M.lay b arr n) (.aq o sz xs) (.slice (some ⟨b,0,none⟩) xs.length cap):=by
 have le:M.Le (M.lay b arr n):=by
  refine ⟨fun c o v k=> ?_,fun _ _ k=>k,fun _ _ _ k=>k,fun _ k=>k⟩
  have:c≠b:=fun e=>by rw [e,hM o] at k;cases k
  simp only [MM.lay,MM.bK,this,if_false];exact k
 have Pd:∀ {i j:Nat} {x:D} {cs:List D} {c:D},xs[i]? =some x→x.cells=some cs→cs[j]? =some c→i*sz+j<xs.length*sz:=by
  intro i j x cs c h1 h2 h3
  obtain ⟨PM,e1,e2⟩:=h.elem i x h1
  rw [h2] at e1
  obtain rfl:=VA e1
  have hj:j<sz:=by
   rcases VS j cs.length with q|q
   ·omega
   ·simp [VO q] at h3
  have hi:i<xs.length:=by
   rcases VS i xs.length with q|q
   ·exact q
   ·simp [VO q] at h1
  have:(i+1)*sz≤xs.length*sz:=Wo _ hi
  rw [WD] at this
  omega
 refine .aq b 0 (fun i j=>(arr[i*sz+j]?).getD .nilFunc) rfl Ph (fun _=>rfl) h.elem ?_ ?_ h.st ho
 ·intro i x cs j c h1 h2 h3
  obtain ⟨v,hv,_⟩:=h.get i x cs j c h1 h2 h3
  have:=Pd h1 h2 h3
  simp only [MM.lay,MM.bK,if_true,V9,hv,Wk]
  rw [if_pos (by omega)]
 ·intro i x cs j c h1 h2 h3
  obtain ⟨v,hv,hr⟩:=h.get i x cs j c h1 h2 h3
  simp only [hv,Wk]
  exact hr.mono le.bare
theorem nL {ρ':Type} {r:ρ'} {x:D} {k:D→Option ρ'} (h:sC x k=some r):∃y,k y=some r∧(∀(M:MM) (v:Value),bz M x v→bz M.bare y v)∧y.plain=true:=by
 unfold sC at h
 split at h
 ·rename_i hp
  exact ⟨x,h,fun M v hr=>hr.Gr hp,hp⟩
 ·obtain ⟨hc,hk⟩:=bl h
  exact ⟨_,hk,fun M v hr=>hr.lQ hc,lH hc⟩
theorem yy {ρ':Type} {r:ρ'} {x:D} {k:D→Option ρ'} (h:yz x k=some r):∃y,k y=some r∧∀(M:MM) (v:Value),bz M x v→bz M.bare y v:=by
 unfold yz at h
 split at h
 ·rename_i q id off
  refine ⟨_,h,fun M v hr=> ?_⟩
  cases hr with
  |ptr _ hb=>
   rename_i b
   have:=bz.cN (M:=M.bare) false (x:= .agg []) (cs:= []) (off:=off) (b:=b) (base:=0) (fun _=> .nilFunc) rfl (fun j c hj=>by simp at hj) (fun j c hj=>by simp at hj)
   rw [V9] at this
   exact this
 ·refine ⟨_,h,fun M v hr=> ?_⟩
  cases hr with
  |cN _ vs hx hc hr=>exact .cN _ vs hx hc hr
 ·obtain ⟨y,hy,hr,_⟩:=nL h
  exact ⟨y,hy,hr⟩
theorem mA {ρ':Type} {r:ρ'} :∀ {l:List D} {k:List D→Option ρ'},m5 l k=some r→∃l',k l'=some r∧∀(M:MM) (vs:Array Value),bV M l vs→bV M.bare l' vs
 | [],k,h=>⟨[],h,fun M vs hr=>⟨hr.1,fun i d v a=>by simp at a⟩⟩
 |x::l,k,h=>by
  unfold m5 at h
  obtain ⟨y,hy,hr⟩:=yy h
  obtain ⟨l',hk,hl⟩:=mA hy
  refine ⟨y::l',hk,fun M vs hv=> ?_⟩
  have hs:vs.size=l.length+1:=by have:=hv.1;simp at this;omega
  have Tz:bV M l (vs.extract 1 vs.size):=by
   refine ⟨by simp;omega,fun i d v a b=> ?_⟩
   rw [Array.getElem?_extract] at b
   split at b
   ·exact hv.2 (i+1) d v (by simpa using a) (by rw [Nat.add_comm];exact b)
   ·cases b
  have h2:=hl M _ Tz
  refine ⟨by have:=h2.1;simp at this ⊢;omega,fun i d v a b=> ?_⟩
  cases i with
  |zero=>simp at a;subst a;exact hr M v (hv.2 0 x v rfl b)
  |succ i=>
   refine h2.2 i d v (by simpa using a) ?_
   rw [Array.getElem?_extract]
   have:i+1<vs.size:=by
    rcases VS (i+1) vs.size with q|q
    ·exact q
    ·simp [Wb q] at b
   rw [if_pos (by omega),Nat.add_comm]
   exact b
theorem kr {sz i j n:Nat} (hi:i<n) (hj:j<sz):i*sz+j<n*sz:=by
 have:(i+1)*sz≤n*sz:=Wo _ hi
 rw [WD] at this
 omega
theorem HU {sz i i' j j':Nat} (hj:j<sz) (Sa:j'<sz) (h:i≠i'):i*sz+j≠i'*sz+j':=by
 intro e
 rcases Nat.lt_or_gt_of_ne h with q|q
 ·have:=kr q hj;omega
 ·have:=kr q Sa;omega
theorem mY {n i:Nat} {a x:D} (h:(Vt n a)[i]? =some x):i<n∧a=x:=by
 rw [List.getElem?_replicate] at h
 split at h
 ·exact ⟨by assumption,VA h⟩
 ·cases h
section
variable {ρ':Type} {P:Program} {r:ρ'}
theorem kT {size:Nat} :∀ {parts:List (Nat×D)} {xs:List D} {k:List D→Option ρ'},js size xs parts k=some r→
  ∃xs',k xs'=some r∧xs'.length=xs.length∧∀(M:MM) (P2:List (Nat×Value)) (arr:Array Value),GP M parts P2→eO M size xs arr→
   ∃arr',Instr.fill (fun i=>some (i*size,size)) arr P2=some arr'∧eO M size xs' arr'∧arr'.size=arr.size
 | [],xs,k,h=>⟨xs,h,rfl,fun M P2 arr hp hr=>by
   cases P2 with
   |nil=>exact ⟨arr,rfl,hr,rfl⟩
   |cons _ _=>exact hp.elim⟩
 |(i,d)::rest,xs,k,h=>by
  unfold js at h
  obtain ⟨y,hy,Pm,_⟩:=nL h
  split at hy
  ·rename_i vc Sf
   obtain ⟨h1,h2⟩:=bl hy
   rw [VG,VG,VZ,V3] at h1
   obtain ⟨⟨Po,Pd⟩,Pr⟩:=h1
   have Pd:i<xs.length:=Nat.lt_of_succ_le (by simpa [Wx,Wy] using Pd)
   obtain ⟨xs',hk,hl,PV⟩:=kT h2
   refine ⟨xs',hk,by simpa using hl,fun M P2 arr hp hr=> ?_⟩
   cases P2 with
   |nil=>exact hp.elim
   |cons p s=>
    obtain ⟨j,u⟩:=p
    obtain ⟨rfl,hd,hp⟩:=hp
    have Pn:=(Pm M u hd).cells Sf
    have Uz:u.cells.size=size:=by rw [← Pn.1];exact Po
    have hbound:i*size+size≤xs.length*size:=by
     have:(i+1)*size≤xs.length*size:=Wo _ Pd
     rwa [WD,Nat.one_mul] at this
    have PI:i*size+u.cells.toList.length≤arr.size:=by rw [Wg,Uz];exact WG hbound hr.len
    have Qn:eO M size (xs.set i y) (cM arr (i*size) u.cells.toList):=by
     refine ⟨by rw [cT,Vv];exact hr.len,?_,?_,?_⟩
     ·intro k x hx
      by_cases e:i=k
      ·subst e
       rw [List.getElem?_set_self (by simpa using Pd)] at hx
       obtain rfl:=VA hx
       exact ⟨vc,Sf,Po⟩
      ·rw [WJ e] at hx
       exact hr.elem k x hx
     ·intro k x cs j c hx Pg hj
      rw [ef _ _ _ _ PI]
      rw [Wg,Uz]
      by_cases e:i=k
      ·subst e
       rw [List.getElem?_set_self (by simpa using Pd)] at hx
       obtain rfl:=VA hx
       rw [Sf] at Pg
       obtain rfl:=VA Pg
       obtain ⟨v,hv,SR⟩:=Pn.get hj
       have QT:j<size:=by
        rcases VS j vc.length with q|q
        ·omega
        ·simp [VO q] at hj
       rw [if_pos ⟨by omega,by omega⟩,show i*size+j - i*size=j by omega]
       exact ⟨v,by simpa using hv,SR⟩
      ·rw [WJ e] at hx
       obtain ⟨PM,q1,q2⟩:=hr.elem k x hx
       rw [Pg] at q1
       obtain rfl:=VA q1
       have QT:j<size:=by
        rcases VS j cs.length with q|q
        ·omega
        ·simp [VO q] at hj
       rw [if_neg]
       ·exact hr.get k x cs j c hx Pg hj
       ·intro hh
        obtain ⟨m,hm⟩:∃m,k*size+j=i*size+m:=⟨k*size+j - i*size,by omega⟩
        exact HU QT (show m<size by omega) (Ne.symm e) hm
     ·intro k x cs c hx Pg hc
      by_cases e:i=k
      ·subst e
       rw [List.getElem?_set_self (by simpa using Pd)] at hx
       obtain rfl:=VA hx
       rw [Sf] at Pg
       obtain rfl:=VA Pg
       exact Pr c hc
      ·rw [WJ e] at hx
       exact hr.st k x cs c hx Pg hc
    obtain ⟨arr',f1,f2,f3⟩:=PV M s _ hp Qn
    refine ⟨arr',?_,f2,by rw [f3,cT]⟩
    have e2:¬(i*size+size>arr.size):=by have:=hr.len;omega
    rw [Instr.fill]
    simp only [Uz,ne_eq,not_true_eq_false,decide_false,Bool.false_or,e2,Wj,if_false,oD]
    exact f1
  ·cases hy
end
section
variable {P:Program} {o:Oper} {ρ:Operand→D}
theorem zK {M:MM} {d:D} {zc:List D} {v:Value} (hc:d.cells=some zc) (hd:bz M.bare d v) (Pr:∀c∈zc,storable c=true) (len:Nat):
  eO M zc.length (Vt len d) ((Array.range (len*zc.length)).map (v.cells[· %v.cells.size]!)):=by
 have Pn:=hd.cells hc
 refine ⟨by simp,?_,?_,?_⟩
 ·intro i x hx
  obtain ⟨_,rfl⟩:=mY hx
  exact ⟨zc,hc,rfl⟩
 ·intro i x cs j c hx Pg hj
  obtain ⟨hi,rfl⟩:=mY hx
  rw [hc] at Pg
  obtain rfl:=VA Pg
  obtain ⟨u,hu,hru⟩:=Pn.get hj
  have QT:j<zc.length:=by
   rcases VS j zc.length with q|q
   ·exact q
   ·simp [VO q] at hj
  refine ⟨u,?_,hru⟩
  have:=kr hi QT
  simp only [Array.getElem?_map,Array.getElem?_range,this,if_true,WK,VI]
  rw [← Pn.1,Nat.add_comm,Nat.add_mul_mod_self_right,Nat.mod_eq_of_lt QT]
  have Vd:j<v.cells.size:=by rw [← Pn.1];exact QT
  rw [getElem!_pos v.cells j Vd]
  rw [getElem?_pos v.cells j Vd] at hu
  exact VA hu
 ·intro i x cs c hx Pg Rf
  obtain ⟨_,rfl⟩:=mY hx
  rw [hc] at Pg
  obtain rfl:=VA Pg
  exact Pr c Rf
theorem pN {ρ':Type} {r:ρ'} {ty:TypeId} {len:Nat} {parts:Array (Nat×Operand)} {e:TypeId} {d:D} {zc:List D} {k:List D→Option ρ'} (ho:o.op= .buildSlice ty len parts) (ht:P.underlying ty=some (.slice e)) (hz:fu P e=some d) (hc:d.cells=some zc)
  (hk:known P e=true) (Po:zc.length=P.cellsOf e) (Qu:len*P.cellsOf e≤16777216) (Pr:∀c∈zc,storable c=true)
  (h:js (P.cellsOf e) (Vt len d) (parts.toList.map fun p=>(p.1,ρ p.2)) k=some r):
  ∃xs,k xs=some r∧dF P o ρ (.pure (.aq .tight (P.cellsOf e) xs)):=by
 obtain ⟨xs,h1,h2,h3⟩:=kT h
 refine ⟨xs,h1,vQ fun M w a hw hr=> ?_⟩
 have Q3:=vm (M:=M) (ρ:=ρ) (a:=a) parts.toList (fun p hp=>hr p.2 (by
  simp only [ho,VQ]
  exact List.mem_toArray.2 (List.mem_map.2 ⟨p,hp,rfl⟩)))
 have Tn:(parts.map fun (i,x)=>(i,a.eval x)).toList=parts.toList.map fun p=>(p.1,a.eval p.2):=by simp
 obtain ⟨i,v,hi,hv,rfl⟩:=ep hz
 have hlen:xs.length=len:=by rw [h2];simp
 obtain ⟨arr0,hr0,Tv,hrun0⟩:∃arr0:Array Value,eO M (P.cellsOf e) (Vt len (kQ v)) arr0∧arr0.size=len*P.cellsOf e∧
   (if len*P.cellsOf e=0 then pure #[] else do pure (← zeroValue e).cells:Sem (Array Value)).run P w= .ok (if len*P.cellsOf e=0 then #[] else v.cells) w∧
   ((Array.range (len*P.cellsOf e)).map ((if len*P.cellsOf e=0 then #[] else v.cells)[· %(if len*P.cellsOf e=0 then #[] else v.cells).size]!))=arr0:=by
  by_cases RI:len*P.cellsOf e=0
  ·refine ⟨#[],?_,by simp [RI],by simp [RI],by simp [RI]⟩
   rcases Nat.eq_zero_or_pos len with e1|e1
   ·subst e1
    exact ⟨by simp,fun i x hx=>by simp at hx,fun i x cs j c hx=>by simp at hx,fun i x cs c hx=>by simp at hx⟩
   ·have e2:P.cellsOf e=0:=by
     rcases Nat.mul_eq_zero.1 RI with q|q
     ·omega
     ·exact q
    have e3:zc= []:=List.eq_nil_of_length_eq_zero (by omega)
    subst e3
    refine ⟨by simp [e2],fun i x hx=> ?_,fun i x cs j c hx Pg hj=> ?_,fun i x cs c hx Pg Rf=> ?_⟩<;>obtain ⟨_,rfl⟩:=mY hx
    ·exact ⟨[],hc,by simp [e2]⟩
    ·rw [hc] at Pg;obtain rfl:=VA Pg;simp at hj
    ·rw [hc] at Pg;obtain rfl:=VA Pg;simp at Rf
  ·refine ⟨_,?_,?_,by simp [RI,dg hi hv],rfl⟩
   ·rw [if_neg RI,← Po]
    exact zK hc (en v) Pr len
   ·simp
 obtain ⟨arr,hf,Qn,hsa⟩:=h3 M _ _ Q3 hr0
 have hx:=lG (M:=M) (w:=w) (wd:=w) (arr:=arr) (ty:=e) (n:=arr.size) hw rfl (Below.refl _ _) (0,0)
 have hl:=kZ (b:=w.heap.size) (o:= .tight) (cap:=xs.length) (n:=arr.size) Qn (cR hw (VF _)) (VF _) Qn.len rfl
 refine ⟨_,_,_,?_,hx,rfl,rfl,rfl,hl⟩
 simp only [execOp,ho,Instr.buildSlice,VV,run_underlying ht,VN,cj hk]
 rw [if_neg (by omega)]
 have Tj:(newRow e arr).run P w= .ok ⟨w.heap.size,0,none⟩ (w.alloc (.cells arr e)):=by simp [newRow]
 by_cases RI:len*P.cellsOf e=0
 ·have h5:=hrun0.2
  rw [RI] at h5
  simp only [RI,if_true,VV,V1,VN,Tn]
  simp only [if_true] at h5
  rw [h5,hf]
  simp only [VV,Tj,VN,V1,hlen]
 ·have h5:=hrun0.2
  simp only [RI,if_false] at h5
  simp only [RI,if_false,VV,dg hi hv,V1,VN,Tn,h5]
  rw [hf]
  simp only [VV,Tj,VN,V1,hlen]
theorem gw {M:MM} {ow:jn} {sz size:Nat} {xs:List D} {a:Option Addr} {len cap:Nat} (h:bz M (.aq ow sz xs) (.slice a len cap)) (hs:sz=size∨xs= []) {w:World} (hw:∀b o v,M.cell b o=some v→w.cell? ⟨b,o,none⟩=some v):
  ∃arr:Array Value,arr.size=xs.length*size∧eO M size xs arr∧(∀wd:World,(∀a,wd.cell? a=w.cell? a)→(Wc size len (.slice a len cap)).run P wd= .ok arr wd)∧∀v∈arr.toList,v.oneCell'=true:=by
 cases h with
 |aq b off vs hl Ph ha Po hc hr Pr ho=>
  by_cases Px:xs= []
  ·subst Px
   have hlen:len=0:=by simpa using hl.symm
   subst hlen
   refine ⟨#[],by simp,⟨by simp,fun i x hx=>by simp at hx,fun i x cs j c hx=>by simp at hx,fun i x cs c hx=>by simp at hx⟩,fun wd _=> ?_,by simp⟩
   cases a with
   |none=>rfl
   |some ad=>simp [Wc,loadCells,loadCellsFrom]
  ·obtain rfl:sz=size:=hs.resolve_right Px
   obtain rfl:=ha Px
   let arr:Array Value:=((List.range (xs.length*sz)).map fun k=>vs (k / sz) (k%sz)).toArray
   have Pw:∀ {k:Nat},k<xs.length*sz→0<sz:=fun {k} hk=>by
    rcases Nat.eq_zero_or_pos sz with q|q
    ·rw [q] at hk;omega
    ·exact q
   have hdiv:∀ {k:Nat},k<xs.length*sz→k / sz<xs.length∧k%sz<sz∧k / sz*sz+k%sz=k:=fun {k} hk=>by
    have hp:=Pw hk
    refine ⟨(Nat.div_lt_iff_lt_mul hp).2 hk,Nat.mod_lt _ hp,?_⟩
    rw [Nat.mul_comm];exact Nat.div_add_mod k sz
   have RG:∀ {k:Nat},k<xs.length*sz→∃x cs c,xs[k / sz]? =some x∧x.cells=some cs∧cs[k%sz]? =some c:=fun {k} hk=>by
    obtain ⟨h1,h2,h3⟩:=hdiv hk
    have hx:xs[k / sz]? =some xs[k / sz]:=by simp [h1]
    obtain ⟨cs,Pg,hlen⟩:=Po _ _ hx
    exact ⟨_,cs,cs[k%sz]'(by omega),hx,Pg,by simp [show k%sz<cs.length by omega]⟩
   have P5:∀ {k:Nat} {v:Value},arr[k]? =some v→k<xs.length*sz∧v=vs (k / sz) (k%sz):=fun {k v} hk=>by
    simp only [arr,List.getElem?_toArray,VW,VU] at hk
    obtain ⟨x,hx,rfl⟩:=hk
    have Pd:k<xs.length*sz:=by
     rcases VS k (xs.length*sz) with q|q
     ·exact q
     ·rw [VO (by simpa using q)] at hx;cases hx
    rw [List.getElem?_range Pd] at hx
    cases hx
    exact ⟨Pd,rfl⟩
   have Qr:arr.size=xs.length*sz:=by simp [arr]
   refine ⟨arr,Qr,⟨by rw [Qr];exact VF _,Po,?_,Pr⟩,?_,?_⟩
   ·intro i x cs j c hx Pg hj
    obtain ⟨PM,q1,q2⟩:=Po i x hx
    rw [Pg] at q1
    obtain rfl:=VA q1
    have QT:j<sz:=by
     rcases VS j cs.length with q|q
     ·omega
     ·simp [VO q] at hj
    have Ro:i<xs.length:=by
     rcases VS i xs.length with q|q
     ·exact q
     ·simp [VO q] at hx
    have hk:=kr Ro QT
    refine ⟨vs i j,?_,hr i x cs j c hx Pg hj⟩
    simp only [arr,List.getElem?_toArray,VW,List.getElem?_range hk,WK,VI]
    have e1:(i*sz+j) / sz=i:=by
     rw [Nat.add_comm,Nat.add_mul_div_right _ _ (Pw hk),Nat.div_eq_of_lt QT,V9]
    have e2:(i*sz+j)%sz=j:=by
     rw [Nat.add_comm,Nat.add_mul_mod_self_right,Nat.mod_eq_of_lt QT]
    rw [e1,e2]
   ·intro wd Tt
    have:=fE (P:=P) (w:=wd) b off arr (fun k v hk=>by
     rw [Tt]
     obtain ⟨Pd,rfl⟩:=P5 hk
     obtain ⟨x,cs,c,q1,q2,q3⟩:=RG Pd
     obtain ⟨d1,d2,d3⟩:=hdiv Pd
     have:=hw _ _ _ (hc _ x cs _ c q1 q2 q3)
     rw [Nat.add_assoc,d3] at this
     exact this)
    simp only [Wc]
    rw [Qr,hl] at this
    exact this
   ·intro v hv
    obtain ⟨k,hk⟩:=List.mem_iff_getElem?.1 hv
    rw [VX] at hk
    obtain ⟨Pd,rfl⟩:=P5 hk
    obtain ⟨x,cs,c,q1,q2,q3⟩:=RG Pd
    exact iE (hr _ x cs _ c q1 q2 q3) (Pr _ x cs c q1 q2 (V5 q3))
theorem eO.append {M:MM} {size:Nat} {xs ys:List D} {a1 a2:Array Value} (h1:eO M size xs a1) (h2:eO M size ys a2) (hs:a1.size=xs.length*size) (rest:Array Value):eO M size (xs++ys) (a1++a2++rest):=by
 have PS:∀ {i:Nat} {x:D},(xs++ys)[i]? =some x→(i<xs.length∧xs[i]? =some x)∨(xs.length≤i∧ys[i - xs.length]? =some x):=by
  intro i x hx
  rw [Wz] at hx
  split at hx
  ·exact .inl ⟨by assumption,hx⟩
  ·exact .inr ⟨by omega,hx⟩
 refine ⟨?_,?_,?_,?_⟩
 ·have:=h2.len
  simp only [Vu,WA,WD,hs]
  omega
 ·intro i x hx
  rcases PS hx with ⟨_,h⟩|⟨_,h⟩
  ·exact h1.elem i x h
  ·exact h2.elem _ x h
 ·intro i x cs j c hx Pg hj
  rcases PS hx with ⟨_,h⟩|⟨hge,h⟩
  ·obtain ⟨v,hv,hr⟩:=h1.get i x cs j c h Pg hj
   refine ⟨v,?_,hr⟩
   have Pd:i*size+j<a1.size:=by
    rcases VS (i*size+j) a1.size with q|q
    ·exact q
    ·simp [Wb q] at hv
   rw [Array.append_assoc,We Pd]
   exact hv
  ·obtain ⟨v,hv,hr⟩:=h2.get _ x cs j c h Pg hj
   refine ⟨v,?_,hr⟩
   have Pd:(i - xs.length)*size+j<a2.size:=by
    rcases VS ((i - xs.length)*size+j) a2.size with q|q
    ·exact q
    ·simp [Wb q] at hv
   have e:i*size+j=a1.size+((i - xs.length)*size+j):=by
    rw [hs,← Nat.add_assoc,← WD];congr 2;omega
   rw [e,Array.append_assoc,Array.getElem?_append_right (by omega),show a1.size+((i - xs.length)*size+j) - a1.size=(i - xs.length)*size+j by omega,We Pd]
   exact hv
 ·intro i x cs c hx Pg hc
  rcases PS hx with ⟨_,h⟩|⟨_,h⟩
  ·exact h1.st i x cs c h Pg hc
  ·exact h2.st _ x cs c h Pg hc
theorem e9 {st xt Pu rty:TypeId} {e2:TypeId} {ts:Array TypeId} {args:Array Value} {i:TypeInfo} {z:Value} (ht:P.underlying st=some (.slice Pu)) (hx:P.underlying xt=some (.slice e2)) (h0:ts[0]? =some st) (h1:ts[1]? =some xt)
  (hi:P.info? Pu=some i) (hz:i.zero=some z) {a a':Option Addr} {len cap Pk PC:Nat} {w:World} {gq new:Array Value} (g0:args[0]? =some (.slice a len cap)) (g1:args[1]? =some (.slice a' Pk PC))
  (hold:(Wc i.size len (.slice a len cap)).run P w.drew= .ok gq w.drew) (PK:(Wc i.size Pk (.slice a' Pk PC)).run P w= .ok new w) (Ty:(Wc i.size Pk (.slice a' Pk PC)).run P w.drew= .ok new w.drew)
  (hb:i.bytes≤65536) (hn:len+Pk≤2147483648):
  (len+Pk≤cap→(Wf ts rty args).run P w=(do (match a with|some ad=>storeCells (ad.add (len*i.size)) new.toList|none=>pure ());pure (.slice a (len+Pk) cap):Sem Value).run P w)∧
  (cap<len+Pk→∃nc,len+Pk≤nc∧nc≤9223372036854775807∧(Wf ts rty args).run P w= .ok (.slice (some ⟨w.heap.size,0,none⟩) (len+Pk) nc) (w.drew.alloc (.cells (gq++new++WR z.cells (nc - (len+Pk))) Pu))):=by
 constructor
 ·intro Ph
  cases a<;>simp [Wf,h0,h1,g0,g1,run_underlying ht,run_underlying hx,sizeOf,typeInfo,hi,Builtin.lenOf,Ph,PK]
 ·intro Ph
  have PA:(len+Pk)*i.bytes≤140737488355328:=by
   have:=Nat.mul_le_mul hn hb
   omega
  have hg:=growslice_fits Ph PA
  refine ⟨grownCap w (len+Pk) cap Pu,grownCap_ge w _ _ _,WG (grownCap_le_maxLen w _ _ _ (by unfold maxLen;omega)) (by unfold maxLen;omega),?_⟩
  have e1:¬(len+Pk≤cap):=by omega
  have e2:¬(9223372036854775807<(len:Int)+(Pk:Int)∧i.bytes=0):=by omega
  have e3:¬(Builtin.nextslicecap (len+Pk) cap*i.bytes>2^48):=by omega
  have e4:(Question.appendCap (len+Pk) cap Pu).forced=false:=rfl
  have e5:∀x:Array Value,(newRow Pu x).run P w.drew= .ok ⟨w.heap.size,0,none⟩ (w.drew.alloc (.cells x Pu)):=fun x=>by first|(simp [newRow];done)|(simp [newRow];rfl)
  simp [Wf,h0,h1,g0,g1,run_underlying ht,run_underlying hx,sizeOf,typeInfo,hi,Builtin.lenOf,e1,e3,e2,e4,hold,Ty,dg hi hz,e5]
  exact ⟨rfl,rfl⟩
theorem eA {t:TypeId} (h:dJ P t=true):∃i z,P.info? t=some i∧i.zero=some z∧z.cells.size=i.size∧P.cellsOf t=i.size:=by
 unfold dJ at h
 split at h
 ·rename_i i hi
  split at h
  ·rename_i z hz
   exact ⟨i,z,hi,hz,by simpa using h,by simp [Program.cellsOf,hi]⟩
  ·cases h
 ·cases h
theorem gj {sz size:Nat} {xs:List D} (h:mT sz xs size=true):sz=size∨xs= []:=by
 unfold mT at h
 rw [Bool.or_eq_true,VZ,List.isEmpty_iff] at h
 exact h
theorem wR {w:World} {M:MM} (PG:∀b o v,M.cell b o=some v→w.cell? ⟨b,o,none⟩=some v) {st xt Pu rty e2:TypeId} {ts:Array TypeId} {args:Array Value} (ht:P.underlying st=some (.slice Pu)) (hx:P.underlying xt=some (.slice e2)) (h0:ts[0]? =some st) (h1:ts[1]? =some xt)
  (hz:dJ P Pu=true) (PA:P.bytesOf Pu≤65536) {ow RA:jn} {sz Py:Nat} {xs:List D} {u u':Value} (g0:args[0]? =some u) (g1:args[1]? =some u') (hu:bz M (.aq ow sz xs) u) (RN:bz M (.aq RA Py []) u')
  (Po:sz=P.cellsOf Pu∨xs= []) (hn:xs.length≤bn):(Wf ts rty args).run P w= .ok u w:=by
 obtain ⟨i,z,hi,hiz,Rs,Pn⟩:=eA hz
 have PB:i.bytes≤65536:=by simpa [Program.bytesOf,hi] using PA
 cases hu with
 |aq b off vs hl Ph ha Qr hc hr Pr ho=>
  rename_i a len cap
  have Pm:bz M (.aq ow sz xs) (.slice a len cap):= .aq b off vs hl Ph ha Qr hc hr Pr ho
  cases RN with
  |aq b' off' vs' P8 hcap' ha' hsize' QL Rn hst' Qz=>
   rename_i a' Pk PC
   have QN:bz M (.aq RA Py []) (.slice a' Pk PC):= .aq b' off' vs' P8 hcap' ha' hsize' QL Rn hst' Qz
   rw [Pn] at Po
   obtain ⟨gq,os,orow,QJ,_⟩:=gw (P:=P) Pm Po PG
   obtain ⟨new,ns,P1,Pz,PX⟩:=gw (P:=P) QN (Or.inr rfl:Py=i.size∨([]:List D)= []) PG
   have SU:Pk=0:=by simpa using P8.symm
   subst SU
   have Qu:len+0≤2147483648:=by rw [← hl];exact hn
   obtain ⟨r1,_⟩:=e9 (P:=P) (rty:=rty) ht hx h0 h1 hi hiz g0 g1 (QJ w.drew fun _=>rfl) (Pz w fun _=>rfl) (Pz w.drew fun _=>rfl) PB Qu
   have RL:new= #[]:=by
    apply WN;rw [ns];simp
   subst RL
   rw [r1 (by omega)]
   cases a<;>simp [storeCells]
theorem oY {w0:de} {w:World} {M:MM} {own:Nat→Option Nat} {σ:Nat→Ob} (hw:bH w0 M own σ w) {st xt Pu rty e2:TypeId} {ts:Array TypeId} {args:Array Value} (ht:P.underlying st=some (.slice Pu)) (hx:P.underlying xt=some (.slice e2)) (h0:ts[0]? =some st) (h1:ts[1]? =some xt)
  (hz:dJ P Pu=true) (PA:P.bytesOf Pu≤65536) {ow:jn} {sz Pk PC:Nat} {xs ys:List D} {u:Value} {a':Option Addr} {new:Array Value} (g0:args[0]? =some u) (g1:args[1]? =some (.slice a' Pk PC)) (hu:bz M (.aq ow sz xs) u) (P8:ys.length=Pk) (ns:new.size=ys.length*P.cellsOf Pu) (P1:eO M (P.cellsOf Pu) ys new) (Pz:∀wd:World,(∀a,wd.cell? a=w.cell? a)→(Wc (P.cellsOf Pu) Pk (.slice a' Pk PC)).run P wd= .ok new wd) (PX:∀v∈new.toList,v.oneCell'=true)
  (Po:sz=P.cellsOf Pu∨xs= []) (hn:xs.length+ys.length≤bn) {id ver:Nat} (Rc:∀v,ver≤v→M.br id v=none)
  (PI:∀a len cap,u= .slice a len cap→cap=len∨∃b vs ty fz RH P4,a=some ⟨b,0,none⟩∧o8 w0 M own id (P.cellsOf Pu) w len cap b vs ty fz∧σ id= .bg RH P4):
  ∃v M' Pc w',(Wf ts rty args).run P w= .ok v w'∧M.Le M'∧bH w0 M' Pc (dv σ id (.bg ver (P.cellsOf Pu))) w'∧bz M' (.aq (.tok id ver) (P.cellsOf Pu) (xs++ys)) v∧M'.box=M.box∧∀j,j≠id→M'.br j=M.br j:=by
 obtain ⟨i,z,hi,hiz,Rs,Pn⟩:=eA hz
 have PB:i.bytes≤65536:=by simpa [Program.bytesOf,hi] using PA
 cases hu with
 |aq b off vs hl Ph ha Qr hc hr Pr ho=>
  rename_i a len cap
  have Pm:bz M (.aq ow sz xs) (.slice a len cap):= .aq b off vs hl Ph ha Qr hc hr Pr ho
  rw [Pn] at Po ns P1 Pz
  obtain ⟨gq,os,orow,QJ,_⟩:=gw (P:=P) Pm Po hw.cells
  have Qu:len+Pk≤2147483648:=by rw [← hl,← P8];exact hn
  obtain ⟨r1,r2⟩:=e9 (P:=P) (rty:=rty) ht hx h0 h1 hi hiz g0 g1 (QJ w.drew fun _=>rfl) (Pz w fun _=>rfl) (Pz w.drew fun _=>rfl) PB Qu
  rcases VS cap (len+Pk) with Pd|hge
  ·
   obtain ⟨nc,SH,SL,Pt⟩:=r2 Pd
   let arr:=gq++new++WR z.cells (nc - (len+Pk))
   have Qn:eO M i.size (xs++ys) arr:=orow.append P1 os _
   have PN:arr.size=nc*i.size:=by
    simp only [arr,WA,size_zeroCells,os,ns,Rs,hl,P8,← WD]
    congr 1;omega
   have Sl:(xs++ys).length*i.size≤(len+Pk)*i.size:=by rw [Vu,hl,P8];exact VF _
   have Rp:=lG (M:=M) (w:=w) (wd:=w.drew) (arr:=arr) (ty:=Pu) (n:=(len+Pk)*i.size) hw.cells rfl (Below.refl _ _).drew (0,0)
   obtain ⟨QY,Qw⟩:=hw.ext Rp rfl rfl rfl
   have Rd:(w.drew.alloc (.cells arr Pu (0,0))).heap[w.heap.size]? =some (.cells arr Pu (0,0)):=by
    show (w.heap.push _)[w.heap.size]? =_
    simp
   have P9:own w.heap.size=none:=by
    cases e:own w.heap.size with
    |none=>rfl
    |some q=>have:=hw.owned _ _ e;omega
   obtain ⟨Pc,hw3⟩:=QY.kq (id:=id) (ver:=ver) Rc (a:=some ⟨w.heap.size,0,none⟩) (len:=len+Pk) (cap:=nc) i.size
    (.inr ⟨w.heap.size,arr,Pu,(0,0),rfl,hw.below.new,.inl P9,Rd,fun o _ h=>by have:=h.2;simp at this,⟨by rw [PN];exact VF _,SL⟩,fun o ho=>by
     simp only [MM.lay,MM.bK,if_true];rw [if_neg (by omega)]⟩)
   have QS:=MM.cA (M:=M.lay w.heap.size arr ((len+Pk)*i.size)) (id:=id) (ver:=ver) (v:= .slice (some ⟨w.heap.size,0,none⟩) (len+Pk) nc) (Rc ver (VF _))
   refine ⟨_,_,Pc,_,Pt,Qw.trans QS,by rw [Pn];exact hw3,?_,rfl,?_⟩
   ·have hlen:(xs++ys).length=len+Pk:=by rw [Vu,hl,P8]
    have h5:=kZ (M:=M) (b:=w.heap.size) (o:= .no) (cap:=nc) (n:=(len+Pk)*i.size) Qn (cR hw.cells (VF _)) (by omega) Sl trivial
    rw [Pn]
    rw [hlen] at h5
    exact (h5.mono QS).flag _ (by simp [MM.kA,MM.aV])
   ·intro j hj
    funext k
    simp [MM.aV,hj,MM.lay,MM.bK]
  ·have Pt:=r1 hge
   by_cases hy:ys= []
   ·
    subst hy
    have SU:Pk=0:=by simpa using P8.symm
    subst SU
    have RL:new= #[]:=by
     apply WN;rw [ns];simp
    subst RL
    have Rr:(Wf ts rty args).run P w= .ok (.slice a len cap) w:=by
     rw [Pt]
     cases a<;>simp [storeCells]
    have SB:cap=len∨∃b vs ty fz,a=some ⟨b,0,none⟩∧¬w0.X b∧(own b=none∨own b=some id)∧w.heap[b]? =some (.cells vs ty fz)∧jo fz vs.size∧(cap*i.size≤vs.size∧cap≤9223372036854775807)∧∀o,len*i.size≤o→M.cell b o=none:=by
     rcases PI a len cap rfl with q|⟨b,vs,ty,fz,_,_,ha,r,_⟩
     ·exact .inl q
     ·rw [Pn] at r
      exact .inr ⟨b,vs,ty,fz,ha,r.base,.inr r.own,r.cq,r.fz,r.cap,r.none⟩
    obtain ⟨Pc,hw3⟩:=hw.kq (id:=id) (ver:=ver) Rc i.size SB
    have QS:=MM.cA (id:=id) (ver:=ver) (v:= .slice a len cap) (Rc ver (VF _))
    refine ⟨_,_,Pc,w,Rr,QS,by rw [Pn];exact hw3,?_,rfl,?_⟩
    ·rw [Wd,Pn]
     exact ((Pm.resize Po).mono QS).flag _ (by simp [MM.kA,MM.aV])
    ·intro j hj
     funext k
     simp [MM.aV,hj]
   ·
    have Pw:0<Pk:=by
     rw [← P8];exact List.length_pos_iff.2 hy
    rcases PI a len cap rfl with q|⟨b1,vs1,ty1,fz1,RH,P4,UP,r,hσ⟩
    ·omega
    ·rw [Pn] at r
     subst UP
     have R5:new.toList.length=Pk*i.size:=by rw [Wg,ns,P8]
     have Qm:len*i.size+new.toList.length≤vs1.size:=by
      rw [R5,← WD];exact WG (Wo _ hge) r.cap.1
     have Qd:=dG (P:=P) (b:=b1) (off:=len*i.size) new.toList 0 w vs1 r.cq PX (by simpa using Qm) r.fz
     rw [WV] at Qd
     let vs2:=cM vs1 (len*i.size) new.toList
     have PR:∀o,o<len*i.size→vs2[o]? =vs1[o]? :=fun o ho=>by
      simp only [vs2];rw [ef _ _ _ _ Qm,if_neg (by omega)]
     have QY:=hw.EB hσ r ((len+Pk)*i.size) (vs':=vs2) (cT _ _ _) PR
     have Qw:M.Le (M.bZ b1 (len*i.size) ((len+Pk)*i.size) vs2):=MM.An r.none
     obtain ⟨Pc,hw3⟩:=QY.kq (id:=id) (ver:=ver) Rc (a:=some ⟨b1,0,none⟩) (len:=len+Pk) (cap:=cap) i.size
      (.inr ⟨b1,vs2,ty1,fz1,rfl,r.base,.inr r.own,dq r.cq,by simp only [vs2,cT];exact r.fz,by simp only [vs2,cT];exact r.cap,fun o ho=>by
       simp only [MM.bZ,MM.bK,if_true]
       rw [if_neg (by omega)]
       exact r.none o (by rw [WD] at ho;omega)⟩)
     have QS:=MM.cA (M:=M.bZ b1 (len*i.size) ((len+Pk)*i.size) vs2) (id:=id) (ver:=ver) (v:= .slice (some ⟨b1,0,none⟩) (len+Pk) cap) (Rc ver (VF _))
     have hσ2:dv (dv σ id .dead) id (.bg ver i.size)=dv σ id (.bg ver i.size):=by
      funext j;by_cases e:j=id<;>simp [dv,e]
     rw [hσ2] at hw3
     refine ⟨.slice (some ⟨b1,0,none⟩) (len+Pk) cap,_,Pc,bo w b1 (.cells vs2 ty1 fz1),?_,Qw.trans QS,by rw [Pn];exact hw3,?_,rfl,?_⟩
     ·rw [Pt]
      simp only [dK,V9,VV,Qd,VN,V1]
      rfl
     ·rw [Pn]
      refine bz.flag (o:= .no) ?_ _ (by simp [MM.kA,MM.aV])
      refine bz.mono ?_ QS
      have QO:∀ {k:Nat} {x:D},(xs++ys)[k]? =some x→(k<len∧xs[k]? =some x)∨(len≤k∧k<len+Pk∧ys[k - len]? =some x):=by
       intro k x hx
       rw [Wz] at hx
       split at hx
       ·exact .inl ⟨by omega,hx⟩
       ·refine .inr ⟨by omega,?_,by rw [← hl];exact hx⟩
        have:k - xs.length<ys.length:=by
         rcases VS (k - xs.length) ys.length with q|q
         ·exact q
         ·simp [VO q] at hx
        omega
      have hold:∀ {k:Nat} {x:D} {cs:List D} {j:Nat} {c:D},xs[k]? =some x→x.cells=some cs→cs[j]? =some c→M.cell b1 (k*i.size+j)=some (vs k j)∧bz M.bare c (vs k j):=by
       intro k x cs j c hx Pg hj
       have Px:xs≠ []:=fun e=>by subst e;simp at hx
       have e1:=ha Px
       obtain ⟨rfl,rfl⟩:b1=b∧0=off:=by simpa using e1
       have e2:sz=i.size:=Po.resolve_right Px
       have h5:=hc k x cs j c hx Pg hj
       rw [e2,V9] at h5
       exact ⟨h5,hr k x cs j c hx Pg hj⟩
      have Up:∀ {k:Nat} {x:D} {cs:List D} {j:Nat} {c:D},(xs++ys)[k]? =some x→x.cells=some cs→cs[j]? =some c→j<i.size:=by
       intro k x cs j c hx Pg hj
       have hlen:cs.length=i.size:=by
        rcases QO hx with ⟨_,h⟩|⟨_,_,h⟩
        ·obtain ⟨PM,q1,q2⟩:=orow.elem _ x h;rw [Pg] at q1;obtain rfl:=VA q1;exact q2
        ·obtain ⟨PM,q1,q2⟩:=P1.elem _ x h;rw [Pg] at q1;obtain rfl:=VA q1;exact q2
       rcases VS j cs.length with q|q
       ·omega
       ·simp [VO q] at hj
      refine .aq b1 0 (fun k j=>if k<len then vs k j else (new[(k - len)*i.size+j]?).getD .nilFunc) (by rw [Vu,hl,P8]) hge (fun _=>rfl) ?_ ?_ ?_ ?_ trivial
      ·intro k x hx
       rcases QO hx with ⟨_,h⟩|⟨_,_,h⟩
       ·exact orow.elem _ x h
       ·exact P1.elem _ x h
      ·intro k x cs j c hx Pg hj
       have QT:=Up hx Pg hj
       rw [V9]
       simp only [MM.bZ,MM.bK,if_true]
       rcases QO hx with ⟨hk,h⟩|⟨hk,RM,h⟩
       ·have:=kr hk QT
        rw [if_neg (by omega),if_pos hk]
        exact (hold h Pg hj).1
       ·have h6:=kr RM QT
        have h7:len*i.size≤k*i.size:=Wo _ hk
        rw [if_pos ⟨by omega,h6⟩,if_neg (by omega)]
        obtain ⟨v,hv,_⟩:=P1.get _ x cs j c h Pg hj
        have e:k*i.size+j - len*i.size=(k - len)*i.size+j:=by
         rw [Nat.sub_mul];omega
        simp only [vs2]
        rw [ef _ _ _ _ Qm,if_pos ⟨by omega,by rw [R5,← WD];exact h6⟩,e,VX,hv]
        rfl
      ·intro k x cs j c hx Pg hj
       rcases QO hx with ⟨hk,h⟩|⟨hk,_,h⟩
       ·simp only [if_pos hk]
        exact (hold h Pg hj).2.mono Qw.bare
       ·simp only [if_neg (show ¬k<len by omega)]
        obtain ⟨v,hv,SR⟩:=P1.get _ x cs j c h Pg hj
        rw [hv]
        exact SR.mono Qw.bare
      ·intro k x cs c hx Pg Rf
       rcases QO hx with ⟨_,h⟩|⟨_,_,h⟩
       ·exact orow.st _ x cs c h Pg Rf
       ·exact P1.st _ x cs c h Pg Rf
     ·intro j hj
      funext k
      simp [MM.aV,hj,MM.bZ,MM.bK]
theorem mN {w0:de} {w:World} {M:MM} {own:Nat→Option Nat} {σ:Nat→Ob} (hw:bH w0 M own σ w) {st xt Pu rty e2:TypeId} {ts:Array TypeId} {args:Array Value} (ht:P.underlying st=some (.slice Pu)) (hx:P.underlying xt=some (.slice e2)) (h0:ts[0]? =some st) (h1:ts[1]? =some xt)
  (hz:dJ P Pu=true) (PA:P.bytesOf Pu≤65536) {ow RA:jn} {sz Py:Nat} {xs ys:List D} {u u':Value} (g0:args[0]? =some u) (g1:args[1]? =some u') (hu:bz M (.aq ow sz xs) u) (RN:bz M (.aq RA Py ys) u')
  (Po:sz=P.cellsOf Pu∨xs= []) (RS:Py=P.cellsOf Pu∨ys= []) (hn:xs.length+ys.length≤bn) {id ver:Nat} (Rc:∀v,ver≤v→M.br id v=none)
  (PI:∀a len cap,u= .slice a len cap→cap=len∨∃b vs ty fz RH P4,a=some ⟨b,0,none⟩∧o8 w0 M own id (P.cellsOf Pu) w len cap b vs ty fz∧σ id= .bg RH P4):
  ∃v M' Pc w',(Wf ts rty args).run P w= .ok v w'∧M.Le M'∧bH w0 M' Pc (dv σ id (.bg ver (P.cellsOf Pu))) w'∧bz M' (.aq (.tok id ver) (P.cellsOf Pu) (xs++ys)) v∧M'.box=M.box∧∀j,j≠id→M'.br j=M.br j:=by
 cases RN with
 |aq b' off' vs' P8 hcap' ha' hsize' QL Rn hst' Qz=>
  rename_i a' Pk PC
  have QN:bz M (.aq RA Py ys) (.slice a' Pk PC):= .aq b' off' vs' P8 hcap' ha' hsize' QL Rn hst' Qz
  obtain ⟨new,ns,P1,Pz,PX⟩:=gw (P:=P) QN RS hw.cells
  exact oY hw ht hx h0 h1 hz PA g0 g1 hu P8 ns P1 Pz PX Po hn Rc PI
end
structure tg (P:Program) (id:Nat) (args:List D) (s:List Ob) (d:D) (s':List Ob):Prop where
  len:s.length≤s'.length
  run:∀(w0:de) (M:MM) (own:Nat→Option Nat) (w:World) (vs:Array Value) (l:Nat),bH w0 M own (bE s) w→M.upto s.length→bV M args vs→M.box id=some l→
    ∃fn tmps ag bd,(Instr.yield l vs).run P w= .ok (.round l fn tmps ag bd) w∧
      RoundIn Fence.wide 0 P l fn tmps ag bd w fun e w'=> ∃v M' Pc,e= .returned v∧bH w0 M' Pc (bE s') w'∧M'.upto s'.length∧M.Le M'∧bz M' d v
def Ks (P:Program) (g:Tg) (args:List D) (s:List Ob) (d:D) (s':List Ob):Prop:=match g with
  | .fn f=>bW P f args s d s'
  | .yl id=>tg P id args s d s'
def iC (P:Program) {ρ':Type} (inl:AJ P ρ'):Prop:= ∀(g:Tg) (args:List D) (s:List Ob) (z:Z P) (K:D→List Ob→Z P→Option ρ') (r:ρ'),inl g args s z K=some r→
  ∃d s' z',K d s' z'=some r∧(z'.c→z.c∧Ks P g args s d s')
def EU (P:Program) (o:Oper) (ρ:Operand→D) (s s':List Ob) (d:D):Prop:=
  s.length≤s'.length∧∀(w0:de) (M:MM) (own:Nat→Option Nat) (w:World) (a:Act),bH w0 M own (bE s) w→M.upto s.length→(∀x∈o.op.operands,bz M (ρ x) (a.eval x))→
    ∀(next:Act→World→Prop) (Q:Exit→Act→World→Prop),
      (∀v M' Pc w',M.Le M'→M'.upto s'.length→bH w0 M' Pc (bE s') w'→bz M' d v→next (a.put o.dst v) w')→Fb P o a w next Q
def gv (P:Program) (o:Oper) (ρ:Operand→D) (s:List Ob) (e:gp):Prop:=match e with
  | .all s' d=>EU P o ρ s s' d
  | .read i ob d=>(s.getD i .dead=ob∧i<s.length)∧dF P o ρ (.read i ob d)
  | .fG i j d=>(eu (s.getD i .dead) j=some d∧i<s.length)∧dF P o ρ (.fG i j d)
  | .dv i ob RB d=>(s.getD i .dead=ob∧i<s.length)∧dF P o ρ (.dv i ob RB d)
  |e=>dF P o ρ e
theorem cH {s:List Ob} {i:Nat} (h:s.getD i .dead≠ .dead):i<s.length:=by
 rcases VS i s.length with q|q
 ·exact q
 ·rw [VJ,VO q] at h;exact absurd rfl h
theorem qq {P:Program} {o:Oper} {ρv:Operand→Value} {c:Call} {f:Operand} {g:FuncId} {fv cv:Array Value} (ho:o.op= .call c) (hc:c.callee= .value f) (hf:ρv f= .func (.func g) fv cv) (he:Kw P g) (w:World):
  (execOp ρv o).run P w= .ok (.enter g ((fv++c.args.map ρv)++cv)) w:=by
 obtain ⟨fn,code,h1,h2,h3⟩:=he
 simp only [execOp,ho,resolve,hc,hf,Deferred.ofValue,VV,V1,VN,invoke,callFunc,run_program,h1,h3,Wj,if_false,h2,Option.isNone_some]
theorem tI {P:Program} {o:Oper} {a:Act} {w:World} {g:FuncId} {vs:Array Value} {next:Act→World→Prop} {Q:Exit→Act→World→Prop} (h:(execOp a.eval o).run P w= .ok (.enter g vs) w)
  (k:Calls P g vs w fun e w'=> ∃v,e= .returned v∧next (a.put o.dst v) w'):Fb P o a w next Q:=by
 intro r
 refine ⟨fun _ _=>trivial,?_⟩
 rw [show (FW r).round=r from rfl,jI h (fun d e=>by cases e) r,Oper.uponIn_enter]
 refine ⟨fun e=>(by cases e),?_⟩
 have k':CallsIn (FW r) (0 - 1) P g vs w fun e w'=> ∃v,e= .returned v∧next (a.put o.dst v) w':=(callsIn_wide (n:=0)).2 k
 refine k'.mono fun e w' hh=> ?_
 obtain ⟨v,rfl,hn⟩:=hh
 exact hn
theorem zs {P:Program} {o:Oper} {ρv:Operand→Value} {c:Call} {f:Operand} {l:Nat} (ho:o.op= .call c) (hc:c.callee= .value f) (hf:ρv f= .func (.yield l) #[] #[]) (w:World):
  (execOp ρv o).run P w=(Instr.yield l (c.args.map ρv)).run P w:=by
 simp only [execOp,ho,resolve,hc,hf,Deferred.ofValue,VV,V1,VN,invoke,Array.empty_append,Array.append_empty]
theorem CJ {P:Program} {o:Oper} {a:Act} {w:World} {l:Nat} {fn:FuncId} {tmps:Array Value} {ag bd:Code} {next:Act→World→Prop} {Q:Exit→Act→World→Prop} (h:(execOp a.eval o).run P w= .ok (.round l fn tmps ag bd) w)
  (k:RoundIn Fence.wide 0 P l fn tmps ag bd w fun e w'=> ∃v,e= .returned v∧next (a.put o.dst v) w'):Fb P o a w next Q:=by
 intro r
 refine ⟨fun _ _=>trivial,?_⟩
 rw [show (FW r).round=r from rfl,jI h (fun d e=>by cases e) r,Oper.uponIn_round]
 refine ⟨fun e=>(by cases e),?_⟩
 have k':RoundIn (FW r) (0 - 1) P l fn tmps ag bd w fun e w'=> ∃v,e= .returned v∧next (a.put o.dst v) w':=k
 refine k'.mono fun e w' hh=> ?_
 obtain ⟨v,rfl,hn⟩:=hh
 exact hn
theorem bV.append {M:MM} {xs ys:List D} {us vs:Array Value} (h:bV M xs us) (k:bV M ys vs):bV M (xs++ys) (us++vs):=by
 refine ⟨by simp [h.1,k.1],fun i d v a b=> ?_⟩
 rw [Wz] at a
 rw [Array.getElem?_append] at b
 rw [← h.1] at b
 split at a
 ·rename_i hi
  rw [if_pos hi] at b
  exact h.2 i d v a b
 ·rename_i hi
  rw [if_neg hi] at b
  exact k.2 _ d v a b
theorem nI {M:MM} {ρ:Operand→D} {a:Act} (l:Array Operand) (h:∀x∈l,bz M (ρ x) (a.eval x)):bV M (l.toList.map ρ) (l.map a.eval):=by
 refine ⟨by simp,fun i d v p q=> ?_⟩
 rw [VW,VU] at p
 obtain ⟨x,hx,rfl⟩:=p
 rw [VX] at hx
 rw [Array.getElem?_map,hx] at q
 simp only [WK,VI] at q
 subst q
 exact h x (Array.mem_of_getElem? hx)
theorem bz.aG {M:MM} {d:D} {v:Value} (h:bz M d v):bz M d.aG v:=by
 induction h with
 |undef v=>exact .undef v
 |int k n=>exact .int k n
 |bool b=>exact .bool b
 |str s=>exact .str s
 |eW=>exact .eW
 |ptr q h=>exact .ptr q h
 |cN q vs hx hc hr ih=>exact .cN q vs hx hc hr
 |bA h=>exact .bA h
 |iD h=>exact .iD h
 |bP h hh hc=>exact .bP h hh hc
 |sub h hc hp ho=>exact .sub h hc hp ho
 |aq b off vs hl Ph ha Po hc hr Pr ho ih=>
  rename_i o _ _ _ _ _
  rw [D.aG]
  refine .aq b off vs hl Ph ha Po hc hr Pr ?_
  cases o<;>first|trivial|exact ho
 |bw=>exact .bw
 |fn h1 h2 r1 r2 i1 i2=>
  rw [D.aG,D.ej,D.ej]
  refine .fn (by simpa using h1) (by simpa using h2) ?_ ?_
  ·intro i d v a b
   rw [VW,VU] at a
   obtain ⟨d0,h0,rfl⟩:=a
   exact i1 i d0 v h0 b
  ·intro i d v a b
   rw [VW,VU] at a
   obtain ⟨d0,h0,rfl⟩:=a
   exact i2 i d0 v h0 b
 |agg h r ih=>
  rw [D.aG,D.ej]
  refine .agg (by simpa using h) fun i d v a b=> ?_
  rw [VW,VU] at a
  obtain ⟨d0,h0,rfl⟩:=a
  exact ih i d0 v h0 b
 |aQ h r ih=>
  rw [D.aG,D.ej]
  refine .aQ (by simpa using h) fun i d v a b=> ?_
  rw [VW,VU] at a
  obtain ⟨d0,h0,rfl⟩:=a
  exact ih i d0 v h0 b
theorem oZ {id:Nat} :∀ {ds l:List D} {sz:Nat},fM id ds=some (l,sz)→∃(k Py:Nat) (xs:List D),ds[k]? =some (D.aq (.fresh sz) Py xs)∧l.length=ds.length∧
  ∀(i:Nat) (d':D),l[i]? =some d'→(i=k∧d'=D.aq (.tok id 0) Py xs)∨∃d0:D,ds[i]? =some d0∧(d'=d0∨d'=d0.aG)
 | [],l,sz,h=>by simp [fM] at h
 |d::r,l,sz,h=>by
  unfold fM at h
  split at h
  ·cases h
  ·rename_i S1 P4 xs r' heq
   simp only [List.cons.injEq] at heq
   obtain ⟨rfl,rfl⟩:=heq
   simp only [VI,Prod.mk.injEq] at h
   obtain ⟨rfl,rfl⟩:=h
   refine ⟨0,P4,xs,rfl,by simp,fun i d' hi=> ?_⟩
   cases i with
   |zero=>simp at hi;exact .inl ⟨rfl,hi.symm⟩
   |succ i=>
    simp only [Wp,VW,VU] at hi
    obtain ⟨d0,h0,rfl⟩:=hi
    exact .inr ⟨d0,by simpa using h0,.inr rfl⟩
  ·rename_i d1 r1 _ heq
   simp only [List.cons.injEq] at heq
   obtain ⟨rfl,rfl⟩:=heq
   split at h
   ·rename_i l' Py hl
    simp only [VI,Prod.mk.injEq] at h
    obtain ⟨rfl,rfl⟩:=h
    obtain ⟨k,P4,xs,h1,h2,h3⟩:=oZ hl
    refine ⟨k+1,P4,xs,by simpa using h1,by simp [h2],fun i d' hi=> ?_⟩
    cases i with
    |zero=>simp at hi;exact .inr ⟨d,rfl,.inl hi.symm⟩
    |succ i=>
     rcases h3 i d' (by simpa using hi) with ⟨e1,e2⟩|⟨d0,e1,e2⟩
     ·exact .inl ⟨by omega,e2⟩
     ·exact .inr ⟨d0,by simpa using e1,e2⟩
   ·cases h
theorem ET (id QR:Nat) (d:D):(jF id d).2=(jF QR d).2:=by
 have hl:∀ds:List D,(fM id ds).map (·.2)=(fM QR ds).map (·.2):=by
  intro ds
  induction ds with
  |nil=>rfl
  |cons d r ih=>
   unfold fM
   split
   ·rfl
   ·rfl
   ·rename_i h;
    cases h1:fM id r with
    |none=>
     rw [h1] at ih
     cases h2:fM QR r with
     |none=>simp_all
     |some p=>rw [h2] at ih;cases ih
    |some p=>
     rw [h1] at ih
     cases h2:fM QR r with
     |none=>rw [h2] at ih;cases ih
     |some q=>
      rw [h2] at ih
      have:p.2=q.2:=by simpa using ih
      simp_all
 unfold jF
 split
 ·rfl
 ·rename_i ds
  have:=hl ds
  cases h1:fM id ds with
  |none=>
   rw [h1] at this
   cases h2:fM QR ds with
   |none=>rfl
   |some p=>rw [h2] at this;cases this
  |some p=>
   rw [h1] at this
   cases h2:fM QR ds with
   |none=>rw [h2] at this;cases this
   |some q=>
    rw [h2] at this
    have:p.2=q.2:=by simpa using this
    simp [this]
 ·rfl
theorem ES {w0:de} {w w':World} {M M1:MM} {own:Nat→Option Nat} {σ:Nat→Ob} (hw:bH w0 M own σ w) (Sv:bH w0 M1 own σ w') (_hle:w.heap.size≤w'.heap.size) {id:Nat} (PD:∀v,M1.br id v=none) {d:D} {v:Value} (hr:bz M1 d v) (hf:zJ w.heap.size w' M1.cell d v):
  ∃M' Pc,M1.Le M'∧M'.box=M1.box∧(∀j,j≠id→M'.br j=M1.br j)∧bH w0 M' Pc (dv σ id (jF id d).2) w'∧bz M' (jF id d).1 v:=by
 have bg:∀ {sz:Nat} {a:Option Addr} {len cap:Nat},gC w.heap.size w' M1.cell sz a len cap→∃Pc,bH w0 (M1.aV id 0 (.slice a len cap)) Pc (dv σ id (.bg 0 sz)) w':=by
  intro sz a len cap PI
  refine Sv.kq (fun v _=>PD v) sz ?_
  rcases PI with q|⟨b,vs,ty,fz,h1,h2,h3,h4,h5,h6⟩
  ·exact .inl q
  ·refine .inr ⟨b,vs,ty,fz,h1,(fun k=>by have:=hw.below.Kc k;omega),.inl ?_,h3,h4,h5,h6⟩
   cases e:own b with
   |none=>rfl
   |some q=>have:=hw.owned _ _ e;omega
 have bO:∀ {x:Value},(∀j,j≠id→(M1.aV id 0 x).br j=M1.br j):=fun {x} j hj=>by funext k;simp [MM.aV,hj]
 have dead:∀ {d':D},bz M1 d' v→∃M' Pc,M1.Le M'∧M'.box=M1.box∧(∀j,j≠id→M'.br j=M1.br j)∧bH w0 M' Pc (dv σ id .dead) w'∧bz M' d' v:=
  fun h=>⟨M1,own,.refl _,rfl,fun _ _=>rfl,Sv.kill id,h⟩
 unfold jF
 split
 ·rename_i sz Py xs
  obtain ⟨a,len,cap,rfl,rfl,PI⟩:=hf.1 _ _ _ rfl
  obtain ⟨Pc,h1⟩:=bg PI
  have le:=MM.cA (M:=M1) (id:=id) (ver:=0) (v:= .slice a len cap) (PD 0)
  exact ⟨_,Pc,le,rfl,bO,h1,(hr.mono le).flag _ (by simp [MM.kA,MM.aV])⟩
 ·rename_i ds
  split
  ·rename_i l sz hl
   obtain ⟨k,Py,xs,h1,h2,h3⟩:=oZ hl
   cases hr with
   |aQ hlen Pm=>
    rename_i vs
    obtain ⟨a,len,cap,hv,rfl,PI⟩:=hf.2 _ _ rfl rfl k _ _ _ h1
    obtain ⟨Pc,h4⟩:=bg PI
    have le:=MM.cA (M:=M1) (id:=id) (ver:=0) (v:= .slice a len cap) (PD 0)
    refine ⟨_,Pc,le,rfl,bO,h4,.aQ (by rw [h2];exact hlen) fun i d' u hi hu=> ?_⟩
    rcases h3 i d' hi with ⟨rfl,rfl⟩|⟨d0,e1,e2⟩
    ·rw [hv] at hu
     obtain rfl:=VA hu
     exact ((Pm _ _ _ h1 hv).mono le).flag _ (by simp [MM.kA,MM.aV])
    ·have:=(Pm i d0 u e1 hu).mono le
     rcases e2 with rfl|rfl
     ·exact this
     ·exact this.aG
  ·exact dead hr
 ·exact dead hr
theorem H9 {P:Program} {o:Oper} {ρ:Operand→D} {c:Call} {f:Operand} {g:FuncId} {first cap as:List D} {d:D} (ho:o.op= .call c) (hc:c.callee= .value f) (hf:ρ f= .fn (.func g) first cap) (Sg:aJ P g as d)
  (has:∀(M:MM) (vs:Array Value),bV M (first++(c.args.toList.map ρ++cap)) vs→bV M.bare as vs):dF P o ρ (.new (jF 0 d).2 fun id=>(jF id d).1):=by
 intro w0 M own σ w a id hw hr Pp next Q hn
 have Pq:∀x∈c.args,bz M (ρ x) (a.eval x):=fun x hx=>hr x (by
  simp only [ho,VQ,W1,hc]
  exact Array.mem_append.2 (.inr hx))
 have Qo:=hr f (by
  simp only [ho,VQ,W1,hc]
  exact Array.mem_append.2 (.inl (by simp)))
 rw [hf] at Qo
 generalize hfv:a.eval f=fval at Qo
 cases Qo with
 |fn h1 h2 r1 r2=>
  rename_i fv cv
  have PV:bV M (first++(c.args.toList.map ρ++cap)) ((fv++c.args.map a.eval)++cv):=by
   rw [Array.append_assoc]
   exact bV.append ⟨h1,r1⟩ (bV.append (nI c.args Pq) ⟨h2,r2⟩)
  have RT:=Sg.run w M.cell _ hw.cells (has M _ PV)
  refine tI (qq ho hc hfv Sg.CF w) (Calls.mono RT fun e w' hh=> ?_)
  obtain ⟨v,C',rfl,hext,Pm,Q0⟩:=hh
  let M1:MM:=⟨C',M.box,M.br,M.dE⟩
  have hx:Ext M w M1 w':=⟨hext.below,hext.cell,hext.only,hext.cells⟩
  obtain ⟨Sv,SO⟩:=hw.ext hx rfl rfl rfl
  obtain ⟨M',Pc,q1,q2,q3,q4,q5⟩:=ES (id:=id) hw Sv hext.below.size Pp.2 (Pm.mono (MM.iU M1)) Q0
  refine ⟨v,rfl,hn v M' Pc w' (SO.trans q1) ⟨fun j _=>by rw [q2],fun j hj=>q3 j hj⟩ ?_ q5⟩
  show bH w0 M' Pc (dv σ id (jF 0 d).2) w'
  rw [ET 0 id d]
  exact q4
theorem DB {P:Program} {o:Oper} {ρ:Operand→D} {c:Call} {f:Operand} {g:FuncId} {first cap:List D} {d:D} {s s':List Ob} (ho:o.op= .call c) (hc:c.callee= .value f) (hf:ρ f= .fn (.func g) first cap)
  (Pt:bW P g (first++(c.args.toList.map ρ++cap)) s d s'):EU P o ρ s s' d:=by
 refine ⟨Pt.len,?_⟩
 intro w0 M own w a hw P6 hr next Q hn
 have Pq:∀x∈c.args,bz M (ρ x) (a.eval x):=fun x hx=>hr x (by
  simp only [ho,VQ,W1,hc]
  exact Array.mem_append.2 (.inr hx))
 have Qo:=hr f (by
  simp only [ho,VQ,W1,hc]
  exact Array.mem_append.2 (.inl (by simp)))
 rw [hf] at Qo
 generalize hfv:a.eval f=fval at Qo
 cases Qo with
 |fn h1 h2 r1 r2=>
  rename_i fv cv
  have PV:bV M (first++(c.args.toList.map ρ++cap)) ((fv++c.args.map a.eval)++cv):=by
   rw [Array.append_assoc]
   exact bV.append ⟨h1,r1⟩ (bV.append (nI c.args Pq) ⟨h2,r2⟩)
  refine tI (qq ho hc hfv Pt.CF w) (Calls.mono (Pt.run w0 M own w _ hw P6 PV) fun e w' hh=> ?_)
  obtain ⟨v,M',Pc,rfl,q1,q2,q3,q4⟩:=hh
  exact ⟨v,rfl,hn v M' Pc w' q3 q2 q1 q4⟩
theorem H8 {P:Program} {o:Oper} {ρ:Operand→D} {c:Call} {f:Operand} {id:Nat} {d:D} {s s':List Ob} (ho:o.op= .call c) (hc:c.callee= .value f) (hf:ρ f= .iD id)
  (Pt:tg P id (c.args.toList.map ρ) s d s'):EU P o ρ s s' d:=by
 refine ⟨Pt.len,?_⟩
 intro w0 M own w a hw P6 hr next Q hn
 have Pq:∀x∈c.args,bz M (ρ x) (a.eval x):=fun x hx=>hr x (by
  simp only [ho,VQ,W1,hc]
  exact Array.mem_append.2 (.inr hx))
 have Qo:=hr f (by
  simp only [ho,VQ,W1,hc]
  exact Array.mem_append.2 (.inl (by simp)))
 rw [hf] at Qo
 generalize hfv:a.eval f=fval at Qo
 cases Qo with
 |iD hb=>
  obtain ⟨fn,tmps,as,bd,h1,h2⟩:=Pt.run w0 M own w _ _ hw P6 (nI c.args Pq) hb
  refine CJ (l:=_) ((zs ho hc hfv w).trans h1) (h2.mono fun e w' hh=> ?_)
  obtain ⟨v,M',Pc,rfl,q1,q2,q3,q4⟩:=hh
  exact ⟨v,rfl,hn v M' Pc w' q3 q2 q1 q4⟩
theorem ij {s:List Ob} {i:Nat} (h:i<s.length) (o:Ob):bE (s.set i o)=dv (bE s) i o:=by
 funext k
 unfold bE dv
 simp only [VJ]
 by_cases e:k=i
 ·subst e;rw [List.getElem?_set_self h];simp
 ·rw [WJ (Ne.symm e),if_neg e]
theorem gE (s:List Ob) (o:Ob):bE (s++ [o])=dv (bE s) s.length o:=by
 funext k
 unfold bE dv
 simp only [VJ,Wz]
 by_cases e:k=s.length
 ·subst e;simp
 ·rw [if_neg e]
  split
  ·rfl
  ·rename_i h
   rw [VO (show s.length≤k by omega)]
   have: [o][k - s.length]? =none:=VO (by simp;omega)
   rw [this]
theorem oV {size:Nat} :∀ {ys nc:List D},eo ys=some nc→(∀(i:Nat) (x:D),ys[i]? =some x→∃cs,x.cells=some cs∧cs.length=size)→nc.length=ys.length*size∧
  ∀(i:Nat) (d:D),nc[i]? =some d→∃(q r:Nat) (x:D) (cs:List D),ys[q]? =some x∧x.cells=some cs∧cs[r]? =some d∧i=q*size+r
 | [],nc,h,_=>by
  simp only [eo,VI] at h
  subst h
  exact ⟨by simp,fun i d hd=>by simp at hd⟩
 |y::ys,nc,h,he=>by
  simp only [eo] at h
  split at h
  ·rename_i c cs hc Pg
   obtain rfl:=VA h
   obtain ⟨c',QL,hlen⟩:=he 0 y rfl
   rw [hc] at QL
   obtain rfl:=VA QL
   obtain ⟨l1,g1⟩:=oV Pg (fun i x hx=>he (i+1) x hx)
   refine ⟨by rw [Vu,l1,hlen,Vx,Nat.succ_mul];omega,fun i d hd=> ?_⟩
   rcases VS i c.length with hi|hi
   ·rw [List.getElem?_append_left hi] at hd
    exact ⟨0,i,y,c,rfl,hc,hd,by simp⟩
   ·rw [List.getElem?_append_right hi] at hd
    obtain ⟨q,r,x,cx,h1,h2,h3,h4⟩:=g1 _ d hd
    exact ⟨q+1,r,x,cx,h1,h2,h3,by rw [Nat.succ_mul];omega⟩
  ·cases h
theorem iU (M:MM):M.bare.Le M:=⟨fun _ _ _ h=>h,fun _ _ h=>(by cases h),fun _ _ _ h=>(by cases h),fun _ h=>h.elim⟩
theorem lS {M:MM} {size:Nat} {ys nc:List D} {arr:Array Value} (h:eO M size ys arr) (hc:eo ys=some nc):nc.length=ys.length*size∧
  ∀(i:Nat) (d:D) (v:Value),nc[i]? =some d→arr[i]? =some v→bz M d v:=by
 obtain ⟨h1,h2⟩:=oV hc h.elem
 refine ⟨h1,fun i d v hd hv=> ?_⟩
 obtain ⟨q,r,x,cs,a1,a2,a3,rfl⟩:=h2 i d hd
 obtain ⟨u,b1,b2⟩:=h.get q x cs r d a1 a2 a3
 rw [b1] at hv
 obtain rfl:=VA hv
 exact b2.mono (iU M)
section
variable {P:Program} {o:Oper} {ρ:Operand→D}
theorem tN {w0:de} {w:World} {M:MM} {own:Nat→Option Nat} {σ:Nat→Ob} (hw:bH w0 M own σ w) {st xt Pu rty e2:TypeId} {ts:Array TypeId} {args:Array Value} (ht:P.underlying st=some (.slice Pu)) (hx:P.underlying xt=some (.slice e2)) (h0:ts[0]? =some st) (h1:ts[1]? =some xt)
  (hz:dJ P Pu=true) (PA:P.bytesOf Pu≤65536) {sz n PC:Nat} {nc:List D} {u:Value} {a':Option Addr} {new:Array Value} (g0:args[0]? =some u) (g1:args[1]? =some (.slice a' n PC)) (hu:bz M (.aq .tight sz []) u)
  (ns:new.size=n*P.cellsOf Pu) (Pz:∀wd:World,(∀a,wd.cell? a=w.cell? a)→(Wc (P.cellsOf Pu) n (.slice a' n PC)).run P wd= .ok new wd) (c1:nc.length=n*P.cellsOf Pu)
  (c2:∀(i:Nat) (d:D) (v:Value),nc[i]? =some d→new[i]? =some v→bz M d v) (hn:n≤bn) (Pw:0<n) {id:Nat} (PD:M.box id=none) (hh:∀v,M.br id v=none):
  ∃v M' Pc w',(Wf ts rty args).run P w= .ok v w'∧M.Le M'∧bH w0 M' Pc (dv σ id (.box nc)) w'∧bz M' (.bP id (P.cellsOf Pu) n) v∧(∀j,j≠id→M'.box j=M.box j)∧∀j,j≠id→M'.br j=M.br j:=by
 obtain ⟨i,z,hi,hiz,Rs,Pn⟩:=eA hz
 have PB:i.bytes≤65536:=by simpa [Program.bytesOf,hi] using PA
 cases hu with
 |aq b off vs hl Ph ha Qr S7 hr Pr ho=>
  rename_i a len cap
  have Pm:bz M (.aq .tight sz []) (.slice a len cap):= .aq b off vs hl Ph ha Qr S7 hr Pr ho
  have RP:len=0:=by simpa using hl.symm
  have Ts:cap=len:=ho
  subst RP
  subst Ts
  rw [Pn] at ns Pz c1 ⊢
  obtain ⟨gq,os,orow,QJ,_⟩:=gw (P:=P) (size:=i.size) Pm (.inr rfl) hw.cells
  have Qu:0+n≤2147483648:=by rw [V9];exact hn
  obtain ⟨_,r2⟩:=e9 (P:=P) (rty:=rty) ht hx h0 h1 hi hiz g0 g1 (QJ w.drew fun _=>rfl) (Pz w fun _=>rfl) (Pz w.drew fun _=>rfl) PB Qu
  obtain ⟨n2,Sl,_,Pt⟩:=r2 (by omega)
  rw [V9] at Pt Sl
  have hold:gq= #[]:=WN (by rw [os];simp)
  subst hold
  let arr:= #[]++new++WR z.cells (n2 - n)
  have PN:arr.size=n2*i.size:=by
   simp only [arr,WA,size_zeroCells,ns,Rs]
   simp only [List.size_toArray,Vy,V9]
   rw [← WD]
   congr 1;omega
  have hle:nc.length≤arr.size:=by rw [c1,PN];exact Wo _ (by omega)
  have Qc:∀(j:Nat) (d:D) (v:Value),nc[j]? =some d→arr[j]? =some v→bz M d v:=by
   intro j d v hd hv
   have hj:j<new.size:=by
    rw [ns,← c1]
    rcases VS j nc.length with q|q
    ·exact q
    ·simp [VO q] at hd
   refine c2 j d v hd ?_
   have:arr[j]? =new[j]? :=by
    simp only [arr]
    rw [We (by simpa using hj),Array.empty_append]
   rw [← this];exact hv
  have k:bH w0 (M.bk id w.heap.size) (dN own w.heap.size id) (dv σ id (.box nc)) (w.drew.alloc (.cells arr Pu)):=hw.drew.nR (id:=id) PD hh (cs:=nc) (vs:=arr) Pu hle Qc
  obtain ⟨b1,vs1,ty1,kb⟩:=k.box id nc (aR _ _ _)
  have eb:b1=w.heap.size:=by have:=kb.box;simp only [MM.bk,if_true] at this;exact (VA this).symm
  have RX:vs1.size=arr.size:=by
   have h1:=kb.cq
   rw [eb] at h1
   have h2:(w.drew.alloc (.cells arr Pu)).heap[w.heap.size]? =some (.cells arr Pu (0,0)):=by
    show (w.heap.push _)[w.heap.size]? =_
    simp
   rw [h2] at h1
   have h3:=VA h1
   simp only [Obj.cells.injEq] at h3
   rw [← h3.1]
  have k2:=k.jZ (aR _ _ _) kb (sz:=i.size) (len:=n) (cap:=n2) (hh _) (by rw [RX,PN];exact VF _)
  subst eb
  have Qw:(M.bk id w.heap.size).Le ((M.bk id w.heap.size).aV id i.size (.slice (some ⟨w.heap.size,0,none⟩) n n2)):=MM.cA (hh _)
  refine ⟨_,_,_,_,Pt,(MM.dh PD).trans Qw,k2,?_,fun j hj=>by simp [MM.bk,MM.aV,hj],fun j hj=>by funext q;simp [MM.aV,MM.bk,hj]⟩
  exact .bP (b:=w.heap.size) (by simp [MM.bk,MM.aV]) (by simp [MM.aV]) (by omega)
theorem AU {w0:de} {w:World} {M:MM} {own:Nat→Option Nat} {σ:Nat→Ob} (hw:bH w0 M own σ w) {st xt Pu rty e2:TypeId} {ts:Array TypeId} {args:Array Value} (ht:P.underlying st=some (.slice Pu)) (hx:P.underlying xt=some (.slice e2)) (h0:ts[0]? =some st) (h1:ts[1]? =some xt)
  (hz:dJ P Pu=true) (PA:P.bytesOf Pu≤65536) {RA:jn} {sz Py:Nat} {ys nc:List D} {u u':Value} (g0:args[0]? =some u) (g1:args[1]? =some u') (hu:bz M (.aq .tight sz []) u) (RN:bz M (.aq RA Py ys) u')
  (RS:Py=P.cellsOf Pu∨ys= []) (hn:ys.length≤bn) (Px:ys≠ []) (hc:eo ys=some nc) {id:Nat} (PD:M.box id=none) (hh:∀v,M.br id v=none):
  ∃v M' Pc w',(Wf ts rty args).run P w= .ok v w'∧M.Le M'∧bH w0 M' Pc (dv σ id (.box nc)) w'∧bz M' (.bP id (P.cellsOf Pu) ys.length) v∧(∀j,j≠id→M'.box j=M.box j)∧∀j,j≠id→M'.br j=M.br j:=by
 cases RN with
 |aq b' off' vs' P8 hcap' ha' hsize' QL Rn hst' Qz=>
  rename_i a' Pk PC
  have QN:bz M (.aq RA Py ys) (.slice a' Pk PC):= .aq b' off' vs' P8 hcap' ha' hsize' QL Rn hst' Qz
  obtain ⟨new,ns,P1,Pz,PX⟩:=gw (P:=P) QN RS hw.cells
  obtain ⟨c1,c2⟩:=lS P1 hc
  have Pw:0<ys.length:=List.length_pos_iff.2 Px
  subst P8
  exact tN hw ht hx h0 h1 hz PA g0 g1 hu ns Pz c1 c2 hn Pw PD hh
theorem jY {w0:de} {w:World} {M:MM} {own:Nat→Option Nat} {σ:Nat→Ob} (hw:bH w0 M own σ w) {t off o2 n size c b:Nat} {cs nc:List D} (hb:M.box t=some b) (hσ:σ t= .box cs) (QE:n≠0→o2=off) (SH:(cs.drop off).take (n*size)=nc) (hle:off+n*size≤cs.length):
  ∃new:Array Value,new.size=n*size∧(∀wd:World,(∀a,wd.cell? a=w.cell? a)→(Wc size n (.slice (some ⟨b,o2,none⟩) n c)).run P wd= .ok new wd)∧nc.length=n*size∧∀(i:Nat) (d:D) (v:Value),nc[i]? =some d→new[i]? =some v→bz M d v:=by
 by_cases hn:n=0
 ·subst hn
  rw [Nat.zero_mul,List.take_zero] at SH
  subst SH
  refine ⟨#[],by simp,fun wd _=>by simp [Wc,loadCells,loadCellsFrom],by simp,fun i d v hd=>by simp at hd⟩
 obtain ⟨b2,vs,ty,kb⟩:=hw.box t cs hσ
 have eb:b2=b:=by have:=kb.box;rw [hb] at this;exact (VA this).symm
 subst eb
 obtain rfl:=QE hn
 have TT:=kb.len
 refine ⟨vs.extract o2 (o2+n*size),by rw [Array.size_extract];omega,fun wd Tt=> ?_,by rw [← SH,List.length_take,List.length_drop];omega,fun i d v hd hv=> ?_⟩
 ·have:=fE (P:=P) (w:=wd) b2 o2 (vs.extract o2 (o2+n*size)) (fun j v hj=>by
   rw [Tt]
   rw [Array.getElem?_extract] at hj
   split at hj
   ·simp [WE,kb.cq,hj]
   ·cases hj)
  rw [show (vs.extract o2 (o2+n*size)).size=n*size by rw [Array.size_extract];omega] at this
  exact this
 ·rw [Array.getElem?_extract] at hv
  split at hv
  ·rename_i hi
   rw [← SH,WX,if_pos (by omega),List.getElem?_drop] at hd
   exact kb.rep _ d v hd hv
  ·cases hv
theorem oe {d:D} (h:isByte d=true):∃n,d= .int .u8 n:=by
 unfold isByte at h
 split at h
 ·exact ⟨_,rfl⟩
 ·cases h
theorem qw {M:MM} {nc:List D} {new:Array Value} (hl:nc.length=new.size) (h:nc.all isByte=true) (c2:∀(i:Nat) (d:D) (v:Value),nc[i]? =some d→new[i]? =some v→bz M d v):eO M 1 nc new∧∀v∈new.toList,v.oneCell'=true:=by
 have key:∀(i:Nat) (d:D),nc[i]? =some d→∃n,d= .int .u8 n∧new[i]? =some (.int .u8 n):=by
  intro i d hd
  obtain ⟨n,rfl⟩:=oe (V3.1 h d (V5 hd))
  have hi:i<new.size:=by rw [← hl];exact (List.getElem?_eq_some_iff.1 hd).1
  have e:=c2 i _ new[i] hd (by simp [hi])
  generalize hv:new[i]=v at e
  cases e
  exact ⟨n,rfl,by rw [Array.getElem?_eq_getElem hi,hv]⟩
 refine ⟨⟨by omega,fun i x hx=> ?_,fun i x cs j c hx Pg hj=> ?_,fun i x cs c hx Pg hc=> ?_⟩,fun v hv=> ?_⟩
 ·obtain ⟨n,rfl,_⟩:=key i x hx
  exact ⟨_,rfl,rfl⟩
 ·obtain ⟨n,rfl,hn⟩:=key i x hx
  simp only [D.cells,VI] at Pg
  subst Pg
  cases j with
  |zero=>
   simp only [Wt,VI] at hj
   subst hj
   exact ⟨_,by rw [Nat.mul_one,WV];exact hn,.int _ _⟩
  |succ j=>simp at hj
 ·obtain ⟨n,rfl,_⟩:=key i x hx
  simp only [D.cells,VI] at Pg
  subst Pg
  rw [List.mem_singleton] at hc
  subst hc
  rfl
 ·obtain ⟨i,hi,rfl⟩:=List.getElem_of_mem hv
  rw [Wg,← hl] at hi
  obtain ⟨n,_,hn⟩:=key i nc[i] (List.getElem?_eq_getElem hi)
  rw [Array.getElem_toList]
  have:=(Array.getElem?_eq_some_iff.1 hn).2
  rw [this]
  rfl
theorem wo {w0:de} {w:World} {M:MM} {own:Nat→Option Nat} {σ:Nat→Ob} (hw:bH w0 M own σ w) {st xt Pu rty e2:TypeId} {ts:Array TypeId} {args:Array Value} (ht:P.underlying st=some (.slice Pu)) (hx:P.underlying xt=some (.slice e2)) (h0:ts[0]? =some st) (h1:ts[1]? =some xt)
  (hz:dJ P Pu=true) (PA:P.bytesOf Pu≤65536) {t n Pk PC:Nat} {cs nc:List D} {u:Value} {a':Option Addr} {new:Array Value} (g0:args[0]? =some u) (g1:args[1]? =some (.slice a' Pk PC)) (hu:bz M (.bP t (P.cellsOf Pu) n) u)
  (ns:new.size=Pk*P.cellsOf Pu) (Pz:∀wd:World,(∀a,wd.cell? a=w.cell? a)→(Wc (P.cellsOf Pu) Pk (.slice a' Pk PC)).run P wd= .ok new wd) (c1:nc.length=Pk*P.cellsOf Pu)
  (c2:∀(i:Nat) (d:D) (v:Value),nc[i]? =some d→new[i]? =some v→bz M d v) (PX:∀v∈new.toList,v.oneCell'=true) (hn:n+Pk≤bn) (hσ:σ t= .box cs) (Pg:cs.length=n*P.cellsOf Pu) {id:Nat} (PD:M.box id=none) (hh:∀v,M.br id v=none):
  ∃v M' Pc w',(Wf ts rty args).run P w= .ok v w'∧M.Le M'∧bH w0 M' Pc (dv (dv σ t .dead) id (.box (cs++nc))) w'∧bz M' (.bP id (P.cellsOf Pu) (n+Pk)) v∧(∀j,j≠id→M'.box j=M.box j)∧∀j,j≠id→M'.br j=M.br j:=by
 obtain ⟨i,z,hi,hiz,Rs,Pn⟩:=eA hz
 have PB:i.bytes≤65536:=by simpa [Program.bytesOf,hi] using PA
 rw [Pn] at hu ns Pz c1 Pg ⊢
 cases hu with
 |bP hb Qa Ph=>
  rename_i b cap
  obtain ⟨b2,vs,ty,kb⟩:=hw.box t cs hσ
  have eb:b2=b:=by have:=kb.box;rw [hb] at this;exact (VA this).symm
  subst eb
  have PI:=kb.room _ _ _ _ Qa
  have hnle:n*i.size≤vs.size:=WG (Wo _ Ph) PI
  let gq:=vs.extract 0 (n*i.size)
  have Ss:gq.size=n*i.size:=by simp [gq,Array.size_extract];omega
  have U6:∀j,j<n*i.size→gq[j]? =vs[j]? :=by
   intro j hj
   simp only [gq,Array.getElem?_extract]
   rw [if_pos (by omega),V9]
  have QJ:∀wd:World,(∀a,wd.cell? a=w.cell? a)→(Wc i.size n (.slice (some ⟨b2,0,none⟩) n cap)).run P wd= .ok gq wd:=by
   intro wd Tt
   have:=fE (P:=P) (w:=wd) b2 0 gq (fun j v hj=>by
    rw [Tt]
    have QT:j<n*i.size:=by
     rw [← Ss]
     rcases VS j gq.size with q|q
     ·exact q
     ·simp [Wb q] at hj
    rw [U6 j QT] at hj
    simp [WE,kb.cq,hj])
   rw [Ss] at this
   exact this
  have Qu:n+Pk≤2147483648:=hn
  obtain ⟨r1,r2⟩:=e9 (P:=P) (rty:=rty) ht hx h0 h1 hi hiz g0 g1 (QJ w.drew fun _=>rfl) (Pz w fun _=>rfl) (Pz w.drew fun _=>rfl) PB Qu
  have R5:new.toList.length=Pk*i.size:=by rw [Wg,ns]
  rcases VS cap (n+Pk) with Pd|hge
  ·
   obtain ⟨n2,Sl,_,Pt⟩:=r2 Pd
   let arr:=gq++new++WR z.cells (n2 - (n+Pk))
   have PN:arr.size=n2*i.size:=by
    simp only [arr,WA,size_zeroCells,ns,Rs,Ss,← WD]
    congr 1;omega
   have hle:(cs++nc).length≤arr.size:=by rw [Vu,Pg,c1,PN,← WD];exact Wo _ (by omega)
   have Qc:∀(j:Nat) (d:D) (v:Value),(cs++nc)[j]? =some d→arr[j]? =some v→bz M d v:=by
    intro j d v hd hv
    rcases VS j cs.length with hj|hj
    ·rw [List.getElem?_append_left hj] at hd
     have Sa:j<n*i.size:=by rw [← Pg];exact hj
     have e:arr[j]? =gq[j]? :=by
      simp only [arr]
      rw [We (by rw [WA,Ss];omega),We (by rw [Ss];exact Sa)]
     rw [e,U6 j Sa] at hv
     exact kb.rep j d v hd hv
    ·rw [List.getElem?_append_right hj] at hd
     have SQ:j - cs.length<nc.length:=by
      rcases VS (j - cs.length) nc.length with q|q
      ·exact q
      ·simp [VO q] at hd
     have e:arr[j]? =new[j - cs.length]? :=by
      simp only [arr]
      rw [We (by rw [WA,Ss,ns];rw [c1] at SQ;rw [Pg] at hj SQ;omega),Array.getElem?_append_right (by rw [Ss,← Pg];exact hj),Ss,Pg]
     rw [e] at hv
     exact c2 _ d v hd hv
   have k:bH w0 (M.bk id w.heap.size) (dN own w.heap.size id) (dv (dv σ t .dead) id (.box (cs++nc))) (w.drew.alloc (.cells arr Pu)):=(hw.drew.kill t).nR (id:=id) PD hh (cs:=cs++nc) (vs:=arr) Pu hle Qc
   obtain ⟨b1,vs1,ty1,kb1⟩:=k.box id (cs++nc) (aR _ _ _)
   have eb:b1=w.heap.size:=by have:=kb1.box;simp only [MM.bk,if_true] at this;exact (VA this).symm
   have RX:vs1.size=arr.size:=by
    have h1:=kb1.cq
    rw [eb] at h1
    have h2:(w.drew.alloc (.cells arr Pu)).heap[w.heap.size]? =some (.cells arr Pu (0,0)):=by
     show (w.heap.push _)[w.heap.size]? =_
     simp
    rw [h2] at h1
    have h3:=VA h1
    simp only [Obj.cells.injEq] at h3
    rw [← h3.1]
   have k2:=k.jZ (aR _ _ _) kb1 (sz:=i.size) (len:=n+Pk) (cap:=n2) (hh _) (by rw [RX,PN];exact VF _)
   subst eb
   have Qw:(M.bk id w.heap.size).Le ((M.bk id w.heap.size).aV id i.size (.slice (some ⟨w.heap.size,0,none⟩) (n+Pk) n2)):=MM.cA (hh _)
   refine ⟨_,_,_,_,Pt,(MM.dh PD).trans Qw,k2,?_,fun j hj=>by simp [MM.bk,MM.aV,hj],fun j hj=>by funext q;simp [MM.aV,MM.bk,hj]⟩
   exact .bP (b:=w.heap.size) (by simp [MM.bk,MM.aV]) (by simp [MM.aV]) (by omega)
  ·
   have Pt:=r1 hge
   have Qm:n*i.size+new.toList.length≤vs.size:=by
    rw [R5,← WD];exact WG (Wo _ hge) PI
   have Qd:=dG (P:=P) (b:=b2) (off:=n*i.size) new.toList 0 w vs kb.cq PX (by simpa using Qm) (fun o _ h=>by have:=h.2;simp at this)
   rw [WV] at Qd
   let vs2:=cM vs (n*i.size) new.toList
   have Q2:vs2.size=vs.size:=cT _ _ _
   have Qc:∀(j:Nat) (d:D) (v:Value),(cs++nc)[j]? =some d→vs2[j]? =some v→bz M d v:=by
    intro j d v hd hv
    simp only [vs2] at hv
    rw [ef _ _ _ _ Qm] at hv
    rcases VS j cs.length with hj|hj
    ·rw [List.getElem?_append_left hj] at hd
     rw [if_neg (by rw [Pg] at hj;omega)] at hv
     exact kb.rep j d v hd hv
    ·rw [List.getElem?_append_right hj] at hd
     have SQ:j - cs.length<nc.length:=by
      rcases VS (j - cs.length) nc.length with q|q
      ·exact q
      ·simp [VO q] at hd
     rw [c1] at SQ
     rw [Pg] at hj SQ hd
     rw [if_pos ⟨hj,by rw [R5];omega⟩] at hv
     exact c2 _ d v hd (by simpa using hv)
   have hle:(cs++nc).length≤vs2.size:=by rw [Vu,Pg,c1,Q2,← R5];exact Qm
   have k:=hw.Ak kb PD hh hle Qc
   obtain ⟨b1,vs1,ty1,kb1⟩:=k.box id (cs++nc) (aR _ _ _)
   have eb:b1=b2:=by have:=kb1.box;simp only [MM.bk,if_true] at this;exact (VA this).symm
   subst eb
   have RX:vs1.size=vs.size:=by
    have h1:=kb1.cq
    rw [dq kb.cq] at h1
    have h3:=VA h1
    simp only [Obj.cells.injEq] at h3
    rw [← h3.1,Q2]
   have k2:=k.jZ (aR _ _ _) kb1 (sz:=i.size) (len:=n+Pk) (cap:=cap) (hh _) (by rw [RX];exact PI)
   have Qw:(M.bk id b1).Le ((M.bk id b1).aV id i.size (.slice (some ⟨b1,0,none⟩) (n+Pk) cap)):=MM.cA (hh _)
   refine ⟨.slice (some ⟨b1,0,none⟩) (n+Pk) cap,_,_,bo w b1 (.cells vs2 ty (0,0)),?_,(MM.dh PD).trans Qw,k2,?_,fun j hj=>by simp [MM.bk,MM.aV,hj],fun j hj=>by funext q;simp [MM.aV,MM.bk,hj]⟩
   ·rw [Pt]
    simp only [dK,V9,VV,Qd,VN,V1]
    rfl
   ·exact .bP (b:=b1) (by simp [MM.bk,MM.aV]) (by simp [MM.aV]) hge
theorem BX {w0:de} {w:World} {M:MM} {own:Nat→Option Nat} {σ:Nat→Ob} (hw:bH w0 M own σ w) {st xt Pu rty e2:TypeId} {ts:Array TypeId} {args:Array Value} (ht:P.underlying st=some (.slice Pu)) (hx:P.underlying xt=some (.slice e2)) (h0:ts[0]? =some st) (h1:ts[1]? =some xt)
  (hz:dJ P Pu=true) (PA:P.bytesOf Pu≤65536) {RA:jn} {t n Py:Nat} {cs ys nc:List D} {u u':Value} (g0:args[0]? =some u) (g1:args[1]? =some u') (hu:bz M (.bP t (P.cellsOf Pu) n) u) (RN:bz M (.aq RA Py ys) u')
  (RS:Py=P.cellsOf Pu∨ys= []) (hn:n+ys.length≤bn) (hc:eo ys=some nc) (hσ:σ t= .box cs) (Pg:cs.length=n*P.cellsOf Pu) {id:Nat} (PD:M.box id=none) (hh:∀v,M.br id v=none):
  ∃v M' Pc w',(Wf ts rty args).run P w= .ok v w'∧M.Le M'∧bH w0 M' Pc (dv (dv σ t .dead) id (.box (cs++nc))) w'∧bz M' (.bP id (P.cellsOf Pu) (n+ys.length)) v∧(∀j,j≠id→M'.box j=M.box j)∧∀j,j≠id→M'.br j=M.br j:=by
 cases RN with
 |aq b' off' vs' P8 hcap' ha' hsize' QL Rn hst' Qz=>
  rename_i a' Pk PC
  have QN:bz M (.aq RA Py ys) (.slice a' Pk PC):= .aq b' off' vs' P8 hcap' ha' hsize' QL Rn hst' Qz
  obtain ⟨new,ns,P1,Pz,PX⟩:=gw (P:=P) QN RS hw.cells
  obtain ⟨c1,c2⟩:=lS P1 hc
  subst P8
  exact wo hw ht hx h0 h1 hz PA g0 g1 hu ns Pz c1 c2 PX hn hσ Pg PD hh
theorem A2 {M:MM} {nc:List D} {new:Array Value} (hl:nc.length=new.size) (h:nc.all storable=true) (c2:∀(i:Nat) (d:D) (v:Value),nc[i]? =some d→new[i]? =some v→bz M d v):∀v∈new.toList,v.oneCell'=true:=by
 intro v hv
 obtain ⟨k,hk⟩:=List.mem_iff_getElem?.1 hv
 rw [VX] at hk
 have Pd:k<nc.length:=by
  rw [hl]
  rcases VS k new.size with q|q
  ·exact q
  ·rw [Wb q] at hk;cases hk
 exact iE (c2 k nc[k] v (by simp [Pd]) hk) (V3.1 h _ (List.getElem_mem Pd))
theorem BG {w0:de} {w:World} {M:MM} {own:Nat→Option Nat} {σ:Nat→Ob} (hw:bH w0 M own σ w) {st xt Pu rty e2:TypeId} {ts:Array TypeId} {args:Array Value} (ht:P.underlying st=some (.slice Pu)) (hx:P.underlying xt=some (.slice e2)) (h0:ts[0]? =some st) (h1:ts[1]? =some xt)
  (hz:dJ P Pu=true) (PA:P.bytesOf Pu≤65536) {t n n2 Qi S1 P4:Nat} {Uk:Option Nat} {cs nc RD:List D} {u u':Value} (g0:args[0]? =some u) (g1:args[1]? =some u') (hu:bz M (.sub t 0 S1 n (some n)) u) (RN:bz M (.sub t Qi P4 n2 Uk) u')
  (hn:n+n2≤bn) (Pw:0<n+n2) (hσ:σ t= .box cs) (hg:(cs.drop 0).take (n*P.cellsOf Pu)=nc) (TI:0+n*P.cellsOf Pu≤cs.length) (SW:(cs.drop Qi).take (n2*P.cellsOf Pu)=RD) (S9:Qi+n2*P.cellsOf Pu≤cs.length) {id:Nat} (PD:M.box id=none) (hh:∀v,M.br id v=none):
  ∃v M' Pc w',(Wf ts rty args).run P w= .ok v w'∧M.Le M'∧bH w0 M' Pc (dv (dv σ t .dead) id (.box (nc++RD))) w'∧bz M' (.bP id (P.cellsOf Pu) (n+n2)) v∧(∀j,j≠id→M'.box j=M.box j)∧∀j,j≠id→M'.br j=M.br j:=by
 obtain ⟨i,z,hi,hiz,Rs,Pn⟩:=eA hz
 have PB:i.bytes≤65536:=by simpa [Program.bytesOf,hi] using PA
 rw [Pn] at hg TI SW S9 ⊢
 cases hu with
 |sub hb hc hp ho=>
  rename_i b o2 cap
  obtain rfl:=hp n rfl
  cases RN with
  |sub hb' QL Vn Qz=>
   rename_i b' o2' PC
   obtain ⟨gq,os,QJ,oc1,oc2⟩:=jY (P:=P) (c:=cap) hw hb hσ ho hg TI
   obtain ⟨new,ns,Pz,c1,c2⟩:=jY (P:=P) (c:=PC) hw hb' hσ Qz SW S9
   obtain ⟨b2,vs,ty,kb⟩:=hw.box t cs hσ
   have eb:b2=b:=by have:=kb.box;rw [hb] at this;exact (VA this).symm
   subst eb
   have TT:=kb.len
   have Qu:cap+n2≤2147483648:=hn
   obtain ⟨r1,r2⟩:=e9 (P:=P) (rty:=rty) ht hx h0 h1 hi hiz g0 g1 (QJ w.drew fun _=>rfl) (Pz w fun _=>rfl) (Pz w.drew fun _=>rfl) PB Qu
   by_cases Sl:n2=0
   ·
    subst Sl
    have hnz:cap≠0:=by omega
    obtain rfl:=ho hnz
    have PK:new= #[]:=WN (by rw [ns];simp)
    have SL:RD= []:=List.eq_nil_of_length_eq_zero (by rw [c1];simp)
    subst PK
    subst SL
    have Pt:=r1 (VF _)
    have Qd:=dG (P:=P) (b:=b2) (off:=cap*i.size) (#[]:Array Value).toList 0 w vs kb.cq (fun v hv=>by simp at hv) (by simp;omega) (fun o _ h=>by have:=h.2;simp at this)
    rw [WV] at Qd
    let vs2:=cM vs (cap*i.size) (#[]:Array Value).toList
    have Q2:vs2.size=vs.size:=cT _ _ _
    have Qc:∀(j:Nat) (d:D) (v:Value),(nc++ [])[j]? =some d→vs2[j]? =some v→bz M d v:=by
     intro j d v hd hv
     simp only [vs2] at hv
     rw [ef _ _ _ _ (by simp;omega)] at hv
     rw [if_neg (by simp)] at hv
     rw [Wd,← hg,WX,WH] at hd
     split at hd
     ·exact kb.rep j d v hd hv
     ·cases hd
    have hle:(nc++ []).length≤vs2.size:=by rw [Wd,oc1,Q2];omega
    have k:=hw.Ak kb PD hh hle Qc
    obtain ⟨b1,vs1,ty1,kb1⟩:=k.box id (nc++ []) (aR _ _ _)
    have eb:b1=b2:=by have:=kb1.box;simp only [MM.bk,if_true] at this;exact (VA this).symm
    subst eb
    have RX:vs1.size=vs.size:=by
     have h1:=kb1.cq
     rw [dq kb.cq] at h1
     have h3:=VA h1
     simp only [Obj.cells.injEq] at h3
     rw [← h3.1,Q2]
    have k2:=k.jZ (aR _ _ _) kb1 (sz:=i.size) (len:=cap+0) (cap:=cap) (hh _) (by rw [RX];omega)
    have Qw:(M.bk id b1).Le ((M.bk id b1).aV id i.size (.slice (some ⟨b1,0,none⟩) (cap+0) cap)):=MM.cA (hh _)
    refine ⟨.slice (some ⟨b1,0,none⟩) (cap+0) cap,_,_,bo w b1 (.cells vs2 ty (0,0)),?_,(MM.dh PD).trans Qw,k2,?_,fun j hj=>by simp [MM.bk,MM.aV,hj],fun j hj=>by funext q;simp [MM.aV,MM.bk,hj]⟩
    ·rw [Pt]
     simp only [dK,V9,VV,Qd,VN,V1]
     rfl
    ·exact .bP (b:=b1) (by simp [MM.bk,MM.aV]) (by simp [MM.aV]) (VF _)
   ·
    obtain ⟨n3,hn3,_,Pt⟩:=r2 (by omega)
    let arr:=gq++new++WR z.cells (n3 - (cap+n2))
    have PN:arr.size=n3*i.size:=by
     simp only [arr,WA,size_zeroCells,ns,Rs,os,← WD]
     congr 1;omega
    have hle:(nc++RD).length≤arr.size:=by rw [Vu,oc1,c1,PN,← WD];exact Wo _ (by omega)
    have Qc:∀(j:Nat) (d:D) (v:Value),(nc++RD)[j]? =some d→arr[j]? =some v→bz M d v:=by
     intro j d v hd hv
     rcases VS j nc.length with hj|hj
     ·rw [List.getElem?_append_left hj] at hd
      have e:arr[j]? =gq[j]? :=by
       simp only [arr]
       rw [We (by rw [WA,os,← oc1];omega),We (by rw [os,← oc1];exact hj)]
      rw [e] at hv
      exact oc2 j d v hd hv
     ·rw [List.getElem?_append_right hj] at hd
      have SQ:j - nc.length<RD.length:=by
       rcases VS (j - nc.length) RD.length with q|q
       ·exact q
       ·simp [VO q] at hd
      have e:arr[j]? =new[j - nc.length]? :=by
       simp only [arr]
       rw [We (by rw [WA,os,ns,← oc1,← c1];omega),Array.getElem?_append_right (by rw [os,← oc1];exact hj),os,← oc1]
      rw [e] at hv
      exact c2 _ d v hd hv
    have k:bH w0 (M.bk id w.heap.size) (dN own w.heap.size id) (dv (dv σ t .dead) id (.box (nc++RD))) (w.drew.alloc (.cells arr Pu)):=(hw.drew.kill t).nR (id:=id) PD hh (cs:=nc++RD) (vs:=arr) Pu hle Qc
    obtain ⟨b1,vs1,ty1,kb1⟩:=k.box id (nc++RD) (aR _ _ _)
    have eb:b1=w.heap.size:=by have:=kb1.box;simp only [MM.bk,if_true] at this;exact (VA this).symm
    have RX:vs1.size=arr.size:=by
     have h1:=kb1.cq
     rw [eb] at h1
     have h2:(w.drew.alloc (.cells arr Pu)).heap[w.heap.size]? =some (.cells arr Pu (0,0)):=by
      show (w.heap.push _)[w.heap.size]? =_
      simp
     rw [h2] at h1
     have h3:=VA h1
     simp only [Obj.cells.injEq] at h3
     rw [← h3.1]
    have k2:=k.jZ (aR _ _ _) kb1 (sz:=i.size) (len:=cap+n2) (cap:=n3) (hh _) (by rw [RX,PN];exact VF _)
    subst eb
    have Qw:(M.bk id w.heap.size).Le ((M.bk id w.heap.size).aV id i.size (.slice (some ⟨w.heap.size,0,none⟩) (cap+n2) n3)):=MM.cA (hh _)
    refine ⟨_,_,_,_,Pt,(MM.dh PD).trans Qw,k2,?_,fun j hj=>by simp [MM.bk,MM.aV,hj],fun j hj=>by funext q;simp [MM.aV,MM.bk,hj]⟩
    exact .bP (b:=w.heap.size) (by simp [MM.bk,MM.aV]) (by simp [MM.aV]) (by omega)
end
def MM.Av (M:MM) (b n:Nat) (vs:Array Value):MM:=M.bK b fun o=>if o<n then vs[o]? else none
theorem MM.Eh {M:MM} {b n:Nat} {vs:Array Value} (h:∀o,M.cell b o=none):M.Le (M.Av b n vs):=by
 refine ⟨fun c o v hc=> ?_,fun _ _ x=>x,fun _ _ _ x=>x,fun _ x=>x⟩
 have:c≠b:=fun e=>by rw [e,h o] at hc;cases hc
 simp only [MM.Av,MM.bK,this,if_false]
 exact hc
theorem bH.freeze {w0:de} {w:World} {M:MM} {own:Nat→Option Nat} {σ:Nat→Ob} (h:bH w0 M own σ w) {id b n:Nat} {cs:List D} {vs:Array Value} {ty:TypeId} (k:mP w0 M own id cs w b vs ty):
  bH w0 (M.Av b n vs) own (dv σ id .dead) w:=by
 have le:M.Le (M.Av b n vs):=MM.Eh k.none
 have Px:∀ {i c:Nat},own c=some i→i≠id→c≠b:=fun hi e ec=>by rw [ec,k.own] at hi;exact e (VA hi).symm
 have P7:∀ {c o:Nat},c≠b→M.cell c o=none→(M.Av b n vs).cell c o=none:=fun hc hn=>by simp only [MM.Av,MM.bK,hc,if_false];exact hn
 refine ⟨h.below,?_,?_,h.owned,?_,?_,?_,?_,h.dE⟩
 ·intro c o v hc
  by_cases e:c=b
  ·subst e
   simp only [MM.Av,MM.bK,if_true] at hc
   split at hc
   ·simp [WE,k.cq,hc]
   ·cases hc
  ·simp only [MM.Av,MM.bK,e,if_false] at hc
   exact h.cells c o v hc
 ·intro c o v hc Pd
  have e:c≠b:=fun e=>k.base (e▸Pd)
  simp only [MM.Av,MM.bK,e,if_false] at hc
  exact h.gq c o v hc Pd
 ·intro i Q5 hi
  by_cases e:i=id
  ·rw [e,aR] at hi;cases hi
  ·rw [aX e] at hi
   obtain ⟨c,vs2,ty2,k2⟩:=h.box i Q5 hi
   exact ⟨c,vs2,ty2,k2.box,k2.base,k2.own,fun o=>P7 (Px k2.own e) (k2.none o),k2.cq,k2.len,fun j d v a b=>(k2.rep j d v a b).mono le,k2.room⟩
 ·intro i ver sz hi
  by_cases e:i=id
  ·rw [e,aR] at hi;cases hi
  ·rw [aX e] at hi
   obtain ⟨a,len,cap,k2⟩:=h.bg i ver sz hi
   refine ⟨a,len,cap,k2.br,k2.last,?_⟩
   rcases k2.room with r|⟨c,vs2,ty2,fz,ha,r⟩
   ·exact .inl r
   ·exact .inr ⟨c,vs2,ty2,fz,ha,r.base,r.own,r.cq,r.fz,r.cap,fun o ho=>P7 (Px r.own e) (r.none o ho)⟩
 ·intro i F hi
  by_cases e:i=id
  ·rw [e,aR] at hi;cases hi
  ·rw [aX e] at hi
   obtain ⟨c,Pf,clock,q⟩:=h.mp i F hi
   exact ⟨c,Pf,clock,q.box,q.base,q.own,fun o=>P7 (Px q.own e) (q.none o),q.cq,q.fits⟩
 ·intro i k2 t ps ag bd hi
  by_cases e:i=id
  ·rw [e,aR] at hi;cases hi
  ·rw [aX e] at hi
   obtain ⟨l,r,q⟩:=h.lp i k2 t ps ag bd hi
   exact ⟨l,r,q.bO le q.own q.cq⟩
def rows (sz:Nat):Nat→List D→List D
  |0,_=> []
  |n+1,cs=> .agg (cs.take sz)::rows sz n (cs.drop sz)
theorem Di {w0:de} {w:World} {M:MM} {own:Nat→Option Nat} {id b n cap:Nat} {cs:List D} {vs:Array Value} {ty:TypeId} (k:mP w0 M own id cs w b vs ty) (hl:cs.length=n) (Ph:n≤cap) (hb:cs.all isByte=true):
  bz (M.Av b cs.length vs) (.aq .no 1 cs) (.slice (some ⟨b,0,none⟩) n cap):=by
 have key:∀ {i:Nat} {x:D},cs[i]? =some x→i<cs.length∧∃m,x= .int .u8 m∧vs[i]? =some (.int .u8 m):=by
  intro i x h
  obtain ⟨Pd,_⟩:=List.getElem?_eq_some_iff.1 h
  rw [V3] at hb
  obtain ⟨m,rfl⟩:=oe (hb x (V5 h))
  obtain ⟨v,hv,hr⟩:=jM k.len k.rep h
  cases hr
  exact ⟨Pd,m,rfl,hv⟩
 refine .aq b 0 (fun i j=>vs.getD (i*1+j) .nilFunc) hl Ph (fun _=>rfl) ?_ ?_ ?_ ?_ trivial
 ·intro i x h1
  obtain ⟨Pd,m,rfl,hv⟩:=key h1
  exact ⟨_,rfl,rfl⟩
 ·intro i x c' j c h1 h2 h3
  obtain ⟨Pd,m,rfl,hv⟩:=key h1
  simp only [D.cells,VI] at h2
  subst h2
  cases j with
  |zero=>simp only [MM.Av,MM.bK,if_true,V9,Nat.mul_one,WV,if_pos Pd,V6,hv,Wk]
  |succ j=>simp at h3
 ·intro i x c' j c h1 h2 h3
  obtain ⟨Pd,m,rfl,hv⟩:=key h1
  simp only [D.cells,VI] at h2
  subst h2
  cases j with
  |zero=>
   simp only [Wt,VI] at h3
   subst h3
   simp only [Nat.mul_one,WV,V6,hv,Wk]
   exact .int _ _
  |succ j=>simp at h3
 ·intro i x c' c h1 h2 h3
  obtain ⟨Pd,m,rfl,hv⟩:=key h1
  simp only [D.cells,VI] at h2
  subst h2
  rw [List.mem_singleton] at h3
  subst h3
  rfl
theorem bW.Av {P:Program} {f:FuncId} {args:List D} {s s':List Ob} {id n:Nat} {cs:List D} (h:bW P f args s (.bP id 1 n) s') (hs:s'.getD id .dead= .box cs) (hl:cs.length=n) (hb:cs.all isByte=true):
  bW P f args s (.aq .no 1 cs) (s'.set id .dead):=by
 have Pd:id<s'.length:=by
  rcases VS id s'.length with q|q
  ·exact q
  ·rw [VJ,VO q] at hs;cases hs
 refine ⟨h.CF,by rw [Vv];exact h.len,fun w0 M own w vs hw P6 hr=>Calls.mono (h.run w0 M own w vs hw P6 hr) ?_⟩
 rintro e w' ⟨v,M',Pc,rfl,q1,q2,q3,q4⟩
 cases q4 with
 |bP QW Qa Ph=>
  rename_i b cap
  obtain ⟨b2,vb,ty,kb⟩:=q1.box id cs hs
  have eb:b2=b:=by have:=kb.box;rw [QW] at this;exact (VA this).symm
  subst eb
  refine ⟨_,M'.Av b2 cs.length vb,Pc,rfl,?_,?_,q3.trans (MM.Eh kb.none),Di kb hl Ph hb⟩
  ·rw [ij Pd];exact q1.freeze (n:=cs.length) kb
  ·rw [Vv];exact q2
section
variable {ρ':Type} {P:Program} {r:ρ'} {o:Oper} {ρ:Operand→D}
theorem foldl_push (l:List D) (h:l.all isByte=true):∃ns:List Int,l=ns.map (fun n=>D.int .u8 n)∧CW l=ns.foldl (fun r n=>r.push (UInt8.ofNat n.toNat)) ByteArray.empty:=by
 have key:∀(l:List D) (s:ByteArray),l.all isByte=true→∃ns:List Int,l=ns.map (fun n=>D.int .u8 n)∧(⟨s.data++(l.map byteOf).toArray⟩:ByteArray)=ns.foldl (fun r n=>r.push (UInt8.ofNat n.toNat)) s:=by
  intro l
  induction l with
  |nil=>intro s _;exact ⟨[],rfl,by simp⟩
  |cons d t ih=>
   intro s h
   rw [List.all_cons,VG] at h
   obtain ⟨n,rfl⟩:∃n,d= .int .u8 n:=by
    have h1:=h.1
    unfold isByte at h1
    split at h1
    ·exact ⟨_,rfl⟩
    ·cases h1
   obtain ⟨ns,e1,e2⟩:=ih (s.push (UInt8.ofNat n.toNat)) h.2
   refine ⟨n::ns,by simp [e1],?_⟩
   rw [List.foldl_cons,← e2]
   congr 1
   apply Array.ext'
   simp [byteOf,ByteArray.push]
 obtain ⟨ns,e1,e2⟩:=key l ByteArray.empty h
 refine ⟨ns,e1,?_⟩
 rw [← e2]
 unfold CW
 congr 1
 apply Array.ext'
 simp [ByteArray.empty,ByteArray.emptyWithCapacity]
 rfl
theorem Cq {z:Z P} {src dst:TypeId} {x:Operand} {K:Z P→gp→Option ρ'} (ho:o.op= .convert src dst x) (h:EF P z src dst (ρ x) K=some r):
  ∃e z',K z' e=some r∧(z'.c→z.c∧dF P o ρ e)∧((∃d,e= .pure d)∨∃q m,e= .new q m):=by
 unfold EF at h
 split at h
 ·rename_i hs hd hx
  refine ⟨_,z,h,fun c=>⟨c,bM fun M w a _ hr=> ?_⟩,.inl ⟨_,rfl⟩⟩
  have h1:=cu (hr x (by simp [ho,VQ])) hx
  rename_i d k _ n _
  exact ⟨.int _ _,by simp [execOp,ho,h1,convert,run_underlying hs,run_underlying hd,Conv.intToInt],.int _ _⟩
 ·rename_i hs hd hx
  refine ⟨_,z,h,fun c=>⟨c,bM fun M w a _ hr=> ?_⟩,.inl ⟨_,rfl⟩⟩
  have h1:=hr x (by simp [ho,VQ])
  rw [hx] at h1
  generalize hv:a.eval x=v at h1
  cases h1
  exact ⟨.string _,by simp [execOp,ho,hv,convert,run_underlying hs,run_underlying hd],.str _⟩
 ·rename_i e s hs hd hx
  split at h
  ·rename_i he
   obtain ⟨Qu,h⟩:=bl h
   rw [Wy] at Qu
   refine ⟨_,z,h,fun c=>⟨c,?_⟩,.inr ⟨_,_,rfl⟩⟩
   intro w0 M own σ w a id hw hr Pp next Q hn
   have h1:=hr x (by simp [ho,VQ])
   rw [hx] at h1
   generalize hv:a.eval x=v at h1
   cases h1
   let cap:=grownCap w s.size 0 e
   have Ph:s.size≤cap:=grownCap_ge w _ _ _
   let arr:Array Value:=(s.data.map fun b=>Value.int .u8 b.toNat)++Array.replicate (cap - s.size) (.int .u8 0)
   have UX:s.data.size=s.size:=rfl
   have PN:arr.size=cap:=by simp [arr,UX];omega
   have Qn:eO M 1 (hO s) arr:=by
    have hb:∀ {i:Nat} {x:D},(hO s)[i]? =some x→∃c,s.data[i]? =some c∧x=wM c:=by
     intro i x hi
     unfold hO at hi
     rw [VW,VU] at hi
     obtain ⟨c,hc,rfl⟩:=hi
     exact ⟨c,by simpa using hc,rfl⟩
    refine ⟨?_,?_,?_,?_⟩
    ·rw [PN,Nat.mul_one];simp [hO,UX];exact Ph
    ·intro i x hi
     obtain ⟨c,_,rfl⟩:=hb hi
     exact ⟨[wM c],rfl,rfl⟩
    ·intro i x cs j c hi Pg hj
     obtain ⟨b,RJ,rfl⟩:=hb hi
     simp only [wM,D.cells,VI] at Pg
     subst Pg
     cases j with
     |succ j=>simp at hj
     |zero=>
      simp at hj
      subst hj
      refine ⟨.int .u8 b.toNat,?_,.int _ _⟩
      have Pd:i<s.data.size:=by
       rcases VS i s.data.size with q|q
       ·exact q
       ·simp [Wb q] at RJ
      simp only [arr,Nat.mul_one,WV]
      rw [We (by simpa using Pd)]
      simp [RJ]
    ·intro i x cs c hi Pg Rf
     obtain ⟨b,_,rfl⟩:=hb hi
     simp only [wM,D.cells,VI] at Pg
     subst Pg
     simp at Rf
     subst Rf
     rfl
   have hlen:(hO s).length=s.size:=by simp [hO,UX]
   have Rp:=lG (M:=M) (w:=w) (wd:=w.drew) (arr:=arr) (ty:=e) (n:=s.size) hw.cells rfl (Below.refl _ _).drew (arr.size,arr.size+1)
   obtain ⟨QY,Qw⟩:=hw.ext Rp rfl rfl rfl
   have Rd:(w.drew.alloc (.cells arr e (arr.size,arr.size+1))).heap[w.heap.size]? =some (.cells arr e (arr.size,arr.size+1)):=by
    show (w.heap.push _)[w.heap.size]? =_
    simp
   have P9:own w.heap.size=none:=by
    cases e:own w.heap.size with
    |none=>rfl
    |some q=>have:=hw.owned _ _ e;omega
   obtain ⟨Pc,hw3⟩:=QY.kq (id:=id) (ver:=0) (fun v _=>Pp.2 v) (a:=some ⟨w.heap.size,0,none⟩) (len:=s.size) (cap:=cap) 1
    (.inr ⟨w.heap.size,arr,e,(arr.size,arr.size+1),rfl,hw.below.new,.inl P9,Rd,fun o ho h=>by have:=h.1;simp at this;omega,⟨by rw [PN];omega,WG (grownCap_le_maxLen w _ _ _ (by unfold maxLen;omega)) (by unfold maxLen;omega)⟩,fun o ho=>by
     simp only [MM.lay,MM.bK,if_true];rw [if_neg (by omega)]⟩)
   have QS:=MM.cA (M:=M.lay w.heap.size arr s.size) (id:=id) (ver:=0) (v:= .slice (some ⟨w.heap.size,0,none⟩) s.size cap) (Pp.2 0)
   refine cG (v:= .slice (some ⟨w.heap.size,0,none⟩) s.size cap) (w':=w.drew.alloc (.cells arr e (arr.size,arr.size+1))) ?_ (hn _ _ Pc _ (Qw.trans QS) ⟨fun _ _=>rfl,fun j hj=>by funext k;simp [MM.aV,hj,MM.lay,MM.bK]⟩ hw3 ?_)
   ·have SG:(w.drew.alloc (.cells arr e)).freeze ⟨w.heap.size,arr.size,none⟩ 1=w.drew.alloc (.cells arr e (arr.size,arr.size+1)):=by
     unfold World.freeze World.alloc
     simp only [Nat.one_ne_zero,if_false]
     congr 1
     apply Array.ext_getElem?
     intro k
     rw [Array.getElem?_modify]
     by_cases e1:w.heap.size=k
     ·subst e1
      rw [if_pos rfl]
      show Option.map _ ((w.heap.push _)[w.heap.size]?)=(w.heap.push _)[w.heap.size]?
      simp
     ·rw [if_neg e1]
      show (w.heap.push _)[k]? =(w.heap.push _)[k]?
      rw [Array.getElem?_push,Array.getElem?_push,if_neg (Ne.symm e1),if_neg (Ne.symm e1)]
    have Sz:(w.drew.alloc (.cells arr e)).shape? w.heap.size=some (e,arr.size):=by
     unfold World.shape?
     have:(w.drew.alloc (.cells arr e)).heap[w.heap.size]? =some (.cells arr e):=by
      show (w.heap.push _)[w.heap.size]? =_
      simp
     rw [this]
    have Sb:(Question.appendCap s.size 0 e).forced=false:=rfl
    have hch:(choose (.appendCap s.size 0 e)).run P w= .ok cap w.drew:=by
     rw [run_choose,Sb];rfl
    have Tq:(newRow e arr).run P w.drew= .ok ⟨w.heap.size,0,none⟩ (w.drew.alloc (.cells arr e)):=by first|(simp [newRow];done)|(simp [newRow];rfl)
    simp only [execOp,ho,hv,convert,VV,run_underlying hs,run_underlying hd,run_underlying he,VN,Conv.stringToBytes,hch]
    rw [show (newRow e ((s.data.map fun b=>Value.int .u8 b.toNat)++Array.replicate (cap - s.size) (.int .u8 0)))=newRow e arr from rfl,Tq]
    simp only [VN,markStringish,VV,run_shape,Sz,run_freeze,SG,V1]
   ·have h5:=kZ (M:=M) (b:=w.heap.size) (o:= .no) (cap:=cap) (n:=s.size) Qn (cR hw.cells (VF _)) (by rw [hlen];exact Ph) (by rw [hlen];omega) trivial
    rw [hlen] at h5
    exact (h5.mono QS).flag _ (by simp [MM.kA,MM.aV])
  ·cases h
 ·rename_i e ow sz xs hs hd hx
  split at h
  ·rename_i he
   obtain ⟨z',h1,h2⟩:=cK h
   refine ⟨_,z',h1,fun c=>⟨(h2 c).1,bM fun M w a hw hr=> ?_⟩,.inl ⟨_,rfl⟩⟩
   have PU:=hr x (by simp [ho,VQ])
   rw [hx] at PU
   generalize hv:a.eval x=v at PU
   obtain ⟨ns,e1,e2⟩:=foldl_push xs (h2 c).2
   cases PU with
   |aq b off vs hl Ph ha Po hc hrr Pr Qz=>
    rename_i ad len cap
    have Pm:bz M (.aq ow sz xs) (.slice ad len cap):= .aq b off vs hl Ph ha Po hc hrr Pr Qz
    have T7:sz=1∨xs= []:=by
     cases xs with
     |nil=>exact .inr rfl
     |cons d t=>
      left
      obtain ⟨cs,q1,q2⟩:=Po 0 d rfl
      cases ns with
      |nil=>simp at e1
      |cons n ns=>simp at e1;rw [e1.1] at q1;simp [D.cells] at q1;subst q1;simpa using q2.symm
    obtain ⟨arr,os,orow,QJ,_⟩:=gw (P:=P) Pm T7 hw
    have PN:arr=(ns.map (Value.int .u8)).toArray:=by
     apply Array.ext_getElem?
     intro k
     have hlen:xs.length=ns.length:=by rw [e1];simp
     rcases VS k ns.length with q|q
     ·have TR:xs[k]? =some (.int .u8 ns[k]):=by rw [e1];simp [q]
      obtain ⟨u,hu,hru⟩:=orow.get k _ [.int .u8 ns[k]] 0 _ TR rfl rfl
      cases hru
      rw [Nat.mul_one,WV] at hu
      rw [hu]
      simp [q]
     ·rw [Wb (by omega),Wb (by simpa using q)]
    have UL:(Conv.bytesToString (.slice ad len cap)).run P w= .ok (.string (CW xs)) w:=by
     rw [e2]
     cases ad with
     |none=>
      have:xs= []:=by
       cases xs with
       |nil=>rfl
       |cons d t=>have:=ha (by simp);cases this
      subst this
      have:ns= []:=by simpa using e1.symm
      subst this
      simp [Conv.bytesToString]
     |some ad=>
      have:=QJ w (fun _=>rfl)
      simp only [Wc,Nat.mul_one] at this
      rw [PN] at this
      exact run_bytesToString w ad len cap ns this
    refine ⟨.string (CW xs),?_,.str _⟩
    simp only [execOp,ho,hv,VV,run_convert_bytes_string w src dst e ad len cap hs he hd,UL,VN,V1]
  ·cases h
 ·cases h
theorem pU {z:Z P} {st xt Pu e2:TypeId} {ts:Array TypeId} {id off sz n S1:Nat} {s:List Ob} {K:Z P→gp→Option ρ'} {args:Act→Array Value} {ux uy:Act→Value}
  (Ps:∀(a:Act) (w w':World) (v:Value),(Wf ts o.type (args a)).run P w= .ok v w'→(execOp a.eval o).run P w= .ok (.value v) w') (ht:P.underlying st=some (.slice Pu)) (hx:P.underlying xt=some (.slice e2)) (h0:ts[0]? =some st) (h1:ts[1]? =some xt)
  (g0:∀a,(args a)[0]? =some (ux a)) (g1:∀a,(args a)[1]? =some (uy a)) (Sm:∀(M:MM) (a:Act),(∀q∈o.op.operands,bz M (ρ q) (a.eval q))→bz M (.aq .tight S1 []) (ux a))
  (Sd:∀(M:MM) (a:Act),(∀q∈o.op.operands,bz M (ρ q) (a.eval q))→∃b o2 c,uy a= .slice (some ⟨b,o2,none⟩) n c∧M.box id=some b∧(n≠0→o2=off))
  (h:zO P z Pu id off sz n s K=some r):∃e z',K z' e=some r∧(z'.c→z.c∧gv P o ρ s e):=by
 unfold zO at h
 split at h
 ·rename_i cs Pg
  obtain ⟨hchk,h⟩:=bl h
  simp only [VG,Wy,VZ] at hchk
  obtain ⟨⟨hzero,Po⟩,hb⟩:=hchk
  obtain ⟨z1,h,hz1⟩:=fm h
  subst Po
  split at h
  ·rename_i q r0 hzo0
   split at h
   ·rename_i R7
    rw [VZ] at R7
    split at h
    ·rename_i l i k nc hg rest
     obtain ⟨z2,h,Ql⟩:=cK h
     refine ⟨_,z2,h,fun hc=> ?_⟩
     obtain ⟨⟨e1,e2',e3⟩,PT⟩:=(Ql hc).1
     have TG:=(Ql hc).2
     subst e1 e2' e3
     refine ⟨(hz1 PT).1,by simp,?_⟩
     intro w0 M own w a hw P6 hr next Q hn
     obtain ⟨b,o2,c,huv,QW,QE⟩:=Sd M a hr
     obtain ⟨new,ns,Pz,c1,c2⟩:=jY (P:=P) (c:=c) hw QW Pg QE hg.1 hg.2
     have Un:nc.length=n:=by rw [c1,R7,Nat.mul_one]
     obtain ⟨P1,PX⟩:=qw (by rw [c1,ns]) TG c2
     have Sq:=g1 a
     rw [huv] at Sq
     have PU:=Sm M a hr
     obtain ⟨v,M',Pc,w',q1,q2,q3,q4,q5,q6⟩:=oY (rty:=o.type) (ys:=nc) hw ht hx h0 h1 hzero hb (g0 a) Sq PU Un (by rw [ns,Un]) (by rw [R7];exact P1) Pz PX (.inr rfl) (by rw [Vy,V9,Un];exact (hz1 PT).2) (id:=s.length) (ver:=0) (fun v _=>P6.2 _ v (VF _))
      (fun ad len cap e=>by
       rw [e] at PU
       cases PU with
       |aq b off vs hl Ph ha Po hc hr Pr ho=>exact .inl ho)
     rw [List.nil_append] at q4
     refine cG (Ps a w w' v q1) (hn v M' Pc w' q2 ⟨fun i hi=> ?_,fun i q hi=> ?_⟩ ?_ q4)
     ·simp only [Vu,Vx,Vy] at hi
      rw [q5];exact P6.1 i (by omega)
     ·simp only [Vu,Vx,Vy] at hi
      rw [q6 i (by omega)];exact P6.2 i q (by omega)
     ·rw [gE];exact q3
    ·cases h
   ·cases h
  have hh:=gQ h
  clear h
  obtain ⟨z2,⟨h,Ql⟩|⟨h,Ql⟩⟩:=hh
  ·split at h
   ·rename_i l i k nc hg rest S0
    refine ⟨_,_,h,fun hc=> ?_⟩
    obtain ⟨⟨e1,e2',e3⟩,PW⟩:=hc
    subst e1 e2' e3
    have PT:=(Ql PW).1
    have Pw:=(Ql PW).2
    rw [WC] at Pw
    refine ⟨(hz1 PT).1,by simp,?_⟩
    intro w0 M own w a hw P6 hr next Q hn
    obtain ⟨b,o2,c,huv,QW,QE⟩:=Sd M a hr
    obtain ⟨new,ns,Pz,c1,c2⟩:=jY (P:=P) (c:=c) hw QW Pg QE hg.1 hg.2
    have Sq:=g1 a
    rw [huv] at Sq
    obtain ⟨v,M',Pc,w',q1,q2,q3,q4,q5,q6⟩:=tN (rty:=o.type) hw ht hx h0 h1 hzero hb (g0 a) Sq (Sm M a hr) ns Pz c1 c2 (hz1 PT).2 Pw (id:=s.length) (P6.1 _ (VF _)) (fun v=>P6.2 _ v (VF _))
    refine cG (Ps a w w' v q1) (hn v M' Pc w' q2 ⟨fun i hi=> ?_,fun i q hi=> ?_⟩ ?_ q4)
    ·simp only [Vu,Vx,Vy] at hi
     rw [q5 i (by omega)];exact P6.1 i (by omega)
    ·simp only [Vu,Vx,Vy] at hi
     rw [q6 i (by omega)];exact P6.2 i q (by omega)
    ·rw [gE];exact q3
   ·cases h
  ·refine ⟨_,_,h,fun PW=> ?_⟩
   have PT:=(Ql PW).1
   have Q7:=(Ql PW).2
   have U3:n=0:=by
    rcases Nat.eq_zero_or_pos n with q|q
    ·exact q
    ·have q':Wx 0 n=true:=by rw [WC];exact q
     rw [q'] at Q7;cases Q7
   subst U3
   refine ⟨(hz1 PT).1,bM fun M w a PG hr=> ?_⟩
   have r1:=Sm M a hr
   obtain ⟨b2,o2,c2,huv,_,_⟩:=Sd M a hr
   have e1:=g0 a
   have e2:=g1 a
   rw [huv] at e2
   have hex:=Ps a w w
   generalize ux a=u1 at r1 e1
   obtain ⟨i,zz,hi,hiz,Rs,Pn⟩:=eA hzero
   have PB:i.bytes≤65536:=by simpa [Program.bytesOf,hi] using hb
   cases r1 with
   |aq b off vs hl Ph ha Po hc hrr Pr ho=>
    rename_i ad len cap
    have SU:len=0:=by simpa using hl.symm
    subst SU
    have S7:cap=0:=ho
    subst S7
    have Rl:∀(a3:Option Addr) (k:Nat) (wd:World),(Wc i.size 0 (.slice a3 0 k)).run P wd= .ok #[] wd:=fun a3 k wd=>by cases a3<;>simp [Wc,loadCells,loadCellsFrom]
    obtain ⟨q1,_⟩:=e9 (P:=P) (rty:=o.type) (w:=w) ht hx h0 h1 hi hiz e1 e2 (Rl _ _ _) (Rl _ _ _) (Rl _ _ _) PB (by omega)
    have q2:=q1 (VF _)
    refine ⟨.slice ad 0 0,hex _ ?_,.aq b off (fun _ _=> .nilFunc) rfl (VF _) (fun q=>absurd rfl q) (fun i x hx=>by simp at hx) (fun i x cs j c hx=>by simp at hx) (fun i x cs j c hx=>by simp at hx) (fun i x cs c hx=>by simp at hx) rfl⟩
    rw [q2]
    cases ad<;>simp [VV,VN,V1,storeCells]
 ·cases h
theorem Dc {z:Z P} {s:List Ob} {x:D} {size:Nat} {K:Z P→List D→Nat→Option ρ'} (h:HT z s x size K=some r):
  ∃z' nc m,K z' nc m=some r∧(z'.c→z.c∧∀(w0:de) (M:MM) (own:Nat→Option Nat) (w:World) (u:Value),bH w0 M own (bE s) w→bz M x u→
   ∃(a:Option Addr) (c:Nat) (new:Array Value),u= .slice a m c∧new.size=m*size∧(∀wd:World,(∀a,wd.cell? a=w.cell? a)→(Wc size m u).run P wd= .ok new wd)∧nc.length=m*size∧∀(i:Nat) (d:D) (v:Value),nc[i]? =some d→new[i]? =some v→bz M d v):=by
 have bx:∀ {id off n:Nat} {q:Bool},(∀(M:MM) (u:Value),bz M x u→∃b o2 c,u= .slice (some ⟨b,o2,none⟩) n c∧M.box id=some b∧(n≠0→o2=off))→fj q (nj z s id off n size K)=some r→
   ∃z' nc m,K z' nc m=some r∧(z'.c→z.c∧∀(w0:de) (M:MM) (own:Nat→Option Nat) (w:World) (u:Value),bH w0 M own (bE s) w→bz M x u→
   ∃(a:Option Addr) (c:Nat) (new:Array Value),u= .slice a m c∧new.size=m*size∧(∀wd:World,(∀a,wd.cell? a=w.cell? a)→(Wc size m u).run P wd= .ok new wd)∧nc.length=m*size∧∀(i:Nat) (d:D) (v:Value),nc[i]? =some d→new[i]? =some v→bz M d v):=by
  intro id off n q hu h
  obtain ⟨_,h⟩:=bl h
  unfold nj at h
  split at h
  ·rename_i cs Pg
   split at h
   ·rename_i l i k nc hg rest S0
    refine ⟨_,_,_,h,fun hc=>⟨hc.2,fun w0 M own w u hw hr=> ?_⟩⟩
    obtain ⟨⟨e1,e2,e3⟩,_⟩:=hc
    subst e1 e2 e3
    obtain ⟨b,o2,c,rfl,QW,QE⟩:=hu M u hr
    obtain ⟨new,ns,Pz,c1,c2⟩:=jY (P:=P) (c:=c) hw QW Pg QE hg.1 hg.2
    exact ⟨_,_,new,rfl,ns,Pz,c1,c2⟩
   ·cases h
  ·cases h
 unfold HT at h
 split at h
 ·obtain ⟨hk,h⟩:=bl h
  obtain ⟨z',nc,h,hz⟩:=ql h
  refine ⟨z',nc,_,h,fun hc=>⟨(hz hc).1,fun w0 M own w u hw hr=> ?_⟩⟩
  cases hr with
  |aq b off vs hl Ph ha Po S7 hr0 Pr ho=>
   rename_i a len cap
   have Pm:=bz.aq b off vs hl Ph ha Po S7 hr0 Pr ho
   obtain ⟨new,ns,P1,Pz,_⟩:=gw (P:=P) Pm (gj hk) hw.cells
   obtain ⟨c1,c2⟩:=lS P1 (hz hc).2
   subst hl
   exact ⟨_,_,new,rfl,ns,Pz,c1,c2⟩
 ·exact bx (fun M u hr=>by cases hr with|bP hb Qa hc=>exact ⟨_,0,_,rfl,hb,fun _=>rfl⟩) h
 ·exact bx (fun M u hr=>by cases hr with|sub hb hc hp QE=>exact ⟨_,_,_,rfl,hb,QE⟩) h
 ·cases h
theorem oP {z:Z P} {c:Call} {x y:Operand} {rest:List Operand} {s:List Ob} {K:Z P→gp→Option ρ'} {ty e:TypeId} {id off n:Nat} (ho:o.op= .call c) (hc:c.callee= .builtin .copy) (Pq:c.args.toList=x::y::rest) (t0:c.argTypes[0]? =some ty) (ht:P.underlying ty=some (.slice e)) (hk:known P e=true) (hs:P.cellsOf e=1)
  (hu:∀(M:MM) (u:Value),bz M (ρ x) u→∃b o2 c,u= .slice (some ⟨b,o2,none⟩) n c∧M.box id=some b∧(n≠0→o2=off)) (h:td z s id off n (ρ y) K=some r):∃e z',K z' e=some r∧(z'.c→z.c∧gv P o ρ s e):=by
 have hx:x∈o.op.operands:=by
  have:x∈c.args.toList:=by rw [Pq];simp
  simp only [ho,VQ,W1,hc];simpa using this
 have hy:y∈o.op.operands:=by
  have:y∈c.args.toList:=by rw [Pq];simp
  simp only [ho,VQ,W1,hc];simpa using this
 unfold td at h
 obtain ⟨z1,nc,m,h,hz1⟩:=Dc h
 obtain ⟨z2,h,Ql⟩:=cK h
 obtain ⟨z3,h,hz3⟩:=cK h
 split at h
 ·rename_i cs Pg
  split at h
  ·rename_i l i xs l' hg Vm S0
   refine ⟨_,_,h,fun Rf=> ?_⟩
   obtain ⟨⟨e1,e2,e3⟩,Rk⟩:=Rf
   subst e1 e2 e3
   have PW:=(hz3 Rk).1
   have TG:=(hz3 Rk).2
   have PT:=(Ql PW).1
   have Vl:=(Ql PW).2
   rw [Wy] at Vl
   have Pd:id<s.length:=cH (by rw [Pg];intro e;cases e)
   refine ⟨(hz1 PT).1,by simp,?_⟩
   intro w0 M own w a hw P6 hr next Q hn
   obtain ⟨b,o2,cc,Sm,QW,QE⟩:=hu M _ (hr x hx)
   obtain ⟨sa,sc,new,Sd,ns,Pz,c1,c2⟩:=(hz1 PT).2 w0 M own w _ hw (hr y hy)
   rw [Nat.mul_one] at ns c1
   obtain ⟨P1,PX⟩:=qw (by rw [c1,ns]) TG c2
   obtain ⟨b2,vs,bt,kb⟩:=hw.box id l Pg
   have eb:b2=b:=by have:=kb.box;rw [QW] at this;exact (VA this).symm
   subst eb
   have R5:new.toList.length=m:=by rw [Wg,ns]
   have hle:=kb.len
   have Ro:i+m≤l.length:=by rw [← c1];exact hg.2
   have Pr:(storeCells ⟨b2,o2,none⟩ new.toList).run P w= .ok () (bo w b2 (.cells (cM vs i new.toList) bt (0,0))):=by
    by_cases hm:m=0
    ·have PK:new= #[]:=WN (by rw [ns,hm])
     subst PK
     have:=dG (P:=P) (b:=b2) (off:=i) (fz:=(0,0)) ([]:List Value) 0 w vs kb.cq (by simp) (by simp;omega) (fun o _ h=>by have:=h.2;simp at this)
     simp only [storeCells,V1,WV] at this ⊢
     exact this
    ·obtain rfl:=QE (by omega)
     have:=dG (P:=P) (b:=b2) (off:=o2) (fz:=(0,0)) new.toList 0 w vs kb.cq PX (by rw [R5];omega) (fun o _ h=>by have:=h.2;simp at this)
     rw [WV] at this
     exact this
   have UB:bV M xs ⟨new.toList⟩:=⟨by simp [c1,ns],fun i d v hd hv=>c2 i d v hd (by simpa using hv)⟩
   have Pm:=lb (M:=M) kb.len kb.rep UB hg.2
   have Um:fR l i xs=l':=by unfold fR;exact hg.1
   rw [Um] at Pm
   have Ri:=hw.C2 kb Pm.1 (cT _ _ _) Pm.2
   refine cG (v:= .int .i64 m) (w':=bo w b2 (.cells (cM vs i new.toList) bt (0,0))) ?_ (hn _ M own _ (.refl M) ⟨fun j hj=> ?_,fun j q hj=> ?_⟩ ?_ (.int _ _))
   ·rw [dr ho hc]
    have e0:c.args[0]? =some x:=by rw [← VX,Pq];rfl
    have e1:c.args[1]? =some y:=by rw [← VX,Pq];rfl
    have T3:=Pz w (fun _=>rfl)
    rw [Sd] at T3
    simp [builtin,Builtin.copy_,t0,e0,e1,run_underlying ht,Sm,Sd,Builtin.lenOf,Nat.min_eq_left Vl,cj hk,hs,T3,Pr,goInt]
   ·rw [Vv] at hj;exact P6.1 j hj
   ·rw [Vv] at hj;exact P6.2 j q hj
   ·rw [ij Pd];exact Ri
  ·cases h
 ·cases h
theorem Cp {z:Z P} {c:Call} {x y:Operand} {rest:List Operand} {s:List Ob} {K:Z P→gp→Option ρ'} (ho:o.op= .call c) (hc:c.callee= .builtin .copy) (Pq:c.args.toList=x::y::rest) (h:EE P z c.argTypes (ρ x) (ρ y) s K=some r):∃e z',K z' e=some r∧(z'.c→z.c∧gv P o ρ s e):=by
 unfold EE at h
 split at h
 ·rename_i ty ts SY
  have t0:c.argTypes[0]? =some ty:=by rw [← VX,SY];rfl
  split at h
  ·rename_i e ht
   obtain ⟨hk,h⟩:=bl h
   rw [VG,VZ] at hk
   split at h
   ·rename_i id sz n hρ
    obtain ⟨_,h⟩:=bl h
    exact oP ho hc Pq t0 ht hk.1 hk.2 (fun M u hr=>by rw [hρ] at hr;cases hr with|bP hb Qa hc=>exact ⟨_,0,_,rfl,hb,fun _=>rfl⟩) h
   ·rename_i id off sz n cp hρ
    obtain ⟨_,h⟩:=bl h
    exact oP ho hc Pq t0 ht hk.1 hk.2 (fun M u hr=>by rw [hρ] at hr;cases hr with|sub hb hc hp QE=>exact ⟨_,_,_,rfl,hb,QE⟩) h
   ·cases h
  ·cases h
 ·cases h
theorem BF {z:Z P} {st xt Pu e2:TypeId} {ts:Array TypeId} {id off sz n c R6 Qi P4 n2:Nat} {Uk:Option Nat} {s:List Ob} {K:Z P→gp→Option ρ'} {args:Act→Array Value} {ux uy:Act→Value}
  (Ps:∀(a:Act) (w w':World) (v:Value),(Wf ts o.type (args a)).run P w= .ok v w'→(execOp a.eval o).run P w= .ok (.value v) w') (ht:P.underlying st=some (.slice Pu)) (hx:P.underlying xt=some (.slice e2)) (h0:ts[0]? =some st) (h1:ts[1]? =some xt)
  (g0:∀a,(args a)[0]? =some (ux a)) (g1:∀a,(args a)[1]? =some (uy a)) (Sm:∀(M:MM) (a:Act),(∀q∈o.op.operands,bz M (ρ q) (a.eval q))→bz M (.sub id off sz n (some c)) (ux a))
  (Sd:∀(M:MM) (a:Act),(∀q∈o.op.operands,bz M (ρ q) (a.eval q))→bz M (.sub R6 Qi P4 n2 Uk) (uy a))
  (h:Ei P z Pu id off sz n c R6 Qi P4 n2 s K=some r):∃e z',K z' e=some r∧(z'.c→z.c∧gv P o ρ s e):=by
 unfold Ei at h
 split at h
 ·rename_i cs Pg
  have hh:=bl h
  clear h
  obtain ⟨hchk,h⟩:=hh
  simp only [VG,Wy,VZ] at hchk
  obtain ⟨⟨⟨⟨⟨hzero,rfl⟩,rfl⟩,rfl⟩,rfl⟩,hb⟩:=hchk
  have hh:=fm h
  clear h
  obtain ⟨z1,h,hz1⟩:=hh
  have hh:=cK h
  clear h
  obtain ⟨z2,h,Ql⟩:=hh
  have hh:=gQ h
  clear h
  obtain ⟨z3,⟨h,hz3⟩|⟨h,hz3⟩⟩:=hh
  ·split at h
   ·rename_i l i k nc hg l2 i2 k2 RD SW rest S0
    refine ⟨_,_,h,fun hc=> ?_⟩
    obtain ⟨⟨a1,a2,a3⟩,⟨e1,e2',e3⟩,Rk⟩:=hc
    subst a1 a2 a3 e1 e2' e3
    have PW:=(hz3 Rk).1
    have Pw:=(hz3 Rk).2
    have PT:=(Ql PW).1
    have Tf:=(Ql PW).2
    rw [WC] at Pw
    rw [VZ] at Tf
    subst Tf
    have Pd:id<s.length:=cH (by rw [Pg];intro e;cases e)
    refine ⟨(hz1 PT).1,by simp,?_⟩
    intro w0 M own w a hw P6 hr next Q hn
    obtain ⟨v,M',Pc,w',q1,q2,q3,q4,q5,q6⟩:=BG (rty:=o.type) hw ht hx h0 h1 hzero hb (g0 a) (g1 a) (Sm M a hr) (Sd M a hr) (hz1 PT).2 Pw Pg hg.1 hg.2 SW.1 SW.2 (id:=s.length) (P6.1 _ (VF _)) (fun v=>P6.2 _ v (VF _))
    refine cG (Ps a w w' v q1) (hn v M' Pc w' q2 ⟨fun i hi=> ?_,fun i q hi=> ?_⟩ ?_ q4)
    ·simp only [Vu,Vv,Vx,Vy] at hi
     rw [q5 i (by omega)];exact P6.1 i (by omega)
    ·simp only [Vu,Vv,Vx,Vy] at hi
     rw [q6 i (by omega)];exact P6.2 i q (by omega)
    ·rw [gE,ij Pd,Vv];exact q3
   ·cases h
  ·refine ⟨_,_,h,fun Rk=> ?_⟩
   have PW:=(hz3 Rk).1
   have Q7:=(hz3 Rk).2
   have PT:=(Ql PW).1
   have Tf:=(Ql PW).2
   have hlen:=(hz1 PT).2
   rw [VZ] at Tf
   subst Tf
   have RI:c+n2=0:=by
    rcases Nat.eq_zero_or_pos (c+n2) with q|q
    ·exact q
    ·have q':Wx 0 (c+n2)=true:=by rw [WC];exact q
     rw [q'] at Q7;cases Q7
   obtain rfl:c=0:=by omega
   obtain rfl:n2=0:=by omega
   refine ⟨(hz1 PT).1,bM fun M w a PG hr=> ?_⟩
   have r1:=Sm M a hr
   have r2:=Sd M a hr
   have e1:=g0 a
   have e2:=g1 a
   have hex:=Ps a w w
   generalize ux a=u1 at r1 e1
   generalize uy a=u2 at r2 e2
   cases r1 with
   |sub RJ hc1' hp1 ho1=>
    rename_i b1 o1 c1
    cases r2 with
    |sub SZ hc2' hp2 SX=>
     rename_i b2 o2 c2
     obtain rfl:=hp1 0 rfl
     obtain ⟨i,zz,hi,hiz,Rs,Pn⟩:=eA hzero
     have PB:i.bytes≤65536:=by simpa [Program.bytesOf,hi] using hb
     have Rl:∀(b o3 k:Nat) (wd:World),(Wc i.size 0 (.slice (some ⟨b,o3,none⟩) 0 k)).run P wd= .ok #[] wd:=fun b o3 k wd=>by simp [Wc,loadCells,loadCellsFrom]
     obtain ⟨q1,_⟩:=e9 (P:=P) (rty:=o.type) (w:=w) ht hx h0 h1 hi hiz e1 e2 (Rl _ _ _ _) (Rl _ _ _ _) (Rl _ _ _ _) PB (by omega)
     have q2:=q1 (VF _)
     refine ⟨.slice (some ⟨b1,o1,none⟩) 0 0,hex _ ?_,.aq b1 o1 (fun _ _=> .nilFunc) rfl (VF _) (fun q=>absurd rfl q) (fun i x hx=>by simp at hx) (fun i x cs j c hx=>by simp at hx) (fun i x cs j c hx=>by simp at hx) (fun i x cs c hx=>by simp at hx) rfl⟩
     rw [q2]
     simp [VV,VN,V1,storeCells]
 ·cases h
theorem wQ {z:Z P} {c:Call} {x y:Operand} {rest:List Operand} {s:List Ob} {K:Z P→gp→Option ρ'} (ho:o.op= .call c) (hc:c.callee= .builtin .append) (Pq:c.args.toList=x::y::rest) (h:tf P z c.argTypes (ρ x) (ρ y) s K=some r):
  ∃e z',K z' e=some r∧(z'.c→z.c∧gv P o ρ s e):=by
 have hx:x∈o.op.operands:=by
  have:x∈c.args.toList:=by rw [Pq];simp
  simp only [ho,VQ,W1,hc];simpa using this
 have hy:y∈o.op.operands:=by
  have:y∈c.args.toList:=by rw [Pq];simp
  simp only [ho,VQ,W1,hc];simpa using this
 have ga:∀a:Act,(c.args.map a.eval)[0]? =some (a.eval x)∧(c.args.map a.eval)[1]? =some (a.eval y):=by
  intro a
  have e0:c.args[0]? =some x:=by rw [← VX,Pq];rfl
  have e1:c.args[1]? =some y:=by rw [← VX,Pq];rfl
  simp [e0,e1]
 unfold tf at h
 split at h
 ·rename_i st xt ts SY
  have t0:c.argTypes[0]? =some st:=by rw [← VX,SY];rfl
  have t1:c.argTypes[1]? =some xt:=by rw [← VX,SY];rfl
  split at h
  ·rename_i Pu e2 ht Rp
   split at h
   ·rename_i ow sz xs RA Py ys Rv Rz
    have Ps:∀(a:Act) (w w':World) (v:Value),(Wf c.argTypes o.type (c.args.map a.eval)).run P w= .ok v w'→(execOp a.eval o).run P w= .ok (.value v) w':=by
     intro a w w' v hv
     rw [dr ho hc]
     simp only [builtin,VV,hv,VN,V1]
    split at h
    ·rename_i r0 S0
     split at h
     ·obtain ⟨hchk,h⟩:=bl h
      simp only [VG,Wy] at hchk
      obtain ⟨⟨hzero,Q2⟩,hb⟩:=hchk
      obtain ⟨z1,h,hz1⟩:=fm h
      obtain ⟨z2,nc,h,Ql⟩:=Cj h
      refine ⟨_,z2,h,fun PW=>⟨(hz1 (Ql PW).1).1,?_⟩⟩
      have PT:=(Ql PW).1
      have PZ:=(Ql PW).2.1
      have Px:=(Ql PW).2.2
      intro w0 M own σ w a id hw hr Pp next Q hn
      have PU:=hr x hx
      have QB:=hr y hy
      rw [Rv] at PU
      rw [Rz] at QB
      obtain ⟨v,M',Pc,w',q1,q2,q3,q4,q5,q6⟩:=AU (rty:=o.type) hw ht Rp t0 t1 hzero hb (ga a).1 (ga a).2 PU QB (gj Q2) (hz1 PT).2 Px PZ (id:=id) Pp.1 Pp.2
      exact cG (Ps a w w' v q1) (hn v M' Pc w' q2 ⟨q5,q6⟩ q3 q4)
     ·cases h
    ·rename_i m r0 S0
     split at h
     ·obtain ⟨hchk,h⟩:=bl h
      simp only [VG,Wy] at hchk
      obtain ⟨⟨hzero,R7⟩,hb⟩:=hchk
      obtain ⟨z1,h,hz1⟩:=fm h
      refine ⟨_,z1,h,fun PT=>⟨(hz1 PT).1,?_⟩⟩
      have hlen:=(hz1 PT).2
      refine bM fun M w a PG hr=> ?_
      have PU:=hr x hx
      have QB:=hr y hy
      rw [Rv] at PU
      rw [Rz] at QB
      exact ⟨_,Ps a w w _ (wR (rty:=o.type) PG ht Rp t0 t1 hzero hb (ga a).1 (ga a).2 PU QB (gj R7) hlen),PU⟩
     ·cases h
    have hh:=bl h
    clear h
    obtain ⟨hchk,h⟩:=hh
    simp only [VG,Wy] at hchk
    obtain ⟨⟨⟨⟨_,hzero⟩,R7⟩,Q2⟩,hb⟩:=hchk
    have hh:=fm h
    clear h
    obtain ⟨z1,h,hz1⟩:=hh
    split at h
    ·
     refine ⟨_,z1,h,fun PT=>⟨(hz1 PT).1,?_⟩⟩
     intro w0 M own σ w a id hw hr Pp next Q hn
     have PU:=hr x hx
     have QB:=hr y hy
     rw [Rv] at PU
     rw [Rz] at QB
     obtain ⟨v,M',Pc,w',q1,q2,q3,q4,q5,q6⟩:=mN (rty:=o.type) hw ht Rp t0 t1 hzero hb (ga a).1 (ga a).2 PU QB (gj R7) (gj Q2) (hz1 PT).2 (id:=id) (ver:=0) (fun v _=>Pp.2 v)
      (fun ad len cap e=>by
       rw [e] at PU
       cases PU with
       |aq b off vs hl Ph ha Po hc hr Pr ho=>exact .inl ho)
     exact cG (Ps a w w' v q1) (hn v M' Pc w' q2 ⟨fun j _=>by rw [q5],q6⟩ q3 q4)
    ·rename_i t v
     split at h
     ·rename_i v' P4 Pr
      obtain ⟨hk,h⟩:=bl h
      rw [VG,VZ,VZ] at hk
      obtain ⟨rfl,rfl⟩:=hk
      refine ⟨_,z1,h,fun PT=>⟨(hz1 PT).1,⟨Pr,cH (by rw [Pr];intro e;cases e)⟩,?_⟩⟩
      intro w0 M own σ w a id hw hr Pp next Q hn
      have Sr:σ t= .bg v' (P.cellsOf Pu):=Pp
      have PU:=hr x hx
      have QB:=hr y hy
      rw [Rv] at PU
      rw [Rz] at QB
      obtain ⟨fa,flen,fcap,hfam⟩:=hw.bg t v' _ Sr
      obtain ⟨u,M',Pc,w',q1,q2,q3,q4,q5,q6⟩:=mN (rty:=o.type) hw ht Rp t0 t1 hzero hb (ga a).1 (ga a).2 PU QB (gj R7) (gj Q2) (hz1 PT).2 (id:=t) (ver:=v'+1) (fun v hv=>hfam.last v (by omega))
       (fun ad len cap e=>by
        rw [e] at PU
        cases PU with
        |aq b off vs hl Ph ha Po hc hr Pr ho=>
         have SX:M.br t v'=some (.slice ad len cap):=ho
         rw [hfam.br] at SX
         simp only [VI,Value.slice.injEq] at SX
         obtain ⟨rfl,rfl,rfl⟩:=SX
         rcases hfam.room with q|⟨b',vs',ty',fz',e1,r⟩
         ·exact .inl q
         ·exact .inr ⟨b',vs',ty',fz',v',_,e1,r,Sr⟩)
      exact cG (Ps a w w' u q1) (hn u M' Pc w' q2 ⟨q5,q6⟩ q3 q4)
     ·cases h
    ·cases h
   ·rename_i SP sz n RA Py ys Rv Rz
    have Ps:∀(a:Act) (w w':World) (v:Value),(Wf c.argTypes o.type (c.args.map a.eval)).run P w= .ok v w'→(execOp a.eval o).run P w= .ok (.value v) w':=by
     intro a w w' v hv
     rw [dr ho hc]
     simp only [builtin,VV,hv,VN,V1]
    split at h
    ·rename_i cs Pr
     obtain ⟨hchk,h⟩:=bl h
     simp only [VG,Wy,VZ] at hchk
     obtain ⟨⟨⟨hzero,Po⟩,Q2⟩,hb⟩:=hchk
     obtain ⟨z1,h,hz1⟩:=fm h
     obtain ⟨z2,h,Ql⟩:=cK h
     obtain ⟨z3,nc,h,hz3⟩:=ql h
     have Pd:SP<s.length:=cH (by rw [Pr];intro e;cases e)
     refine ⟨_,z3,h,fun Rk=>⟨(hz1 (Ql (hz3 Rk).1).1).1,by simp,?_⟩⟩
     have PW:=(hz3 Rk).1
     have PZ:=(hz3 Rk).2
     have PT:=(Ql PW).1
     have hlen:=(Ql PW).2
     rw [VZ] at hlen
     intro w0 M own w a hw P6 hr next Q hn
     have PU:=hr x hx
     have QB:=hr y hy
     rw [Rv,Po] at PU
     rw [Rz] at QB
     obtain ⟨v,M',Pc,w',q1,q2,q3,q4,q5,q6⟩:=BX (rty:=o.type) hw ht Rp t0 t1 hzero hb (ga a).1 (ga a).2 PU QB (gj Q2) (hz1 PT).2 PZ Pr hlen (id:=s.length) (P6.1 _ (VF _)) (fun v=>P6.2 _ v (VF _))
     rw [← Po] at q4
     refine cG (Ps a w w' v q1) (hn v M' Pc w' q2 ⟨fun i hi=> ?_,fun i q hi=> ?_⟩ ?_ q4)
     ·simp only [Vu,Vv,Vx,Vy] at hi
      rw [q5 i (by omega)];exact P6.1 i (by omega)
     ·simp only [Vu,Vv,Vx,Vy] at hi
      rw [q6 i (by omega)];exact P6.2 i q (by omega)
     ·rw [gE,ij Pd,Vv];exact q3
    ·cases h
   ·rename_i SP sz n UT Qi P4 n2 cp Rv Rz
    have Ps:∀(a:Act) (w w':World) (v:Value),(Wf c.argTypes o.type (c.args.map a.eval)).run P w= .ok v w'→(execOp a.eval o).run P w= .ok (.value v) w':=by
     intro a w w' v hv
     rw [dr ho hc]
     simp only [builtin,VV,hv,VN,V1]
    unfold Hk at h
    split at h
    ·rename_i cs Q5 Pr UW
     obtain ⟨hchk,h⟩:=bl h
     simp only [VG,Wy,VZ] at hchk
     obtain ⟨⟨⟨hzero,Po⟩,Q2⟩,hb⟩:=hchk
     obtain ⟨z1,h,hz1⟩:=fm h
     obtain ⟨z2,h,Ql⟩:=cK h
     have Pd:SP<s.length:=cH (by rw [Pr];intro e;cases e)
     split at h
     ·rename_i l i k nc hg U9 S0
      obtain ⟨z3,h,hz3⟩:=cK h
      refine ⟨_,z3,h,fun Rk=> ?_⟩
      obtain ⟨⟨e1,e2',e3⟩,PW⟩:=(hz3 Rk).1
      have S4:=(hz3 Rk).2
      subst e1 e2' e3
      have PT:=(Ql PW).1
      have hlen:=(Ql PW).2
      rw [VZ] at hlen
      refine ⟨(hz1 PT).1,by simp,?_⟩
      intro w0 M own w a hw P6 hr next Q hn
      have PU:=hr x hx
      have QB:=hr y hy
      rw [Rv,Po] at PU
      rw [Rz] at QB
      have Sq:=(ga a).2
      generalize a.eval y=u2 at QB Sq
      cases QB with
      |sub QW hcle hcp QE=>
       obtain ⟨new,ns,Pz,c1,c2'⟩:=jY (P:=P) hw QW UW QE hg.1 hg.2
       have Td:=A2 (by rw [c1,ns]) S4 c2'
       rw [Q2] at ns Pz c1
       obtain ⟨v,M',Pc,w',q1,q2,q3,q4,q5,q6⟩:=wo (rty:=o.type) hw ht Rp t0 t1 hzero hb (ga a).1 Sq PU ns Pz c1 c2' Td (hz1 PT).2 Pr (by rw [hlen,Po]) (id:=s.length) (P6.1 _ (VF _)) (fun v=>P6.2 _ v (VF _))
       rw [← Po] at q4
       refine cG (Ps a w w' v q1) (hn v M' Pc w' q2 ⟨fun i hi=> ?_,fun i q hi=> ?_⟩ ?_ q4)
       ·simp only [Vu,Vv,Vx,Vy] at hi
        rw [q5 i (by omega)];exact P6.1 i (by omega)
       ·simp only [Vu,Vv,Vx,Vy] at hi
        rw [q6 i (by omega)];exact P6.2 i q (by omega)
       ·rw [gE,ij Pd,Vv];exact q3
     ·cases h
    ·cases h
   ·rename_i S1 SP sz n Rv Rz
    have Ps:∀(a:Act) (w w':World) (v:Value),(Wf c.argTypes o.type (c.args.map a.eval)).run P w= .ok v w'→(execOp a.eval o).run P w= .ok (.value v) w':=by
     intro a w w' v hv
     rw [dr ho hc]
     simp only [builtin,VV,hv,VN,V1]
    refine pU Ps ht Rp t0 t1 (fun a=>(ga a).1) (fun a=>(ga a).2) (fun M a hr=>by have:=hr x hx;rw [Rv] at this;exact this) (fun M a hr=> ?_) h
    have QB:=hr y hy
    rw [Rz] at QB
    generalize a.eval y=u at QB
    cases QB with
    |bP hb Qa hc=>exact ⟨_,0,_,rfl,hb,fun _=>rfl⟩
   ·rename_i S1 SP off sz n cp Rv Rz
    have Ps:∀(a:Act) (w w':World) (v:Value),(Wf c.argTypes o.type (c.args.map a.eval)).run P w= .ok v w'→(execOp a.eval o).run P w= .ok (.value v) w':=by
     intro a w w' v hv
     rw [dr ho hc]
     simp only [builtin,VV,hv,VN,V1]
    refine pU Ps ht Rp t0 t1 (fun a=>(ga a).1) (fun a=>(ga a).2) (fun M a hr=>by have:=hr x hx;rw [Rv] at this;exact this) (fun M a hr=> ?_) h
    have QB:=hr y hy
    rw [Rz] at QB
    generalize a.eval y=u at QB
    cases QB with
    |sub hb hc hp QE=>exact ⟨_,_,_,rfl,hb,QE⟩
   ·rename_i SP off sz n cc UT Qi P4 n2 cp Rv Rz
    have Ps:∀(a:Act) (w w':World) (v:Value),(Wf c.argTypes o.type (c.args.map a.eval)).run P w= .ok v w'→(execOp a.eval o).run P w= .ok (.value v) w':=by
     intro a w w' v hv
     rw [dr ho hc]
     simp only [builtin,VV,hv,VN,V1]
    exact BF Ps ht Rp t0 t1 (fun a=>(ga a).1) (fun a=>(ga a).2) (fun M a hr=>by have:=hr x hx;rw [Rv] at this;exact this) (fun M a hr=>by have:=hr y hy;rw [Rz] at this;exact this) h
   ·cases h
  ·cases h
 ·cases h
end
section
variable {ρ':Type} {P:Program} {r:ρ'} {o:Oper} {t:List D} {s:List Ob}
theorem Dx {ρ:Operand→D} {ty e:TypeId} {l c:Operand} {q q':W3} {n:Int} {zd:D} {zc:List D} (ho:o.op= .makeSlice ty l c) (ht:P.underlying ty=some (.slice e)) (hk:known P e=true) (hz:fu P e=some zd) (R3:zd.cells=some zc)
  (hlen:zc.length=P.cellsOf e) (Pw:0<zc.length) (TG:P.bytesOf e≤65536) (hl:ρ l= .int q n) (hc:ρ c= .int q' n) (h0:0≤n) (h1:n≤2147483648) (Pr:∀c∈zc,storable c=true):
  dF P o ρ (.pure (.aq .tight (P.cellsOf e) (Vt n.toNat zd))):=by
 obtain ⟨i,v,hi,hv,rfl⟩:=ep hz
 refine vQ fun M w a hw hr=> ?_
 have r1:=cu (hr l (by simp [ho,VQ])) hl
 have r2:=cu (hr c (by simp [ho,VQ])) hc
 have hb:(i.bytes:Int)≤65536:=by
  have:P.bytesOf e=i.bytes:=by simp [Program.bytesOf,hi]
  omega
 have Po:P.cellsOf e=i.size:=by simp [Program.cellsOf,hi]
 have hmul:(i.bytes:Int)*n≤281474976710656:=by
  have:=Int.mul_le_mul hb h1 h0 (by omega:(0:Int)≤65536)
  omega
 have Pt:=run_make (P:=P) w ty e i v ht hi hv q q' n n h0 (Int.le_refl _) hmul (by omega)
 have Qn:eO M (P.cellsOf e) (Vt n.toNat (kQ v)) (madeCells v.cells (n.toNat*i.size)):=by
  have:=zK (M:=M) R3 (en v) Pr n.toNat
  rw [hlen] at this
  rw [← Po]
  exact this
 have hx:=lG (M:=M) (w:=w) (wd:=w) (arr:=madeCells v.cells (n.toNat*i.size)) (ty:=e) (n:=(madeCells v.cells (n.toNat*i.size)).size) hw rfl (Below.refl _ _) (0,0)
 have RF:=kZ (b:=w.heap.size) (o:= .tight) (cap:=(Vt n.toNat (kQ v)).length) (n:=(madeCells v.cells (n.toNat*i.size)).size) Qn (cR hw (VF _)) (VF _) Qn.len rfl
 refine ⟨_,_,_,?_,hx,rfl,rfl,rfl,RF⟩
 simp only [execOp,ho,r1,r2,VV,Pt,VN,V1,List.length_replicate]
theorem nX {z:Z P} {K:Z P→gp→Option ρ'} {ty:TypeId} {rv:Option Operand} (ho:o.op= .makeMap ty rv) (hx:∀x,rv=some x→∃q n,bJ t x= .int q n) (h:(na P z ty K)=some r):
  ∃e z',K z' e=some r∧(z'.c→z.c∧gv P o (bJ t) s e):=by
 unfold na at h
 split at h
 ·rename_i k et hk
  exact ⟨_,z,h,fun c=>⟨c,yD ho hk hx⟩⟩
 ·split at h
  ·rename_i kt et hk
   obtain ⟨z',ks,h1,h2,_⟩:=jS h
   exact ⟨_,z',h1,fun c=>⟨h2 c,vT ho hk hx⟩⟩
  ·cases h
theorem nW {z:Z P} {K:Z P→gp→Option ρ'} {ty:TypeId} {m k v:Operand} (ho:o.op= .insert ty m k v∨o.op= .mapUpdate ty m k v) (h:(m9 P z ty (bJ t m) (bJ t k) (bJ t v) s K)=some r):
  ∃e z',K z' e=some r∧(z'.c→z.c∧gv P o (bJ t) s e):=by
 unfold m9 at h
 split at h
 ·rename_i id q n hm hk
  split at h
  ·rename_i q' es q2 et hs Q6
   have hh:=bl h
   clear h
   obtain ⟨Qs,h⟩:=hh
   simp only [VG] at Qs
   have e1:=ee Qs.1.1
   have e2:=ee Qs.1.2
   subst e1 e2
   have PD:=cH (s:=s) (i:=id) (by rw [hs];intro e;cases e)
   exact ⟨_,z,h,fun c=>⟨c,⟨hs,PD⟩,Bj ho Q6 hm hk Qs.2⟩⟩
  ·cases h
 ·rename_i id cs hm hk
  split at h
  ·rename_i ks es kt et hs Q6
   obtain ⟨z',Ry,h1,h2,hK⟩:=jS h
   obtain ⟨Qs,h3⟩:=bl h1
   simp only [VG] at Qs
   have e1:=jK Qs.1.1
   subst e1
   have PD:=cH (s:=s) (i:=id) (by rw [hs];intro e;cases e)
   exact ⟨_,z',h3,fun c=>⟨h2 c,⟨hs,PD⟩,yA ho Q6 hK hm hk Qs.1.2 Qs.2⟩⟩
  ·cases h
 ·cases h
theorem yP {z:Z P} {K:Z P→gp→Option ρ'} {ty:TypeId} {m k:Operand} (ho:o.op= .mapEntry ty m k) (h:(sQ P z ty (bJ t m) (bJ t k) s K)=some r):
  ∃e z',K z' e=some r∧(z'.c→z.c∧gv P o (bJ t) s e):=by
 unfold sQ at h
 split at h
 ·rename_i id q n hm hk
  split at h
  ·rename_i q' es q2 et hs Q6
   split at h
   ·rename_i zd hz
    have hh:=bl h
    clear h
    obtain ⟨Qs,h⟩:=hh
    simp only [VG] at Qs
    have e1:=ee Qs.1.1
    have e2:=ee Qs.1.2
    subst e1 e2
    have PD:=cH (s:=s) (i:=id) (by rw [hs];intro e;cases e)
    obtain ⟨z',rr,h1,h2⟩:=qd h
    have Qb:=fun c=>Bk (P:=P) (ρ:=bJ t) ho Q6 hz Qs.2 hm hk (h2 c).2
    cases rr<;>exact ⟨_,z',h1,fun c=>⟨(h2 c).1,⟨hs,PD⟩,Qb c⟩⟩
   ·cases h
  ·cases h
 ·rename_i id cs hm hk
  split at h
  ·rename_i ks es kt et hs Q6
   split at h
   ·rename_i zd hz
    obtain ⟨z1,Ry,h0,R4,hK⟩:=jS h
    obtain ⟨Qs,h3⟩:=bl h0
    simp only [VG] at Qs
    have e1:=jK Qs.1.1
    subst e1
    have PD:=cH (s:=s) (i:=id) (by rw [hs];intro e;cases e)
    obtain ⟨z',rr,h1,h2⟩:=nU h3
    have Qb:=fun c=>yC (P:=P) (ρ:=bJ t) ho Q6 hK hz Qs.2 hm hk Qs.1.2 (h2 c).2
    cases rr<;>exact ⟨_,z',h1,fun c=>⟨R4 (h2 c).1,⟨hs,PD⟩,Qb c⟩⟩
   ·cases h
  ·cases h
 ·cases h
theorem s9 {z:Z P} {K:Z P→gp→Option ρ'} {ty:TypeId} {m n v:Operand} (ho:o.op= .entryStore ty m n v) (h:(me P z (bJ t m) (bJ t n) (bJ t v) s K)=some r):
  ∃e z',K z' e=some r∧(z'.c→z.c∧gv P o (bJ t) s e):=by
 unfold me at h
 split at h
 ·rename_i id q0 j hm hn
  split at h
  ·rename_i q es hs
   obtain ⟨hv,h⟩:=bl h
   obtain ⟨z',h1,h2⟩:=cK h
   have PD:=cH (s:=s) (i:=id) (by rw [hs];intro e;cases e)
   refine ⟨_,z',h1,fun c=>⟨(h2 c).1,⟨hs,PD⟩,?_⟩⟩
   have hb:=(h2 c).2
   rw [VG,decide_eq_true_eq,WC] at hb
   exact mC ho hm hn hv hb.1 (.inl ⟨q,es,rfl,rfl,hb.2⟩)
  ·rename_i ks es hs
   obtain ⟨hv,h⟩:=bl h
   obtain ⟨z',h1,h2⟩:=cK h
   have PD:=cH (s:=s) (i:=id) (by rw [hs];intro e;cases e)
   refine ⟨_,z',h1,fun c=>⟨(h2 c).1,⟨hs,PD⟩,?_⟩⟩
   have hb:=(h2 c).2
   rw [VG,decide_eq_true_eq,WC] at hb
   exact mC ho hm hn hv hb.1 (.inr ⟨ks,es,rfl,rfl,hb.2⟩)
  ·cases h
 ·cases h
theorem Ew {z:Z P} {d:D} {s':List Ob} {K:Z P→gp→Option ρ'} {r:ρ'} (h:II z d s' K=some r):∃e z',K z' e=some r∧(z'.c→z.c∧∃d2 s2,e= .all s2 d2∧∀(g:FuncId) (args:List D) (s:List Ob),bW P g args s d s'→bW P g args s d2 s2):=by
 unfold II at h
 split at h
 ·split at h
  ·rename_i id sz n
   split at h
   ·rename_i cs Pg
    have hh:=bl h
    clear h
    obtain ⟨Po,h⟩:=hh
    rw [VZ] at Po
    subst Po
    have hh:=cK h
    clear h
    obtain ⟨z1,h,hz1⟩:=hh
    refine ⟨_,z1,h,fun hc=>⟨(hz1 hc).1,_,_,rfl,fun g args s hr=> ?_⟩⟩
    have hq:=(hz1 hc).2
    rw [VG,VZ] at hq
    exact hr.Av Pg hq.1 hq.2
   ·cases h
  ·cases h
 ·exact ⟨_,z,h,fun hc=>⟨hc,_,_,rfl,fun g args s hr=>hr⟩⟩
theorem Gc {inl:AJ P ρ'} (PJ:iC P inl) {z:Z P} {K:Z P→gp→Option ρ'} (h:KE P inl o t s z K=some r):
  ∃e z',K z' e=some r∧(z'.c→z.c∧gv P o (bJ t) s e):=by
 unfold KE at h
 split at h
 case h_1 x ho=>exact ⟨_,z,h,fun c=>⟨c,Ad (.inl ho)⟩⟩
 case h_2 x ho=>exact ⟨_,z,h,fun c=>⟨c,Ad (.inr ho)⟩⟩
 case h_3 c x y ho=>
  split at h
  ·rename_i q hq
   obtain ⟨z',⟨h1,h2⟩|⟨h1,h2⟩⟩:=gQ h
   ·refine ⟨_,z',h1,fun c=>⟨(h2 c).1,?_⟩⟩
    have:=Ac (P:=P) (ρ:=bJ t) ho hq
    rw [(h2 c).2] at this
    exact this
   ·refine ⟨_,z',h1,fun c=>⟨(h2 c).1,?_⟩⟩
    have:=Ac (P:=P) (ρ:=bJ t) ho hq
    rw [(h2 c).2] at this
    exact this
  ·cases h
 case h_4 e x ho=>
  split at h
  ·rename_i cs Pg;exact ⟨_,z,h,fun c=>⟨c,Ia ho Pg⟩⟩
  ·cases h
 case h_5 e ho=>
  split at h
  ·rename_i d hd
   split at h
   ·rename_i cs Pg;exact ⟨_,z,h,fun c=>⟨c,DA ho hd Pg⟩⟩
   ·split at h
    ·rename_i h1;exact ⟨_,z,h,fun c=>⟨c,Bl ho hd h1⟩⟩
    ·cases h
  ·cases h
 case h_6 ty parts ho=>
  split at h
  ·rename_i d hd;exact ⟨_,z,h,fun c=>⟨c,Dz ho hd⟩⟩
  ·cases h
 case h_7 ty len parts ho=>
  split at h
  ·rename_i e ht
   split at h
   ·rename_i d hd
    split at h
    ·rename_i zc R3
     obtain ⟨hk,h⟩:=bl h
     simp only [VG,VZ,Wy,V3] at hk
     obtain ⟨⟨⟨⟨h1,h2⟩,h3⟩,_⟩,h5⟩:=hk
     obtain ⟨xs,q1,q2⟩:=pN (P:=P) (ρ:=bJ t) ho ht hd R3 h1 h2 h3 h5 h
     exact ⟨_,z,q1,fun c=>⟨c,q2⟩⟩
    ·cases h
   ·cases h
  ·cases h
 case h_8 ty a ho=>
  unfold Hg at h
  split at h
  ·rename_i dyn id off hx
   split at h
   ·rename_i cs Pg
    obtain ⟨z',d,h1,h2⟩:=jQ h
    refine ⟨_,z',h1,fun c=>⟨(h2 c).1,?_⟩⟩
    have Pd:id<s.length:=cH (by rw [Pg];intro e;cases e)
    split
    ·rename_i UA
     obtain ⟨e,hu,hp⟩:=(h2 c).2
     unfold G1 at UA
     rw [hu] at UA
     have ha:cC e=false:=by simpa using UA
     rcases hp with ⟨q,_⟩|⟨_,q⟩
     ·rw [ha] at q;cases q
     ·exact ⟨⟨by rw [Pg];exact q,Pd⟩,sE ho hx hu ha⟩
    ·exact ⟨⟨Pg,Pd⟩,mB ho hx (h2 c).2⟩
   ·cases h
  ·rename_i dyn y off hx
   split at h
   ·rename_i cs Pg
    obtain ⟨z',d,h1,h2⟩:=jQ h
    exact ⟨_,z',h1,fun c=>⟨(h2 c).1,sD ho hx Pg (h2 c).2⟩⟩
   ·cases h
  ·cases h
 case h_9 ty a x ho=>
  unfold CX at h
  split at h
  ·rename_i dyn id off hx
   split at h
   ·rename_i cs Pg
    split at h
    ·rename_i vc Sf
     obtain ⟨hk,h⟩:=bl h
     simp only [VG,VZ,V3] at hk
     obtain ⟨⟨k1,k2⟩,k3⟩:=hk
     have PD:=cH (s:=s) (i:=id) (by rw [Pg];intro e;cases e)
     split at h
     ·obtain ⟨hl,h⟩:=bl h
      rw [Wy] at hl
      exact ⟨_,z,h,fun c=>⟨c,⟨Pg,PD⟩,vR ho hx Sf k1 k2 k3 hl⟩⟩
     ·split at h
      ·rename_i l i xs l' hg rest _
       refine ⟨_,_,h,fun c=>⟨c.2,⟨Pg,PD⟩,?_⟩⟩
       have e1:=c.1.1
       have e2:=c.1.2.1
       have e3:=c.1.2.2
       subst e1 e2 e3
       have:=vR (P:=P) (ρ:=bJ t) ho hx Sf k1 k2 k3 hg.2
       unfold fR at this
       rw [hg.1] at this
       exact this
      ·cases h
    ·cases h
   ·cases h
  ·cases h
 case h_10 x ho=>
  split at h
  ·rename_i dyn id off hx
   exact ⟨_,z,h,fun c=>⟨c,by have:=jy (P:=P) (ρ:=bJ t) ho (.inl ⟨dyn,id,off,hx⟩);rw [hx] at this;exact this⟩⟩
  ·rename_i dyn y off hx
   exact ⟨_,z,h,fun c=>⟨c,by have:=jy (P:=P) (ρ:=bJ t) ho (.inr (.inl ⟨dyn,y,off,hx⟩));rw [hx] at this;exact this⟩⟩
  ·rename_i g a b hx
   exact ⟨_,z,h,fun c=>⟨c,by have:=jy (P:=P) (ρ:=bJ t) ho (.inr (.inr ⟨g,a,b,hx⟩));rw [hx] at this;exact this⟩⟩
  ·cases h
 case h_11 op ty x y ty' ho=>
  obtain ⟨z',d,h1,h2⟩:=EN h
  exact ⟨_,z',h1,fun c=>⟨(h2 c).1,Ib ho fun M w u v hu hv=>(h2 c).2 M w x y u v hu hv⟩⟩
 case h_12 op ty x ho=>
  obtain ⟨d,h1,h2⟩:=Fi (P:=P) h
  refine ⟨_,z,h1,fun c=>⟨c,bM fun M w a _ hr=> ?_⟩⟩
  obtain ⟨v,q1,q2⟩:=h2 M w _ (hr x (by simp [ho,VQ]))
  exact ⟨v,by simp only [execOp,ho,VV,q1,VN,V1],q2⟩
 case h_13 src dst x ho=>
  obtain ⟨e,z',h1,h2,h3⟩:=Cq (ρ:=bJ t) ho h
  refine ⟨e,z',h1,fun c=>⟨(h2 c).1,?_⟩⟩
  rcases h3 with ⟨d,rfl⟩|⟨q,m,rfl⟩<;>exact (h2 c).2
 case h_14 f first cap ho=>exact ⟨_,z,h,fun c=>⟨c,vU ho⟩⟩
 case h_15 ty x lo hi mx ho=>
  split at h
  ·rename_i e ow sz xs ht hx
   obtain ⟨hk,h⟩:=bl h
   rw [VG,VZ] at hk
   obtain ⟨n1,h,o1⟩:=dx h
   obtain ⟨n2,h,o2⟩:=dx h
   obtain ⟨n3,h,o3⟩:=dx h
   obtain ⟨z',d,h1,h2⟩:=xb h
   refine ⟨_,z',h1,fun c=>⟨(h2 c).1,bM fun M w a _ hr=> ?_⟩⟩
   have PU:=hr x (by simp [ho,VQ])
   rw [hx] at PU
   have r1:=o1 M a (fun y hy=>hr y (by simp [ho,VQ,hy]))
   have r2:=o2 M a (fun y hy=>hr y (by simp [ho,VQ,hy]))
   have r3:=o3 M a (fun y hy=>hr y (by simp [ho,VQ,hy]))
   obtain ⟨v,q1,q2⟩:=(h2 c).2 M w ty e _ _ _ _ ht hk.1 hk.2 PU r1 r2 r3
   exact ⟨v,by simp only [execOp,ho,VV,q1,VN,V1],q2⟩
  ·rename_i e id sz n ht hx
   obtain ⟨hk,h⟩:=bl h
   rw [VG,VZ] at hk
   obtain ⟨n1,h,o1⟩:=dx h
   obtain ⟨n2,h,o2⟩:=dx h
   obtain ⟨n3,h,o3⟩:=dx h
   obtain ⟨z',l,hh,Si,h1,h2⟩:=nv h
   refine ⟨_,z',h1,fun c=>⟨(h2 c).1,bM fun M w a _ hr=> ?_⟩⟩
   have PU:=hr x (by simp [ho,VQ])
   rw [hx] at PU
   have r1:=o1 M a (fun y hy=>hr y (by simp [ho,VQ,hy]))
   have r2:=o2 M a (fun y hy=>hr y (by simp [ho,VQ,hy]))
   have r3:=o3 M a (fun y hy=>hr y (by simp [ho,VQ,hy]))
   obtain ⟨_,b1,b2,b3⟩:=h2 c
   generalize hv:a.eval x=u at PU
   cases PU with
   |bP hb Qa hc=>
    obtain ⟨m,m1,m2,m3⟩:=b3 true w _ _ _ _ hc (fun k hk=>by cases hk) r1 r2 r3
    exact ⟨_,by simp only [execOp,ho,hv,VV,jb ht hk.1 hk.2 m3,VN,V1],nG hb (fun _=>rfl) b1 b2 m1 m2⟩
  ·rename_i e id off sz n cp ht hx
   obtain ⟨hk,h⟩:=bl h
   rw [VG,VZ] at hk
   obtain ⟨n1,h,o1⟩:=dx h
   obtain ⟨n2,h,o2⟩:=dx h
   obtain ⟨n3,h,o3⟩:=dx h
   obtain ⟨z',l,hh,Si,h1,h2⟩:=nv h
   refine ⟨_,z',h1,fun c=>⟨(h2 c).1,bM fun M w a _ hr=> ?_⟩⟩
   have PU:=hr x (by simp [ho,VQ])
   rw [hx] at PU
   have r1:=o1 M a (fun y hy=>hr y (by simp [ho,VQ,hy]))
   have r2:=o2 M a (fun y hy=>hr y (by simp [ho,VQ,hy]))
   have r3:=o3 M a (fun y hy=>hr y (by simp [ho,VQ,hy]))
   obtain ⟨_,b1,b2,b3⟩:=h2 c
   generalize hv:a.eval x=u at PU
   cases PU with
   |sub hb hc hp QE=>
    obtain ⟨m,m1,m2,m3⟩:=b3 true w _ _ _ _ hc hp r1 r2 r3
    exact ⟨_,by simp only [execOp,ho,hv,VV,jb ht hk.1 hk.2 m3,VN,V1],nG hb QE b1 b2 m1 m2⟩
  ·rename_i n e dyn id off ht hx
   obtain ⟨hk,h⟩:=bl h
   obtain ⟨n1,h,o1⟩:=dx h
   obtain ⟨n2,h,o2⟩:=dx h
   obtain ⟨n3,h,o3⟩:=dx h
   obtain ⟨z',l,hh,Si,h1,h2⟩:=nv h
   refine ⟨_,z',h1,fun c=>⟨(h2 c).1,bM fun M w a _ hr=> ?_⟩⟩
   have PU:=hr x (by simp [ho,VQ])
   rw [hx] at PU
   have r1:=o1 M a (fun y hy=>hr y (by simp [ho,VQ,hy]))
   have r2:=o2 M a (fun y hy=>hr y (by simp [ho,VQ,hy]))
   have r3:=o3 M a (fun y hy=>hr y (by simp [ho,VQ,hy]))
   obtain ⟨_,b1,b2,b3⟩:=h2 c
   generalize hv:a.eval x=u at PU
   cases PU with
   |ptr _ hb=>
    obtain ⟨m,m1,m2,m3⟩:=b3 false w _ _ _ _ (VF _) (fun k hk=>VA hk) r1 r2 r3
    exact ⟨_,by simp only [execOp,ho,hv,VV,mQ ht hk rfl m3,VN,V1],nG hb (fun _=>rfl) b1 b2 m1 m2⟩
  ·cases h
 case h_16 ty x f ho=>
  unfold oI at h
  split at h
  ·rename_i fields ht
   split at h
   ·rename_i fd Uc
    obtain ⟨hk,h⟩:=bl h
    rw [VG] at hk
    have Pw:0<P.cellsOf fd.type:=Nat.lt_of_succ_le (by simpa [Wx,Wy] using hk.2)
    obtain ⟨g1,g2⟩:=sH (P:=P) (ρ:=bJ t) ho ht Uc hk.1 Pw
    split at h
    ·rename_i dyn id off hx;exact ⟨_,z,h,fun c=>⟨c,g1 _ _ _ hx⟩⟩
    ·rename_i dyn y off hx;exact ⟨_,z,h,fun c=>⟨c,g2 _ _ _ hx⟩⟩
    ·cases h
   ·cases h
  ·cases h
 case h_17 ty x f ho=>
  split at h
  ·rename_i fields cs ht hx
   split at h
   ·rename_i fd Uc
    obtain ⟨z',d,h1,h2⟩:=jQ h
    exact ⟨_,z',h1,fun c=>⟨(h2 c).1,Dy ho ht Uc hx (h2 c).2⟩⟩
   ·cases h
  ·cases h
 case h_18 ty x ix ho=>
  unfold oh at h
  split at h
  ·rename_i k i hi
   split at h
   ·rename_i len elem dyn id off ht hx
    obtain ⟨hk,h⟩:=bl h
    obtain ⟨z',h1,h2⟩:=eL h
    exact ⟨_,z',h1,fun c=>⟨(h2 c).1,(lg (P:=P) (ρ:=bJ t) ho hi ht hk (by simpa using (h2 c).2) _).1 _ _ _ hx⟩⟩
   ·rename_i len elem dyn y off ht hx
    obtain ⟨hk,h⟩:=bl h
    obtain ⟨z',h1,h2⟩:=eL h
    exact ⟨_,z',h1,fun c=>⟨(h2 c).1,(lg (P:=P) (ρ:=bJ t) ho hi ht hk (by simpa using (h2 c).2) _).2 _ _ _ hx⟩⟩
   ·rename_i elem ow sz xs ht hx
    obtain ⟨hk,h⟩:=bl h
    rw [VG,VZ] at hk
    obtain ⟨z',h1,h2⟩:=eL h
    obtain ⟨z2,y,h3,h4⟩:=nM h1
    exact ⟨_,z2,h3,fun c=>⟨(h2 (h4 c).1).1,lX ho hi ht hk.1 hk.2 (by simpa using (h2 (h4 c).1).2) hx (h4 c).2⟩⟩
   ·rename_i elem id sz n ht hx
    obtain ⟨hk,h⟩:=bl h
    rw [VG,VZ] at hk
    obtain ⟨z',h1,h2⟩:=cK h
    exact ⟨_,z',h1,fun c=>⟨(h2 c).1,lW ho hi ht hk.1 hk.2 (by simpa using (h2 c).2) hx⟩⟩
   ·rename_i elem id off sz n cp ht hx
    obtain ⟨hk,h⟩:=bl h
    rw [VG,VZ] at hk
    obtain ⟨z',h1,h2⟩:=cK h
    exact ⟨_,z',h1,fun c=>⟨(h2 c).1,lV ho hi ht hk.1 hk.2 (by simpa using (h2 c).2) hx⟩⟩
   ·cases h
  ·cases h
 case h_19 ty x ix ho=>
  unfold Ek at h
  split at h
  ·rename_i k i hi
   split at h
   ·rename_i len elem cs ht hx
    obtain ⟨hk,h⟩:=bl h
    obtain ⟨z',h1,h2⟩:=eL h
    obtain ⟨z2,d,h3,h4⟩:=jQ h1
    exact ⟨_,z2,h3,fun c=>⟨(h2 (h4 c).1).1,sG ho hi ht hk (by simpa using (h2 (h4 c).1).2) hx (h4 c).2⟩⟩
   ·rename_i s' ht hx
    obtain ⟨z',h1,h2⟩:=eL h
    obtain ⟨z2,d,h3,h4⟩:=nM h1
    exact ⟨_,z2,h3,fun c=>⟨(h2 (h4 c).1).1,sF ho hi ht (by simpa using (h2 (h4 c).1).2) hx (h4 c).2⟩⟩
   ·cases h
  ·cases h
 case h_20 x i ho=>
  split at h
  ·rename_i ds hx
   split at h
   ·rename_i d hd;exact ⟨_,z,h,fun c=>⟨c,yE ho hx hd⟩⟩
   ·cases h
  ·cases h
 case h_21 c ho=>
  have Rm:∀ {x:Operand},x∈c.args.toList→x∈o.op.operands:=by
   intro x hx
   simp only [ho,VQ,W1]
   exact Array.mem_append.2 (.inr (by simpa using hx))
  split at h
  ·rename_i hc
   split at h
   ·rename_i x rest ty ts Pq SY
    obtain ⟨d,h1,h2⟩:=Eg (P:=P) h
    refine ⟨_,z,h1,fun cc=>⟨cc,bM fun M w a _ hr=> ?_⟩⟩
    obtain ⟨v,q1,q2⟩:=h2 M w _ c.argTypes o.type (c.args.map a.eval) (hr x (Rm (by rw [Pq];simp))) (by rw [← VX,SY];rfl) (by
     have:c.args[0]? =some x:=by rw [← VX,Pq];rfl
     simp [this])
    exact ⟨v,by rw [dr ho hc];simp only [builtin,VV,q1,VN,V1],q2⟩
   ·cases h
  ·rename_i hc
   split at h
   ·rename_i x y rest Pq
    exact wQ ho hc Pq h
   ·cases h
  ·rename_i hc
   split at h
   ·rename_i x y Pq
    obtain ⟨d,h1,h2⟩:=D9 (P:=P) h
    refine ⟨_,z,h1,fun cc=>⟨cc,bM fun M w a _ hr=> ?_⟩⟩
    obtain ⟨v,q1,q2⟩:=h2 M w _ _ c.argTypes o.type (c.args.map a.eval) (hr x (Rm (by rw [Pq];simp))) (hr y (Rm (by rw [Pq];simp))) (by rw [Array.toList_map,Pq];rfl)
    exact ⟨v,by rw [dr ho hc];simp only [builtin,VV,q1,VN,V1],q2⟩
   ·cases h
  ·rename_i hc
   split at h
   ·rename_i x y Pq
    obtain ⟨d,h1,h2⟩:=Ee (P:=P) h
    refine ⟨_,z,h1,fun cc=>⟨cc,bM fun M w a _ hr=> ?_⟩⟩
    obtain ⟨v,q1,q2⟩:=h2 M w _ _ c.argTypes o.type (c.args.map a.eval) (hr x (Rm (by rw [Pq];simp))) (hr y (Rm (by rw [Pq];simp))) (by rw [Array.toList_map,Pq];rfl)
    exact ⟨v,by rw [dr ho hc];simp only [builtin,VV,q1,VN,V1],q2⟩
   ·cases h
  ·rename_i hc
   split at h
   ·rename_i x y rest Pq
    exact Cp ho hc Pq h
   ·cases h
  ·rename_i f hc
   split at h
   ·rename_i g first cap hf
    unfold AE at h
    split at h
    ·rename_i rest _
     obtain ⟨d,s',z',h1,h2⟩:=PJ (.fn g) _ s _ _ r h
     obtain ⟨e,z2,h3,h4⟩:=Ew h1
     refine ⟨_,z2,h3,fun cc=> ?_⟩
     obtain ⟨c1,d2,s2,rfl,hk⟩:=h4 cc
     exact ⟨(h2 c1).1,DB ho hc hf (hk _ _ _ (h2 c1).2)⟩
    ·rename_i g' ar s1 d Su Pt rest _
     have hh:=bl h
     clear h
     obtain ⟨hk,h⟩:=hh
     rw [VZ] at hk
     subst hk
     exact ⟨_,_,h,fun cc=>⟨cc.2,DB ho hc hf (cc.1.1▸cc.1.2▸Pt)⟩⟩
    ·rename_i g' as d Sg rest _
     have hh:=bl h
     clear h
     obtain ⟨hk,h⟩:=hh
     rw [VZ] at hk
     subst hk
     obtain ⟨Th,h1,h2⟩:=mA h
     refine ⟨_,_,h1,fun cc=>⟨cc.2,?_⟩⟩
     exact H9 ho hc hf Sg (fun M vs hv=>by rw [cc.1];exact h2 M vs hv)
    ·cases h
   ·rename_i id hf
    unfold I5 at h
    split at h
    ·rename_i rest _
     obtain ⟨d,s',z',h1,h2⟩:=PJ (.yl id) _ s _ _ r h
     exact ⟨_,z',h1,fun cc=>⟨(h2 cc).1,H8 ho hc hf (h2 cc).2⟩⟩
    ·cases h
   ·cases h
  ·cases h
 case h_22 ty rv ho=>
  split at h
  ·exact nX ho (fun x hx=>by cases hx) h
  ·rename_i x
   unfold idx at h
   split at h
   ·rename_i q n hx
    exact nX ho (fun y hy=>by obtain rfl:=VA hy;exact ⟨q,n,hx⟩) h
   ·cases h
 case h_23 ty m k v ho=>exact nW (.inl ho) h
 case h_24 ty m k v ho=>exact nW (.inr ho) h
 case h_25 ty m k ok ho=>
  unfold wg at h
  split at h
  ·rename_i id q n hm hk
   split at h
   ·rename_i q' es q2 et hs Q6
    split at h
    ·rename_i zd hz
     have hh:=bl h
     clear h
     obtain ⟨Qs,h⟩:=hh
     rw [VG] at Qs
     have e1:=ee Qs.1
     have e2:=ee Qs.2
     subst e1 e2
     have PD:=cH (s:=s) (i:=id) (by rw [hs];intro e;cases e)
     obtain ⟨z',rr,h1,h2⟩:=qd h
     have Qb:=fun c=>yB (P:=P) (ρ:=bJ t) ho Q6 hz hm hk (h2 c).2
     cases rr<;>cases ok<;>exact ⟨_,z',h1,fun c=>⟨(h2 c).1,⟨hs,PD⟩,Qb c⟩⟩
    ·cases h
   ·cases h
  ·rename_i id cs hm hk
   split at h
   ·rename_i ks es kt et hs Q6
    split at h
    ·rename_i zd hz
     obtain ⟨z1,Ry,h0,R4,hK⟩:=jS h
     obtain ⟨Qs,h3⟩:=bl h0
     simp only [VG] at Qs
     have e1:=jK Qs.1
     subst e1
     have PD:=cH (s:=s) (i:=id) (by rw [hs];intro e;cases e)
     obtain ⟨z',rr,h1,h2⟩:=nU h3
     have Qb:=fun c=>vS (P:=P) (ρ:=bJ t) ho Q6 hK hz hm hk Qs.2 (h2 c).2
     cases rr<;>cases ok<;>exact ⟨_,z',h1,fun c=>⟨R4 (h2 c).1,⟨hs,PD⟩,Qb c⟩⟩
    ·cases h
   ·cases h
  ·cases h
 case h_26 ty m k ho=>exact yP ho h
 case h_27 ty m n v ho=>exact s9 ho h
 case h_28 ty l c ho=>
  unfold Hf at h
  split at h
  ·rename_i e q n q' m ht hl hc
   split at h
   ·rename_i zd hz
    split at h
    ·rename_i zc R3
     split at h
     ·obtain ⟨hk,h⟩:=bl h
      simp only [VG,VZ,Wy,WC] at hk
      obtain ⟨⟨⟨⟨k1,k2⟩,k3⟩,k4⟩,k5⟩:=hk
      obtain ⟨z',h1,h2⟩:=cK h
      refine ⟨_,z',h1,fun c=>⟨(h2 c).1,?_⟩⟩
      have hb:=(h2 c).2
      rw [decide_eq_true_eq] at hb
      obtain ⟨b0,rfl,b1⟩:=hb
      exact Dx ho ht k1 hz R3 k2 k3 k4 hl hc b0 b1 (List.all_eq_true.mp k5)
     ·obtain ⟨hk,h⟩:=bl h
      simp only [VG,VZ,Wy,WC] at hk
      obtain ⟨⟨⟨k1,k2⟩,k3⟩,k4⟩:=hk
      obtain ⟨z',h1,h2⟩:=cK h
      refine ⟨_,z',h1,fun c=>⟨(h2 c).1,?_⟩⟩
      have hb:=(h2 c).2
      rw [decide_eq_true_eq] at hb
      obtain ⟨b0,rfl,b1⟩:=hb
      exact Ge ho ht k1 hz R3 k2 k3 k4 hl hc b0 b1
    ·cases h
   ·cases h
  ·cases h
 case h_29=>cases h
end
end Go.Ev
