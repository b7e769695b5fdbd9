import Derived.Laws.Cells
import Derived.Laws.Entries
import Derived.ChangeKeysEq
import Derived.Laws.BytesString
import Derived.Laws.MakeOwn
import Derived.WideLaws
import Derived.MapKept
import Derived.Laws.AppendOwn
import Derived.RangeFuncRecord
import Derived.Test.YtbfpahigdpigpaaGreatC01
open List renaming replicate→Sx,cons_append→SH,range→SI,getD_eq_getElem?_getD→SK,getElem?_eq_none→SN,length_append→SS,getElem?_map→SW,length_cons→SX,length_nil→S3,mem_of_getElem? →Tb,all_eq_true→Td,length_set→Tj,drop_zero→Tw,getElem?_append→Tx,getElem?_cons_zero→TA,getElem?_cons_succ→TH,getElem?_set_ne→TP,take_of_length_le→TT,append_nil→T0,getElem?_take→T1,getElem?_replicate→T2
open Option.some renaming inj→SE,injEq→SL
open Bool renaming and_eq_true→SG,false_eq_true→Tq
open Go.Result renaming andThen_ok→SO
open Nat renaming le_refl→SP,lt_or_ge→SY,beq_eq→S8,zero_add→Ti,mul_le_mul_right→TD,ble_eq→TF,add_mul→TL,blt_eq→TQ,add_zero→TZ,mul_one→T3,blt→T6
open Go.Op renaming operands→SQ
open Option renaming map_eq_some_iff→SU,getD_some→Ty,map_some→TY
open Go.Sem renaming run_bind→SZ,run_pure→S9
open Array renaming getElem?_toList→S4,getD_eq_getD_getElem? →Tc,getElem?_eq_none→Tk,length_toList→Tl,getElem?_append_left→Ts,getElem?_setIfInBounds_ne→Tu,eq_empty_of_size_eq_zero→TU,toList_modify→TV,size_append→TW
open Go.Instr renaming sliceBounds→Te,findKey→TB,sameBits→TX
open Go.Builtin renaming firstCells→Tm,append_→Tn
open Go.World renaming cell? →TK
open Go.MapKept renaming run_setObj_map→TS
open Go.Call renaming operands→T7
open Go renaming IntKind→T8
/- Contracts and plain laws that a statement's proof leans on (texts merged:EvK). -/
set_option linter.unusedVariables false
set_option linter.unusedSimpArgs false
namespace Go.Ev
open Go Go.RowKit
section
variable {P:Program} {w:World}
theorem CI {t:TypeId} (h:known P t=true):∃i,P.info? t=some i:=by
 unfold known at h;exact Option.isSome_iff_exists.1 h
theorem cn {t:TypeId} (h:known P t=true) (w:World):(sizeOf t).run P w= .ok (P.cellsOf t) w:=by
 obtain ⟨i,hi⟩:=CI h
 simp [sizeOf,typeInfo,hi,Program.cellsOf]
theorem jN {t:TypeId} {d:TypeDesc} (h:P.underlying t=some d):known P t=true:=by
 unfold known
 unfold Program.underlying at h
 cases e:P.info? t with
 |none=>simp [e] at h
 |some i=>rfl
theorem lK {t:TypeId} {d:TypeDesc} (h:P.underlying t=some d) (w:World):(isAgg t).run P w= .ok (cN d) w:=by
 cases d<;>simp [isAgg,run_underlying h,cN]
theorem dr {t:TypeId} {i:TypeInfo} {v:Value} (hi:P.info? t=some i) (hz:i.zero=some v) (w:World):(zeroValue t).run P w= .ok v w:=by
 simp [zeroValue,typeInfo,hi,hz]
theorem eM (b off n:Nat):(Addr.mk b off none).add n=⟨b,off+n,none⟩:=by
 unfold Addr.add
 split
 ·rename_i h;subst h;simp
 ·rfl
theorem gP (b off:Nat) (vs:Array Value) (h:∀j v,vs[j]? =some v→w.cell? ⟨b,off+j,none⟩=some v):
  (loadCells ⟨b,off,none⟩ vs.size).run P w= .ok vs w:=by
 have:=run_loadCells_list (P:=P) (w:=w) ⟨b,off,none⟩ vs.toList (fun j v hj=>by rw [eM];exact h j v (by simpa using hj))
 simpa using this
def cU (vs:Array Value) (off:Nat):List Value→Array Value
  | []=>vs
  |x::r=>cU (vs.setIfInBounds off x) (off+1) r
theorem dc (l:List Value):∀(vs:Array Value) (off:Nat),(cU vs off l).size=vs.size:=by
 induction l with
 |nil=>intro vs off;rfl
 |cons x r ih=>intro vs off;simp [cU,ih]
theorem fe (l:List Value):∀(vs:Array Value) (off k:Nat),off+l.length≤vs.size→
  (cU vs off l)[k]? =if off≤k∧k<off+l.length then l[k - off]? else vs[k]? :=by
 induction l with
 |nil=>intro vs off k _;rw [cU,if_neg (by intro h;have h1:=h.1;have h2:k<off+0:=h.2;omega)]
 |cons x r ih=>
  intro vs off k h
  simp only [SX] at h
  rw [cU,ih _ _ _ (by simp;omega)]
  by_cases h1:off+1≤k∧k<off+1+r.length
  ·rw [if_pos h1,if_pos ⟨by omega,by simp;omega⟩]
   rw [show k - off=(k - (off+1))+1 by omega,TH]
  ·rw [if_neg h1]
   by_cases h2:k=off
   ·subst h2
    rw [if_pos ⟨by omega,by simp⟩]
    simp [show k<vs.size by omega]
   ·rw [if_neg (by simp;omega),Tu (Ne.symm h2)]
theorem qz {w:World} {b:Nat} {o p:Obj} :bh (bh w b o) b p=bh w b p:=by
 unfold bh
 simp
theorem rZ {w:World} {b o:Nat} {v:Value} {vs:Array Value} {ty:TypeId} {fz:Nat×Nat} (h:w.heap[b]? =some (.cells vs ty fz)):
  w.setCell ⟨b,o,none⟩ v=bh w b (.cells (vs.setIfInBounds o v) ty fz):=by
 have hb:=dV h
 have he:w.heap[b]= .cells vs ty fz:=by simpa [Array.getElem?_eq_getElem hb] using h
 unfold World.setCell bh
 congr 1
 apply Array.ext_getElem?
 intro k
 rw [Array.getElem?_modify]
 by_cases e:b=k
 ·subst e
  rw [if_pos rfl,h]
  simp [hb]
 ·rw [if_neg e,Tu e]
theorem eE {b off:Nat} {ty:TypeId} {fz:Nat×Nat} (l:List Value):∀(i:Nat) (w:World) (vs:Array Value),w.heap[b]? =some (.cells vs ty fz)→(∀v∈l,v.oneCell'=true)→
  off+i+l.length≤vs.size→kL fz vs.size→(storeCells ⟨b,off,none⟩ l i).run P w= .ok () (bh w b (.cells (cU vs (off+i) l) ty fz)):=by
 induction l with
 |nil=>
  intro i w vs h _ _ _
  simp only [storeCells,S9,cU]
  have hb:=dV h
  have he:w.heap.setIfInBounds b (.cells vs ty fz)=w.heap:=by
   apply Array.ext_getElem?
   intro k
   by_cases e:b=k
   ·subst e;rw [h];simp [hb]
   ·rw [Tu e]
  unfold bh
  rw [he]
 |cons x r ih=>
  intro i w vs h M7 hlen P3
  simp only [SX] at hlen
  have LN:off+i<vs.size:=by omega
  have Nk:w.cell? ⟨b,off+i,none⟩=some vs[off+i]:=by simp [TK,h,LN]
  have MA:w.frozen? ⟨b,off+i,none⟩=false:=by
   have:=P3 _ LN
   simp only [World.frozen?,h]
   simpa using this
  simp only [storeCells,SZ,eM]
  rw [run_store _ _ _ _ _ (M7 x (by simp)),Nk]
  simp only [MA,Tq,if_false,SO]
  rw [rZ h]
  rw [ih (i+1) _ (vs.setIfInBounds (off+i) x) (dI h) (fun v hv=>M7 v (by simp [hv])) (by simp;omega) (by simpa using P3)]
  rw [qz]
  simp [cU,Nat.add_assoc]
theorem m4 {t:TypeId} {d:TypeDesc} (h:P.underlying t=some d) (ha:cN d=false) {cs:Array Value} {off:Nat} {v:Value} (hv:cs[off]? =some v) (w:World):(part t cs off).run P w= .ok v w:=by
 simp [part,lK h,ha,hv]
theorem m5 {t:TypeId} {d:TypeDesc} (h:P.underlying t=some d) (ha:cN d=true) (cs:Array Value) (off:Nat) (w:World):(part t cs off).run P w= .ok (.agg (cs.extract off (off+P.cellsOf t))) w:=by
 simp [part,lK h,ha,cn (jN h)]
theorem ph {t:TypeId} {d:TypeDesc} (h:P.underlying t=some d) (ha:cN d=false) {a:Addr} {v:Value} (hv:w.cell? a=some v):(loadVar t a).run P w= .ok v w:=by
 simp [loadVar,lK h,ha,hv]
theorem pj {t:TypeId} {d:TypeDesc} (h:P.underlying t=some d) (ha:cN d=true) {b off:Nat} (vs:Array Value) (hs:vs.size=P.cellsOf t)
  (hv:∀j v,vs[j]? =some v→w.cell? ⟨b,off+j,none⟩=some v):(loadVar t ⟨b,off,none⟩).run P w= .ok (.agg vs) w:=by
 simp [loadVar,lK h,ha,cn (jN h),← hs,gP b off vs hv]
end
theorem bS.get {M:MM} {cs:List D} {vs:Array Value} (h:bS M cs vs) {i:Nat} {d:D} (hd:cs[i]? =some d):∃v,vs[i]? =some v∧bk M d v:=by
 have hi:i<vs.size:=by
  rw [← h.1]
  rcases SY i cs.length with x|x
  ·exact x
  ·simp [SN x] at hd
 exact ⟨vs[i],by simp [hi],h.2 i d vs[i] hd (by simp [hi])⟩
theorem bS.sub {M:MM} {cs:List D} {vs:Array Value} (h:bS M cs vs) (off n:Nat) (hn:off+n≤cs.length):bS M ((cs.drop off).take n) (vs.extract off (off+n)):=by
 have hs:=h.1
 refine ⟨by simp;omega,fun i d v a b=> ?_⟩
 rw [T1] at a
 split at a
 ·rename_i hi
  rw [List.getElem?_drop] at a
  rw [Array.getElem?_extract] at b
  split at b
  ·exact h.2 _ d v a b
  ·cases b
 ·cases a
theorem pC {M:MM} {v:Value} {d:D} (h:sD v=some d):bk M d v:=by
 unfold sD at h
 split at h<;>simp only [SL,reduceCtorEq] at h<;>subst h
 ·exact .bool _
 ·exact .int _ _
 ·exact .str _
 ·exact .eL
 ·exact .aj 0 0 (fun _ _=> .nilFunc) rfl (SP _) (fun h=>absurd rfl h) (fun i x h=>by simp at h) (fun i x cs j c h=>by simp at h) (fun i x cs j c h=>by simp at h) (fun i x cs c h=>by simp at h) rfl
 ·exact .aq
theorem qu {M:MM} :∀ {vs:List Value} {l:List D},iI vs=some l→l.length=vs.length∧∀(i:Nat) (d:D) (v:Value),l[i]? =some d→vs[i]? =some v→bk M d v
 | [],l,h=>by
  simp only [iI,SL] at h;subst h;exact ⟨rfl,fun i d v a=>by simp at a⟩
 |v::r,l,h=>by
  unfold iI at h
  split at h
  ·rename_i d l' hd hl
   simp only [SL] at h
   subst h
   obtain ⟨h1,h2⟩:=qu (M:=M) hl
   refine ⟨by simp [h1],fun i d' v' a b=> ?_⟩
   cases i with
   |zero=>simp at a b;subst a b;exact pC hd
   |succ i=>exact h2 i d' v' (by simpa using a) (by simpa using b)
  ·cases h
theorem Ak {M:MM} :∀(vs:List Value),(vU vs).length=vs.length∧∀(i:Nat) (d:D) (v:Value),(vU vs)[i]? =some d→vs[i]? =some v→bk M d v
 | []=>⟨rfl,fun i d v a=>by simp [vU] at a⟩
 |v::r=>by
  obtain ⟨h1,h2⟩:=Ak (M:=M) r
  refine ⟨by simp [vU,h1],fun i d' v' a b=> ?_⟩
  cases i with
  |zero=>
   simp only [vU,TA,SL] at a b
   subst a b
   split
   ·rename_i d hd;exact pC hd
   ·exact .undef _
  |succ i=>exact h2 i d' v' (by simpa [vU] using a) (by simpa using b)
theorem fj {M:MM} (v:Value):bk M (cK v) v:=by
 unfold cK
 split
 ·rename_i cs
  obtain ⟨h1,h2⟩:=Ak (M:=M) cs.toList
  exact .agg (by simpa using h1) (fun i d v a b=>h2 i d v a (by simpa using b))
 ·split
  ·rename_i d hd;exact pC hd
  ·exact .undef _
theorem m6 {M:MM} {t:List D} {a:Act} (h:bS M t a.tmps) (x:Operand):bk M (bR t x) (a.eval x):=by
 cases x with
 |tmp i=>
  show bk M (t.getD i .undef) (a.tmps.getD i undef)
  cases e:t[i]? with
  |none=>rw [SK,e];exact .undef _
  |some d=>
   obtain ⟨v,hv,hr⟩:=h.get e
   rw [SK,e,Tc,hv]
   exact hr
 |const v=>exact fj v
 |global g=>exact .undef _
 |func f=>exact .fn (M:=M) (first:= []) (cap:= []) rfl rfl (fun i d v a=>by simp at a) (fun i d v a=>by simp at a)
theorem mV {M:MM} {d:D} {v:Value} (h:bk M d v) (hs:storable d=true):v.oneCell'=true:=by
 cases h<;>first|rfl|(simp [storable] at hs)
theorem qg {cs xs:List D} {off k:Nat} (h:off+xs.length≤cs.length):(hO cs off xs)[k]? =if off≤k∧k<off+xs.length then xs[k - off]? else cs[k]? :=by
 unfold hO
 rw [Tx]
 simp only [List.length_take,show min off cs.length=off by omega]
 by_cases h1:k<off
 ·rw [if_pos h1,if_neg (by omega),T1,if_pos h1]
 ·rw [if_neg h1,Tx]
  by_cases h2:k - off<xs.length
  ·rw [if_pos h2,if_pos ⟨by omega,by omega⟩]
  ·rw [if_neg h2,if_neg (by omega),List.getElem?_drop]
   congr 1
   omega
theorem qf {cs xs:List D} {off:Nat} (h:off+xs.length≤cs.length):(hO cs off xs).length=cs.length:=by
 unfold hO
 simp
 omega
theorem wy {M:MM} {cs xs:List D} {vs ws:Array Value} {off:Nat} (h:bS M cs vs) (k:bS M xs ws) (hl:off+xs.length≤cs.length):bS M (hO cs off xs) (cU vs off ws.toList):=by
 refine ⟨by rw [qf hl,dc,h.1],fun i d v a b=> ?_⟩
 have hs:off+ws.toList.length≤vs.size:=by rw [← h.1,Tl,← k.1];exact hl
 rw [qg hl] at a
 rw [fe _ _ _ _ hs] at b
 have:ws.toList.length=xs.length:=by rw [Tl,← k.1]
 rw [this] at b
 split at a
 ·rename_i hc
  rw [if_pos hc] at b
  exact k.2 _ d v a (by simpa using b)
 ·rename_i hc
  rw [if_neg hc] at b
  exact h.2 _ d v a b
theorem lL {M:MM} {cs:List D} {vs:Array Value} (hl:cs.length≤vs.size) (h:∀(i:Nat) (d:D) (v:Value),cs[i]? =some d→vs[i]? =some v→bk M d v) {i:Nat} {d:D} (hd:cs[i]? =some d):∃v,vs[i]? =some v∧bk M d v:=by
 have hi:i<vs.size:=by
  rcases SY i cs.length with x|x
  ·omega
  ·simp [SN x] at hd
 exact ⟨vs[i],by simp [hi],h i d vs[i] hd (by simp [hi])⟩
theorem m7 {M:MM} {cs xs:List D} {vs ws:Array Value} {off:Nat} (h0:cs.length≤vs.size) (h:∀(i:Nat) (d:D) (v:Value),cs[i]? =some d→vs[i]? =some v→bk M d v) (k:bS M xs ws) (hl:off+xs.length≤cs.length):
  (hO cs off xs).length≤(cU vs off ws.toList).size∧∀(i:Nat) (d:D) (v:Value),(hO cs off xs)[i]? =some d→(cU vs off ws.toList)[i]? =some v→bk M d v:=by
 refine ⟨by rw [qf hl,dc];exact h0,fun i d v a b=> ?_⟩
 have hs:off+ws.toList.length≤vs.size:=by rw [Tl,← k.1];omega
 rw [qg hl] at a
 rw [fe _ _ _ _ hs] at b
 have:ws.toList.length=xs.length:=by rw [Tl,← k.1]
 rw [this] at b
 split at a
 ·rename_i hc
  rw [if_pos hc] at b
  exact k.2 _ d v a (by simpa using b)
 ·rename_i hc
  rw [if_neg hc] at b
  exact h _ d v a b
section
variable {ρ:Type} {P:Program} {r:ρ}
theorem bg {b:Bool} {k:Option ρ} (h:gJ b k=some r):b=true∧k=some r:=by
 cases b
 ·cases h
 ·exact ⟨rfl,h⟩
theorem cZ {z:Z P} {b:Bool} {k:Z P→Option ρ} (h:ask z b k=some r):∃z',k z'=some r∧(z'.c→z.c∧b=true):=by
 unfold ask at h
 split at h
 ·rename_i q hq rest _
  exact ⟨_,h,fun c=>⟨c.2,c.1▸hq⟩⟩
 ·cases h
theorem td {z:Z P} {ys:List D} {k:Z P→List D→Option ρ} (h:AQ z ys k=some r):∃z' nc,k z' nc=some r∧(z'.c→z.c∧aL ys=some nc):=by
 unfold AQ at h
 split at h
 ·rename_i QH nc hq rest _
  exact ⟨_,nc,h,fun c=>⟨c.2,c.1▸hq⟩⟩
 ·split at h
  ·rename_i nc hq
   exact ⟨_,nc,h,fun c=>⟨c,hq⟩⟩
  ·cases h
theorem CU {z:Z P} {ys:List D} {k:Z P→List D→Option ρ} (h:Fv z ys k=some r):∃z' nc,k z' nc=some r∧(z'.c→z.c∧aL ys=some nc∧ys≠ []):=by
 unfold Fv at h
 split at h
 ·rename_i QH nc hq rest _
  obtain ⟨z',h,hz⟩:=cZ h
  refine ⟨z',nc,h,fun c=> ?_⟩
  obtain ⟨⟨e,c0⟩,hb⟩:=hz c
  refine ⟨c0,e▸hq,fun e0=> ?_⟩
  rw [e0] at hb
  cases hb
 ·split at h
  ·rename_i nc hq
   obtain ⟨hb,h⟩:=bg h
   refine ⟨_,nc,h,fun c=>⟨c,hq,fun e0=> ?_⟩⟩
   rw [e0] at hb
   cases hb
  ·cases h
theorem fX {z:Z P} {st b:Bool} {k:Z P→Option ρ} (h:lz z st b k=some r):∃z',k z'=some r∧(z'.c→z.c∧b=true):=by
 unfold lz at h
 split at h
 ·obtain ⟨h1,h2⟩:=bg h
  exact ⟨z,h2,fun c=>⟨c,h1⟩⟩
 ·exact cZ h
theorem ic {z:Z P} {n m:Nat} {k:Z P→Option ρ} (h:lu z n m k=some r):∃z',k z'=some r∧(z'.c→z.c∧n≤m):=by
 unfold lu at h
 split at h
 ·rename_i n' m' hn rest _
  exact ⟨_,h,fun c=>⟨c.2,c.1.1▸c.1.2▸hn⟩⟩
 ·cases h
theorem kq {z:Z P} {b:Bool} {k1 k2:Z P→Option ρ} (h:branch z b k1 k2=some r):
  ∃z',(k1 z'=some r∧(z'.c→z.c∧b=true))∨(k2 z'=some r∧(z'.c→z.c∧b=false)):=by
 unfold branch at h
 split at h
 ·rename_i q v hq rest _
  cases v
  ·exact ⟨_,.inr ⟨h,fun c=>⟨c.2,c.1▸hq⟩⟩⟩
  ·exact ⟨_,.inl ⟨h,fun c=>⟨c.2,c.1▸hq⟩⟩⟩
 ·cases h
theorem qB {z:Z P} {l:List D} {i:Nat} {k:Z P→D→Option ρ} (h:pick z l i k=some r):∃z' d,k z' d=some r∧(z'.c→z.c∧l[i]? =some d):=by
 unfold pick at h
 split at h
 ·rename_i l' i' d hg rest _
  exact ⟨_,d,h,fun c=>⟨c.2,c.1.1▸c.1.2▸hg⟩⟩
 ·cases h
theorem sU {z:Z P} {es:List (Int×D)} {n:Int} {k:Z P→Option D→Option ρ} (h:AG z es n k=some r):∃z' d,k z' d=some r∧(z'.c→z.c∧dv es n=d):=by
 unfold AG at h
 split at h
 ·rename_i Og n' d hg rest _
  exact ⟨_,d,h,fun c=>⟨c.2,c.1.1▸c.1.2▸hg⟩⟩
 ·cases h
theorem qH {z:Z P} {es:List (List D×D)} {n:List D} {k:Z P→Option D→Option ρ} (h:uY z es n k=some r):∃z' d,k z' d=some r∧(z'.c→z.c∧kF es n=d):=by
 unfold uY at h
 split at h
 ·rename_i Og n' d hg rest _
  exact ⟨_,d,h,fun c=>⟨c.2,c.1.1▸c.1.2▸hg⟩⟩
 ·cases h
theorem lT {z:Z P} {t:TypeId} {k:Z P→List LK→Option ρ} (h:sP z t k=some r):∃z' ks,k z' ks=some r∧(z'.c→z.c)∧ky P t ks:=by
 unfold sP at h
 split at h
 ·rename_i t' ks hk rest _
  obtain ⟨h1,h2⟩:=bg h
  rw [S8] at h1
  subst h1
  exact ⟨_,ks,h2,id,hk⟩
 ·cases h
def lC (P:Program) (t:TypeId) (cs:List D) (off:Nat) (d:D):Prop:=
  ∃e,P.underlying t=some e∧((cN e=true∧off+P.cellsOf t≤cs.length∧d= .agg ((cs.drop off).take (P.cellsOf t)))∨(cN e=false∧cs[off]? =some d))
theorem lP {z:Z P} {dyn:Bool} {t:TypeId} {cs:List D} {off:Nat} {k:Z P→D→Option ρ} (h:sG P z dyn t cs off k=some r):
  ∃z' d,k z' d=some r∧(z'.c→z.c∧lC P t cs off d):=by
 unfold sG at h
 split at h
 ·cases h
 ·rename_i e he
  split at h
  ·rename_i ha
   obtain ⟨hk,h⟩:=bg h
   split at h
   ·obtain ⟨h1,h2⟩:=bg h
    exact ⟨z,_,h2,fun c=>⟨c,e,he,.inl ⟨ha,by simpa using h1,rfl⟩⟩⟩
   ·split at h
    ·rename_i l i n l' hg rest _
     refine ⟨_,_,h,fun c=>⟨c.2,e,he,.inl ⟨ha,?_,?_⟩⟩⟩
     ·rw [← c.1.1,← c.1.2.1,← c.1.2.2];exact hg.2
     ·rw [← c.1.1,← c.1.2.1,← c.1.2.2,hg.1]
    ·cases h
  ·rename_i ha
   split at h
   ·split at h
    ·rename_i d hd
     exact ⟨z,d,h,fun c=>⟨c,e,he,.inr ⟨ha,hd⟩⟩⟩
    ·cases h
   ·obtain ⟨z',d,h1,h2⟩:=qB h
    exact ⟨z',d,h1,fun c=>⟨(h2 c).1,e,he,.inr ⟨ha,(h2 c).2⟩⟩⟩
theorem oL {M:MM} {t:TypeId} {cs:List D} {off:Nat} {d:D} (hp:lC P t cs off d) {vs:Array Value} (h:bS M cs vs):∃v,bk M d v∧∀w:World,(part t vs off).run P w= .ok v w:=by
 obtain ⟨e,he,⟨ha,hl,rfl⟩|⟨ha,hd⟩⟩:=hp
 ·have QM:=h.sub off (P.cellsOf t) hl
  exact ⟨_,.agg QM.1 QM.2,fun w=>m5 he ha vs off w⟩
 ·obtain ⟨v,hv,hr⟩:=h.get hd
  exact ⟨v,hr,fun w=>m4 he ha hv w⟩
theorem iX {M:MM} {t:TypeId} {cs:List D} {off b base:Nat} {d:D} (hp:lC P t cs off d) {w:World} (vs:Nat→Value)
  (hc:∀j c,cs[j]? =some c→w.cell? ⟨b,base+j,none⟩=some (vs j)∧bk M c (vs j)):∃v,(loadVar t ⟨b,base+off,none⟩).run P w= .ok v w∧bk M d v:=by
 obtain ⟨e,he,⟨ha,hl,rfl⟩|⟨ha,hd⟩⟩:=hp
 ·let ws:Array Value:=((SI (P.cellsOf t)).map fun j=>vs (off+j)).toArray
  have Su:∀j v,ws[j]? =some v→j<P.cellsOf t∧v=vs (off+j):=by
   intro j v hj
   simp only [ws,List.getElem?_toArray,SW,SU] at hj
   obtain ⟨x,hx,rfl⟩:=hj
   have LN:j<P.cellsOf t:=by
    rcases SY j (P.cellsOf t) with h|h
    ·exact h
    ·rw [SN (by simpa using h)] at hx;cases hx
   rw [List.getElem?_range LN] at hx
   cases hx
   exact ⟨LN,rfl⟩
  have LP:∀j,j<P.cellsOf t→∃c,cs[off+j]? =some c:=fun j hj=>⟨cs[off+j]'(by omega),by simp [show off+j<cs.length by omega]⟩
  refine ⟨.agg ws,pj he ha ws (by simp [ws]) ?_,.agg ?_ ?_⟩
  ·intro j v hj
   obtain ⟨h1,rfl⟩:=Su j v hj
   obtain ⟨c,L7⟩:=LP j h1
   rw [Nat.add_assoc]
   exact (hc _ c L7).1
  ·simp [ws];omega
  ·intro i c v a b
   obtain ⟨h1,rfl⟩:=Su i v b
   rw [T1,if_pos h1,List.getElem?_drop] at a
   exact (hc _ c a).2
 ·obtain ⟨h1,h2⟩:=hc off d hd
  exact ⟨vs off,ph he ha h1,h2⟩
end
def Gc (P:Program) (o:Oper) (a:Act) (w:World) (next:Act→World→Prop) (Q:Exit→Act→World→Prop):Prop:= ∀r:Option Nat,o.wpIn (FW r) 0 P a w next Q
theorem Bs {P:Program} {o:Oper} {ρ:Operand→Value} {c:Call} (ho:o.op= .defer c) {w w':World} {x:Next} (h:(execOp ρ o).run P w= .ok x w'):∃d,x= .defer d:=by
 unfold execOp at h
 rw [ho] at h
 simp only [SZ] at h
 cases hr:(resolve ρ c o.type).run P w with
 |ok d w1=>rw [hr] at h;simp only [SO,S9,Result.ok.injEq] at h;exact ⟨d,h.1.symm⟩
 |halt a b=>rw [hr] at h;cases h
theorem lF {P:Program} {o:Oper} {ρ:Operand→Value} {w w':World} {x:Next} (h:(execOp ρ o).run P w= .ok x w') (hx:∀d,x≠ .defer d) (r:Option Nat):(o.semAt r ρ).run P w= .ok x w':=by
 by_cases hd:∃c,o.op= .defer c
 ·obtain ⟨c,hc⟩:=hd
  obtain ⟨d,hd⟩:=Bs hc h
  exact absurd hd (hx d)
 ·rw [Oper.semAt_eq r ρ o (fun c hc=>hd ⟨c,hc⟩)]
  exact h
def iM.pre (e:iM) (M:MM) (σ:Nat→Ob) (id:Nat):Prop:=match e with
  | .pure _=>True
  | .read i o _=>σ i=o
  | .gQ i j d=>fC (σ i) j=some d
  | .dW i o _ _=>σ i=o
  | .new _ _=>M.box id=none∧∀v,M.bl id v=none
  | .all _ _=>False
def iM.post (e:iM) (σ:Nat→Ob) (id:Nat):Nat→Ob:=match e with
  | .dW i _ o' _=>Ev.dW σ i o'
  | .new o _=>Ev.dW σ id o
  |_=>σ
def iM.val (e:iM) (id:Nat):D:=match e with
  | .pure d=>d
  | .read _ _ d=>d
  | .gQ _ _ d=>d
  | .dW _ _ _ d=>d
  | .new _ mk=>mk id
  | .all _ d=>d
def iM.KP (e:iM) (M M':MM) (id:Nat):Prop:=match e with
  | .dW i _ _ _=>M'.box=M.box∧∀j,j≠i→M'.bl j=M.bl j
  | .new _ _=>(∀j,j≠id→M'.box j=M.box j)∧∀j,j≠id→M'.bl j=M.bl j
  |_=>M'.box=M.box∧M'.bl=M.bl
def eD (P:Program) (o:Oper) (ρ:Operand→D) (e:iM):Prop:=
  ∀(w0:dq) (M:MM) (own:Nat→Option Nat) (σ:Nat→Ob) (w:World) (a:Act) (id:Nat),bw w0 M own σ w→(∀x∈o.op.operands,bk M (ρ x) (a.eval x))→e.pre M σ id→
    ∀(next:Act→World→Prop) (Q:Exit→Act→World→Prop),
      (∀v M' LB w',M.Le M'→e.KP M M' id→bw w0 M' LB (e.post σ id) w'→bk M' (e.val id) v→next (a.put o.dst v) w')→Gc P o a w next Q
section
variable {P:Program} {o:Oper} {ρ:Operand→D}
theorem cT {a:Act} {w w':World} {v:Value} {next:Act→World→Prop} {Q:Exit→Act→World→Prop} (h:(execOp a.eval o).run P w= .ok (.value v) w') (k:next (a.put o.dst v) w'):Gc P o a w next Q:=by
 intro r
 refine ⟨fun _ _=>trivial,?_⟩
 rw [show (FW r).round=r from rfl,lF h (fun d e=>by cases e) r]
 exact k
theorem jK {a:Act} {w w':World} {next:Act→World→Prop} {Q:Exit→Act→World→Prop} (h:(execOp a.eval o).run P w= .ok .skip w') (k:next (a.put o.dst undef) w'):Gc P o a w next Q:=by
 intro r
 refine ⟨fun _ _=>trivial,?_⟩
 rw [show (FW r).round=r from rfl,lF h (fun d e=>by cases e) r]
 exact k
theorem bH {d:D} (h:∀(M:MM) (w:World) (a:Act),(∀b o v,M.cell b o=some v→w.cell? ⟨b,o,none⟩=some v)→(∀x∈o.op.operands,bk M (ρ x) (a.eval x))→
  ∃v,(execOp a.eval o).run P w= .ok (.value v) w∧bk M d v):eD P o ρ (.pure d):=by
 intro w0 M own σ w a id hw hr _ next Q hn
 obtain ⟨v,h1,h2⟩:=h M w a hw.cells hr
 exact cT h1 (hn v M own w (.refl M) ⟨rfl,rfl⟩ hw h2)
theorem wG {d:D} (h:∀(M:MM) (w:World) (a:Act),(∀b o v,M.cell b o=some v→w.cell? ⟨b,o,none⟩=some v)→(∀x∈o.op.operands,bk M (ρ x) (a.eval x))→
  ∃v M' w',(execOp a.eval o).run P w= .ok (.value v) w'∧Ext M w M' w'∧M'.box=M.box∧M'.bl=M.bl∧M'.eB=M.eB∧bk M' d v):eD P o ρ (.pure d):=by
 intro w0 M own σ w a id hw hr _ next Q hn
 obtain ⟨v,M',w',h1,h2,h3,h4,hm,h5⟩:=h M w a hw.cells hr
 obtain ⟨k1,k2⟩:=hw.ext h2 h3 h4 hm
 exact cT h1 (hn v M' own w' k2 ⟨h3,h4⟩ k1 h5)
theorem oQ {ty:TypeId} {x:Operand} {dyn:Bool} {id off:Nat} {cs:List D} {d:D} (ho:o.op= .load ty x) (hx:ρ x= .ptr dyn id off) (hp:lC P ty cs off d):eD P o ρ (.read id (.box cs) d):=by
 intro w0 M own σ w a i hw hr LQ next Q hn
 obtain ⟨b,vs,t,k⟩:=hw.box id cs LQ
 have Nj:=hr x (by simp [ho,SQ])
 rw [hx] at Nj
 generalize hv:a.eval x=v at Nj
 cases Nj with
 |ptr _ hb=>
  rename_i b'
  rw [k.box] at hb
  obtain rfl:=SE hb
  have Nk:∀j c,cs[j]? =some c→w.cell? ⟨b,0+j,none⟩=some (vs.getD j .nilFunc)∧bk M c (vs.getD j .nilFunc):=by
   intro j c hj
   obtain ⟨u,hu,hru⟩:=lL k.len k.rep hj
   rw [Tc,hu]
   refine ⟨?_,hru⟩
   simp [TK,k.cy,hu]
  obtain ⟨v,h1,h2⟩:=iX hp (fun j=>vs.getD j .nilFunc) Nk
  rw [Ti] at h1
  refine cT (v:=v) (w':=w) ?_ (hn v M own w (.refl M) ⟨rfl,rfl⟩ hw h2)
  simp [execOp,ho,Instr.loadAt,Instr.sureAddr,hv,h1]
theorem uQ {ty:TypeId} {x:Operand} {dyn:Bool} {id off:Nat} {d:D} {e:TypeDesc} (ho:o.op= .load ty x) (hx:ρ x= .ptr dyn id off) (hu:P.underlying ty=some e) (ha:cN e=false):eD P o ρ (.gQ id off d):=by
 intro w0 M own σ w a i hw hr LQ next Q hn
 have LQ:fC (σ id) off=some d:=LQ
 cases hs:σ id with
 |box cs=>
  rw [hs] at LQ
  exact oQ (cs:=cs) (d:=d) ho hx ⟨e,hu,.inr ⟨ha,LQ⟩⟩ w0 M own σ w a i hw hr hs next Q hn
 |_=>rw [hs] at LQ;cases LQ
theorem uP {ty:TypeId} {x:Operand} {dyn:Bool} {y:D} {off:Nat} {cs:List D} {d:D} (ho:o.op= .load ty x) (hx:ρ x= .dG dyn y off) (hy:y.cells=some cs) (hp:lC P ty cs off d):eD P o ρ (.pure d):=by
 refine bH fun M w a hc hr=> ?_
 have Nj:=hr x (by simp [ho,SQ])
 rw [hx] at Nj
 generalize hv:a.eval x=v at Nj
 cases Nj with
 |dG _ vs hx' NL Oo=>
  rw [hy] at hx'
  obtain rfl:=SE hx'
  obtain ⟨v,h1,h2⟩:=iX (M:=M) (w:=w) hp vs (fun j c hj=>⟨hc _ _ _ (NL j c hj),(Oo j c hj).mono (MM.kr M)⟩)
  exact ⟨v,by simp [execOp,ho,Instr.loadAt,Instr.sureAddr,hv,h1],h2⟩
theorem Au {x:Operand} (ho:o.op= .move x∨o.op= .assign x):eD P o ρ (.pure (ρ x)):=
 bH fun M w a _ hr=>⟨a.eval x,by rcases ho with h|h<;>simp [execOp,h],hr x (by rcases ho with h|h<;>simp [h,SQ])⟩
theorem Ar {c x y:Operand} {q:Bool} (ho:o.op= .pick c x y) (hc:ρ c= .bool q):eD P o ρ (.pure (if q then ρ x else ρ y)):=by
 refine bH fun M w a _ hr=> ?_
 have h1:=hr c (by simp [ho,SQ])
 rw [hc] at h1
 generalize hv:a.eval c=v at h1
 cases h1
 have h2:=hr x (by simp [ho,SQ])
 have h3:=hr y (by simp [ho,SQ])
 refine ⟨if q then a.eval x else a.eval y,?_,by cases q<;>simpa⟩
 cases q<;>simp [execOp,ho,asBool,hv]
theorem k9 {x:Operand} (ho:o.op= .nilCheck x) (hx:(∃q i f,ρ x= .ptr q i f)∨(∃q y f,ρ x= .dG q y f)∨∃g l r,ρ x= .fn (.func g) l r):eD P o ρ (.pure (ρ x)):=by
 refine bH fun M w a _ hr=> ?_
 have h1:=hr x (by simp [ho,SQ])
 refine ⟨a.eval x,?_,h1⟩
 generalize hv:a.eval x=v at h1
 rcases hx with ⟨q,i,f,e⟩|⟨q,y,f,e⟩|⟨g,l,r,e⟩<;>rw [e] at h1<;>cases h1<;>simp [execOp,ho,hv]
theorem yt {x:Operand} {i:Nat} {ds:List D} {d:D} (ho:o.op= .extract x i) (hx:ρ x= .aC ds) (hd:ds[i]? =some d):eD P o ρ (.pure d):=by
 refine bH fun M w a _ hr=> ?_
 have h1:=hr x (by simp [ho,SQ])
 rw [hx] at h1
 generalize hv:a.eval x=v at h1
 cases h1 with
 |aC hl LM=>
  obtain ⟨u,hu,hru⟩:=bS.get ⟨hl,LM⟩ hd
  exact ⟨u,by simp [execOp,ho,Instr.extract,hv,hu],hru⟩
theorem wK {f:Fn} {first cap:Array Operand} (ho:o.op= .makeFunc f first cap):eD P o ρ (.pure (.fn f (first.toList.map ρ) (cap.toList.map ρ))):=by
 refine bH fun M w a _ hr=> ?_
 refine ⟨.func f (first.map a.eval) (cap.map a.eval),by simp [execOp,ho,Instr.makeFunc],.fn (by simp) (by simp) ?_ ?_⟩
 ·intro i d v h1 h2
  rw [SW,SU] at h1
  obtain ⟨x,hx,rfl⟩:=h1
  rw [S4] at hx
  rw [Array.getElem?_map,hx] at h2
  simp only [TY,SL] at h2
  subst h2
  exact hr x (by simp [ho,SQ,Array.mem_of_getElem? hx])
 ·intro i d v h1 h2
  rw [SW,SU] at h1
  obtain ⟨x,hx,rfl⟩:=h1
  rw [S4] at hx
  rw [Array.getElem?_map,hx] at h2
  simp only [TY,SL] at h2
  subst h2
  exact hr x (by simp [ho,SQ,Array.mem_of_getElem? hx])
theorem uT {s:TypeId} {x:Operand} {f:Nat} {fields:Array Field} {fd:Field} (ho:o.op= .fieldAddr s x f) (hs:P.underlying s=some (.struct fields)) (hf:fields[f]? =some fd)
  (hk:known P fd.type=true) (Md:0<P.cellsOf fd.type):
  (∀q i off,ρ x= .ptr q i off→eD P o ρ (.pure (.ptr q i (off+fd.offset))))∧(∀q y off,ρ x= .dG q y off→eD P o ρ (.pure (.dG q y (off+fd.offset)))):=by
 constructor
 ·intro q i off hx
  refine bH fun M w a _ hr=> ?_
  have h1:=hr x (by simp [ho,SQ])
  rw [hx] at h1
  generalize hv:a.eval x=v at h1
  cases h1 with
  |ptr _ hb=>
   refine ⟨_,?_,.ptr q hb⟩
   simp [execOp,ho,Instr.fieldAt,run_underlying hs,hf,hv,Instr.sureAddr,fieldPlace,cn hk,Nat.ne_of_gt Md,eM]
 ·intro q y off hx
  refine bH fun M w a _ hr=> ?_
  have h1:=hr x (by simp [ho,SQ])
  rw [hx] at h1
  generalize hv:a.eval x=v at h1
  cases h1 with
  |dG _ vs hx' NL Oo=>
   refine ⟨_,?_,.dG q vs hx' NL Oo⟩
   simp [execOp,ho,Instr.fieldAt,run_underlying hs,hf,hv,Instr.sureAddr,fieldPlace,cn hk,Nat.ne_of_gt Md,eM,Nat.add_assoc]
theorem Ek {ty:TypeId} {x:Operand} {f:Nat} {fields:Array Field} {fd:Field} {cs:List D} {d:D} (ho:o.op= .field ty x f) (hs:P.underlying ty=some (.struct fields)) (hf:fields[f]? =some fd)
  (hx:ρ x= .agg cs) (hp:lC P fd.type cs fd.offset d):eD P o ρ (.pure d):=by
 refine bH fun M w a _ hr=> ?_
 have h1:=hr x (by simp [ho,SQ])
 rw [hx] at h1
 generalize hv:a.eval x=v at h1
 cases h1 with
 |agg hl LM=>
  obtain ⟨v,h2,h3⟩:=oL hp ⟨hl,LM⟩
  exact ⟨v,by simp [execOp,ho,Instr.field,run_underlying hs,hf,hv,asAgg,h3],h2⟩
theorem cC {M:MM} {d:D} {v:Value} {k:T8} {n:Int} (h:bk M d v) (e:d= .int k n):v= .int k n:=by subst e;cases h;rfl
theorem ni {ty:TypeId} {x ix:Operand} {k:T8} {i:Int} {len:Nat} {elem:TypeId} (ho:o.op= .indexAddr ty x ix) (hi:ρ ix= .int k i) (ht:P.underlying ty=some (.array len elem)) (hk:known P elem=true) (hb:0≤i∧i<len) (dyn:Bool):
  (∀q id off,ρ x= .ptr q id off→eD P o ρ (.pure (.ptr dyn id (off+i.toNat*P.cellsOf elem))))∧(∀q y off,ρ x= .dG q y off→eD P o ρ (.pure (.dG dyn y (off+i.toNat*P.cellsOf elem)))):=by
 constructor
 ·intro q id off hx
  refine bH fun M w a _ hr=> ?_
  have h1:=hr x (by simp [ho,SQ])
  have h2:=cC (hr ix (by simp [ho,SQ])) hi
  rw [hx] at h1
  generalize hv:a.eval x=v at h1
  cases h1 with
  |ptr _ hb'=>
   refine ⟨_,?_,.ptr dyn hb'⟩
   simp [execOp,ho,Instr.indexAt,h2,asIntOf,run_underlying ht,hv,Instr.sureAddr,hb,cn hk,eM]
 ·intro q y off hx
  refine bH fun M w a _ hr=> ?_
  have h1:=hr x (by simp [ho,SQ])
  have h2:=cC (hr ix (by simp [ho,SQ])) hi
  rw [hx] at h1
  generalize hv:a.eval x=v at h1
  cases h1 with
  |dG _ vs hx' NL Oo=>
   refine ⟨_,?_,.dG dyn vs hx' NL Oo⟩
   simp [execOp,ho,Instr.indexAt,h2,asIntOf,run_underlying ht,hv,Instr.sureAddr,hb,cn hk,eM,Nat.add_assoc]
theorem oi {ty:TypeId} {x ix:Operand} {k:T8} {i:Int} {elem:TypeId} {ow:jI} {sz:Nat} {xs:List D} {y:D} (ho:o.op= .indexAddr ty x ix) (hi:ρ ix= .int k i) (ht:P.underlying ty=some (.slice elem)) (hk:known P elem=true)
  (LR:P.cellsOf elem=sz) (hb:0≤i) (hx:ρ x= .aj ow sz xs) (hy:xs[i.toNat]? =some y):eD P o ρ (.pure (.dG false y 0)):=by
 refine bH fun M w a _ hr=> ?_
 have h1:=hr x (by simp [ho,SQ])
 have h2:=cC (hr ix (by simp [ho,SQ])) hi
 rw [hx] at h1
 generalize hv:a.eval x=v at h1
 cases h1 with
 |aj b off vs hl LH ha hs hc hrr LL MJ=>
  rename_i ad len cap
  have LN:i.toNat<xs.length:=by
   rcases SY i.toNat xs.length with h|h
   ·exact h
   ·simp [SN h] at hy
  have ME:xs≠ []:=fun e=>by simp [e] at LN
  obtain rfl:=ha ME
  obtain ⟨cs,LP,hlen⟩:=hs _ _ hy
  refine ⟨.pointer (some ⟨b,(off+i.toNat*sz)+0,none⟩),?_,.dG false (fun j=>vs i.toNat j) LP (fun j c hj=>hc _ _ _ j c hy LP hj) (fun j c hj=>hrr _ _ _ j c hy LP hj)⟩
  have:i<len:=by omega
  simp [execOp,ho,Instr.indexAt,h2,asIntOf,run_underlying ht,hv,hb,this,cn hk,eM,LR]
theorem uS {ty:TypeId} {x ix:Operand} {k:T8} {i:Int} {len:Nat} {elem:TypeId} {cs:List D} {d:D} (ho:o.op= .index ty x ix) (hi:ρ ix= .int k i) (ht:P.underlying ty=some (.array len elem)) (hk:known P elem=true) (hb:0≤i∧i<len)
  (hx:ρ x= .agg cs) (hp:lC P elem cs (i.toNat*P.cellsOf elem) d):eD P o ρ (.pure d):=by
 refine bH fun M w a _ hr=> ?_
 have h1:=hr x (by simp [ho,SQ])
 have h2:=cC (hr ix (by simp [ho,SQ])) hi
 rw [hx] at h1
 generalize hv:a.eval x=v at h1
 cases h1 with
 |agg hl LM=>
  obtain ⟨v,h3,h4⟩:=oL hp ⟨hl,LM⟩
  exact ⟨v,by simp [execOp,ho,Instr.index,h2,asIntOf,run_underlying ht,hv,hb,cn hk,h4],h3⟩
theorem uR {ty:TypeId} {x ix:Operand} {k:T8} {i:Int} {s:ByteArray} {d:D} (ho:o.op= .index ty x ix) (hi:ρ ix= .int k i) (ht:P.underlying ty=some .string) (hb:0≤i)
  (hx:ρ x= .str s) (hp:(jE s)[i.toNat]? =some d):eD P o ρ (.pure d):=by
 refine bH fun M w a _ hr=> ?_
 have h1:=hr x (by simp [ho,SQ])
 have h2:=cC (hr ix (by simp [ho,SQ])) hi
 rw [hx] at h1
 generalize hv:a.eval x=v at h1
 cases h1
 unfold jE at hp
 rw [SW,SU] at hp
 obtain ⟨c,hc,rfl⟩:=hp
 rw [S4] at hc
 have NL:s[i.toNat]? =some c:=by
  have LN:i.toNat<s.data.size:=by
   rcases SY i.toNat s.data.size with h|h
   ·exact h
   ·simp [Tk h] at hc
  have Ry:i.toNat<s.size:=LN
  rw [getElem?_pos s i.toNat Ry]
  rw [getElem?_pos s.data i.toNat LN] at hc
  exact hc
 exact ⟨.int .u8 c.toNat,by simp [execOp,ho,Instr.index,h2,asIntOf,run_underlying ht,hv,hb,NL],.int _ _⟩
end
section
variable {P:Program} {o:Oper} {ρ:Operand→D}
theorem wH {ty:TypeId} {x v:Operand} {dyn:Bool} {id off:Nat} {cs vc:List D} (ho:o.op= .store ty x v) (hx:ρ x= .ptr dyn id off) (hv:(ρ v).cells=some vc) (hk:known P ty=true)
  (LR:vc.length=P.cellsOf ty) (LL:∀d∈vc,storable d=true) (hl:off+vc.length≤cs.length):eD P o ρ (.dW id (.box cs) (.box (hO cs off vc)) .undef):=by
 intro w0 M own σ w a i hw hr LQ next Q hn
 obtain ⟨b,vs,t,k⟩:=hw.box id cs LQ
 have Nj:=hr x (by simp [ho,SQ])
 have Ps:=hr v (by simp [ho,SQ])
 rw [hx] at Nj
 generalize hva:a.eval x=va at Nj
 cases Nj with
 |ptr _ hb=>
  rename_i b'
  rw [k.box] at hb
  obtain rfl:=SE hb
  have LO:=Ps.cells hv
  have hlen:(a.eval v).cells.toList.length=vc.length:=by rw [Tl,← LO.1]
  have M7:∀u∈(a.eval v).cells.toList,u.oneCell'=true:=by
   intro u hu
   obtain ⟨j,hj⟩:=List.mem_iff_getElem?.1 hu
   rw [S4] at hj
   have N2:j<vc.length:=by
    rcases SY j vc.length with h|h
    ·exact h
    ·rw [LO.1] at h;simp [Tk h] at hj
   exact mV (LO.2 j vc[j] u (by simp [N2]) hj) (LL _ (by simp))
  have LV:=eE (P:=P) (b:=b) (off:=off) (fz:=(0,0)) (a.eval v).cells.toList 0 w vs k.cy M7 (by rw [hlen];have:=k.len;omega) (fun o _ h=>by have:=h.2;simp at this)
  rw [TZ] at LV
  have LM:=m7 (M:=M) k.len k.rep LO hl
  refine jK (w':=bh w b (.cells (cU vs off (a.eval v).cells.toList) t (0,0))) ?_ (hn undef M own _ (.refl M) ⟨rfl,fun _ _=>rfl⟩ (hw.DT k LM.1 (dc _ _ _) LM.2) (.undef _))
  have he:(a.eval v).cells.size=P.cellsOf ty:=by rw [← LO.1,LR]
  simp [execOp,ho,Instr.storeAt,Instr.sureAddr,hva,storeVar,cn hk,he,LV]
theorem oj {cs:List D} (h:∀(M:MM) (w:World) (a:Act),(∀x∈o.op.operands,bk M (ρ x) (a.eval x))→∃vs ty,(execOp a.eval o).run P w= .ok (.value (.pointer (some ⟨w.heap.size,0,none⟩))) (w.alloc (.cells vs ty))∧bS M cs vs):
  eD P o ρ (.new (.box cs) fun id=> .ptr false id 0):=by
 intro w0 M own σ w a id hw hr LQ next Q hn
 obtain ⟨vs,ty,h1,h2⟩:=h M w a hr
 have k:=hw.qF LQ.1 LQ.2 ty (Nat.le_of_eq h2.1) h2.2
 exact cT h1 (hn _ _ _ _ (MM.dw LQ.1) ⟨fun j hj=>by simp [MM.bc,hj],fun _ _=>rfl⟩ k (.ptr false (by simp [MM.bc])))
theorem Ij {e:TypeId} {x:Operand} {cs:List D} (ho:o.op= .box e x) (hx:(ρ x).cells=some cs):eD P o ρ (.new (.box cs) fun id=> .ptr false id 0):=by
 refine oj fun M w a hr=>⟨(a.eval x).cells,e,?_,(hr x (by simp [ho,SQ])).cells hx⟩
 simp [execOp,ho,Instr.box,newVar,newRow]
theorem fq {t:TypeId} {d:D} (h:gL P t=some d):∃i v,P.info? t=some i∧i.zero=some v∧d=cK v:=by
 unfold gL at h
 split at h
 ·rename_i i hi
  split at h
  ·rename_i v hv
   exact ⟨i,v,hi,hv,(SE h).symm⟩
  ·cases h
 ·cases h
theorem Em {e:TypeId} {d:D} {cs:List D} (ho:o.op= .alloc e) (hz:gL P e=some d) (hc:d.cells=some cs):eD P o ρ (.new (.box cs) fun id=> .ptr false id 0):=by
 obtain ⟨i,v,hi,hv,rfl⟩:=fq hz
 refine oj fun M w a hr=>⟨v.cells,e,?_,(fj (M:=M) v).cells hc⟩
 simp [execOp,ho,Instr.alloc,dr hi hv,newVar,newRow]
theorem Cj {e:TypeId} {d:D} (ho:o.op= .alloc e) (hz:gL P e=some d) (h1:Dx P e=true):eD P o ρ (.new (.box [.undef]) fun id=> .ptr false id 0):=by
 obtain ⟨i,v,hi,hv,rfl⟩:=fq hz
 have hs:v.cells.size=1:=by
  unfold Dx at h1
  rw [hi] at h1
  simp only [hv,S8] at h1
  exact h1
 refine oj fun M w a hr=>⟨v.cells,e,?_,hs.symm,fun j d u x y=> ?_⟩
 ·simp [execOp,ho,Instr.alloc,dr hi hv,newVar,newRow]
 ·cases j with
  |zero=>simp at x;subst x;exact .undef u
  |succ j=>simp at x
theorem CT (l:List Value):∀(cells:Array Value) (off k:Nat),(l.zipIdx k).foldl (fun cs (p:Value×Nat)=>cs.setIfInBounds (off+p.2) p.1) cells=cU cells (off+k) l:=by
 induction l with
 |nil=>intro cells off k;rfl
 |cons x r ih=>intro cells off k;simp [List.zipIdx_cons,cU,ih,Nat.add_assoc]
theorem re (v cells:Array Value) (off:Nat):v.zipIdx.foldl (fun cs (c,j)=>cs.setIfInBounds (off+j) c) cells=cU cells off v.toList:=by
 rw [← Array.foldl_toList,Array.toList_zipIdx]
 exact CT v.toList cells off 0
def Hw (M:MM):List (Nat×D)→List (Nat×Value)→Prop
  | [],[]=>True
  |(i,d)::r,(j,v)::s=>i=j∧bk M d v∧Hw M r s
  |_,_=>False
theorem wx {M:MM} {a:Act} (ps:List (Nat×Operand)) (h:∀p∈ps,bk M (ρ p.2) (a.eval p.2)):Hw M (ps.map fun p=>(p.1,ρ p.2)) (ps.map fun p=>(p.1,a.eval p.2)):=by
 induction ps with
 |nil=>trivial
 |cons p r ih=>exact ⟨rfl,h p (by simp),ih fun q hq=>h q (by simp [hq])⟩
theorem vi {M:MM} (place:Nat→Option (Nat×Nat)):∀(parts:List (Nat×D)) (MN:List (Nat×Value)) (cells cs:List D) (arr:Array Value),Hw M parts MN→bS M cells arr→th place cells parts=some cs→
  ∃arr',Instr.fill place arr MN=some arr'∧bS M cs arr'
 | [],[],cells,cs,arr,_,h,e=>by
  simp only [th,SL] at e;subst e;exact ⟨arr,rfl,h⟩
 | [],_::_,_,_,_,hp,_,_=>hp.elim
 |_::_,[],_,_,_,hp,_,_=>hp.elim
 |(i,d)::r,(j,v)::s,cells,cs,arr,hp,h,e=>by
  obtain ⟨rfl,hd,hp⟩:=hp
  unfold th at e
  split at e
  ·rename_i off size vc RS PD
   split at e
   ·rename_i hb
    rw [SG,S8,TF] at hb
    have Rl:=hd.cells PD
    have LR:off+vc.length≤cells.length:=by omega
    obtain ⟨arr',h1,h2⟩:=vi place r s _ cs _ hp (wy h Rl LR) e
    refine ⟨arr',?_,h2⟩
    have e1:v.cells.size=size:=by rw [← Rl.1];exact hb.1
    have e2:¬(off+v.cells.size>arr.size):=by rw [← h.1,e1];omega
    rw [Instr.fill,RS]
    simp only [e1,ne_eq,not_true_eq_false,decide_false,Bool.false_or]
    rw [← e1]
    simp only [e2,decide_false,Tq,if_false,re]
    exact h1
   ·cases e
  ·cases e
theorem sb {α β:Type} (f:α→Sem β) (g:α→β) (l:List α) (h:∀x∈l,∀w,(f x).run P w= .ok (g x) w):∀w,(l.mapM f).run P w= .ok (l.map g) w:=by
 induction l with
 |nil=>intro w;simp
 |cons x r ih=>
  intro w
  simp [List.mapM_cons,h x (by simp),ih fun y hy=>h y (by simp [hy])]
theorem El {ty:TypeId} {parts:Array (Nat×Operand)} {d:D} (ho:o.op= .build ty parts) (hb:zK P ty (parts.toList.map fun p=>(p.1,ρ p.2))=some d):eD P o ρ (.pure d):=by
 refine bH fun M w a _ hr=> ?_
 have N6:=wx (M:=M) (ρ:=ρ) (a:=a) parts.toList (fun p hp=>hr p.2 (by
  simp only [ho,SQ]
  exact List.mem_toArray.2 (List.mem_map.2 ⟨p,hp,rfl⟩)))
 have QF:(parts.map fun (i,x)=>(i,a.eval x)).toList=parts.toList.map fun p=>(p.1,a.eval p.2):=by simp
 unfold zK at hb
 split at hb
 ·cases hb
 ·rename_i z hz
  obtain ⟨i,v,hi,hv,rfl⟩:=fq hz
  split at hb
  ·cases hb
  ·rename_i zero Pv
   have St:=(fj (M:=M) v).cells Pv
   split at hb
   ·rename_i fields ht
    split at hb
    ·rename_i Ni
     split at hb
     ·rename_i cs LP
      simp only [SL] at hb
      subst hb
      obtain ⟨arr,h1,h2⟩:=vi (M:=M) _ _ _ _ _ _ N6 St LP
      refine ⟨.agg arr,?_,.agg h2.1 h2.2⟩
      have hm:∀w:World,(fields.mapM fun (f:Field)=>(do pure (f.offset,← sizeOf f.type):Sem (Nat×Nat))).run P w= .ok (fields.map fun (f:Field)=>(f.offset,P.cellsOf f.type)) w:=by
       intro w
       rw [Array.mapM_eq_mapM_toList]
       rw [Td] at Ni
       have:=sb (P:=P) (fun f:Field=>(do pure (f.offset,← sizeOf f.type):Sem (Nat×Nat))) (fun f=>(f.offset,P.cellsOf f.type)) fields.toList (fun f hf w=>by simp [cn (Ni f hf)]) w
       simp only [Sem.run_map,this,SO]
       rw [← Array.toList_map,Array.toArray_toList]
      have RS:(fun (i:Nat)=>(fields.map fun (f:Field)=>(f.offset,P.cellsOf f.type))[i]?)=fun (i:Nat)=>(fields[i]?).map fun (f:Field)=>(f.offset,P.cellsOf f.type):=by
       funext i;simp
      simp only [execOp,ho,Instr.build,SZ,dr hi hv,SO,run_underlying ht]
      simp only [hm,SO,QF,RS,h1,S9]
     ·cases hb
    ·cases hb
   ·rename_i n elem ht
    split at hb
    ·rename_i hk
     split at hb
     ·rename_i cs LP
      simp only [SL] at hb
      subst hb
      obtain ⟨arr,h1,h2⟩:=vi (M:=M) _ _ _ _ _ _ N6 St LP
      refine ⟨.agg arr,?_,.agg h2.1 h2.2⟩
      simp only [execOp,ho,Instr.build,SZ,dr hi hv,SO,run_underlying ht,cn hk,QF,h1,S9]
     ·cases hb
    ·cases hb
   ·cases hb
theorem oK {k k':T8} (h:eR k k'=true):k=k':=by cases k<;>cases k'<;>first|rfl|(simp [eR] at h)
theorem Ik {op:BinOp} {t t':TypeId} {x y:Operand} {d:D} (ho:o.op= .binOp op t x y t')
  (h:∀(M:MM) (w:World) (u v:Value),bk M (ρ x) u→bk M (ρ y) v→∃r,(do eqGuard op t x y u v;binOp op t u v:Sem Value).run P w= .ok r w∧bk M d r):eD P o ρ (.pure d):=by
 refine bH fun M w a _ hr=> ?_
 obtain ⟨r,h1,h2⟩:=h M w _ _ (hr x (by simp [ho,SQ])) (hr y (by simp [ho,SQ]))
 refine ⟨r,?_,h2⟩
 simp only [execOp,ho]
 rw [SZ,h1]
 rfl
end
section
variable {ρ':Type} {P:Program} {r:ρ'}
theorem yI {z:Z P} {st:Bool} {op:BinOp} {k:T8} {a b:Int} {K:Z P→D→Option ρ'} (h:yJ z st op k a b K=some r) (N4:op≠ .shl) (RP:op≠ .shr):
  ∃z' d,K z' d=some r∧(z'.c→z.c∧∀(M:MM) (w:World) (t:TypeId) (x y:Operand),∃v,(do eqGuard op t x y (.int k a) (.int k b);binOp op t (.int k a) (.int k b):Sem Value).run P w= .ok v w∧bk M d v):=by
 cases op<;>simp only [yJ] at h
 case shl=>exact absurd rfl N4
 case shr=>exact absurd rfl RP
 case quo=>
  obtain ⟨z',h1,h2⟩:=fX h
  refine ⟨z',_,h1,fun c=>⟨(h2 c).1,fun M w t x y=>⟨_,?_,.int _ _⟩⟩⟩
  have hb:b≠0:=by simpa using (h2 c).2
  simp [eqGuard,binOp,Op.intDiv,hb]
 case rem=>
  obtain ⟨z',h1,h2⟩:=fX h
  refine ⟨z',_,h1,fun c=>⟨(h2 c).1,fun M w t x y=>⟨_,?_,.int _ _⟩⟩⟩
  have hb:b≠0:=by simpa using (h2 c).2
  simp [eqGuard,binOp,Op.intDiv,hb]
 case and=>exact ⟨z,_,h,fun c=>⟨c,fun M w t x y=>⟨.int k _,by rw [eqGuard_at_int];simp only [pure_bind,binOp,ne_eq,not_true_eq_false,if_false];rfl,.int _ _⟩⟩⟩
 case or=>exact ⟨z,_,h,fun c=>⟨c,fun M w t x y=>⟨.int k _,by rw [eqGuard_at_int];simp only [pure_bind,binOp,ne_eq,not_true_eq_false,if_false];rfl,.int _ _⟩⟩⟩
 case xor=>exact ⟨z,_,h,fun c=>⟨c,fun M w t x y=>⟨.int k _,by rw [eqGuard_at_int];simp only [pure_bind,binOp,ne_eq,not_true_eq_false,if_false];rfl,.int _ _⟩⟩⟩
 case andNot=>exact ⟨z,_,h,fun c=>⟨c,fun M w t x y=>⟨.int k _,by rw [eqGuard_at_int];simp only [pure_bind,binOp,ne_eq,not_true_eq_false,if_false];rfl,.int _ _⟩⟩⟩
 case add=>exact ⟨z,_,h,fun c=>⟨c,fun M w t x y=>⟨.int k _,by rw [eqGuard_at_int];simp only [pure_bind,binOp,ne_eq,not_true_eq_false,if_false];rfl,.int _ _⟩⟩⟩
 case sub=>exact ⟨z,_,h,fun c=>⟨c,fun M w t x y=>⟨.int k _,by rw [eqGuard_at_int];simp only [pure_bind,binOp,ne_eq,not_true_eq_false,if_false];rfl,.int _ _⟩⟩⟩
 case mul=>exact ⟨z,_,h,fun c=>⟨c,fun M w t x y=>⟨.int k _,by rw [eqGuard_at_int];simp only [pure_bind,binOp,ne_eq,not_true_eq_false,if_false];rfl,.int _ _⟩⟩⟩
 all_goals exact ⟨z,_,h,fun c=>⟨c,fun M w t x y=>⟨.bool _,by rw [eqGuard_at_int];simp only [pure_bind,binOp,ne_eq,not_true_eq_false,if_false];rfl,.bool _⟩⟩⟩
theorem nB {M:MM} :∀ {ks:List LK} {xs:List D} {vs:List Value},fQ ks xs=true→xs.length=vs.length→(∀(i:Nat) (d:D) (v:Value),xs[i]? =some d→vs[i]? =some v→bk M d v)→cJ ks vs
 | [],[],[],_,_,_=>trivial
 | [],[],_::_,_,h,_=>by simp at h
 | [],_::_,_,h,_,_=>by simp [fQ] at h
 |_::_,[],_,h,_,_=>by simp [fQ] at h
 |_::_,_::_,[],_,h,_=>by simp at h
 |k::ks,d::ds,v::vs,h,hl,hr=>by
  simp only [fQ,SG] at h
  have h0:=hr 0 d v rfl rfl
  refine ⟨?_,nB h.2 (by simpa using hl) fun i d v a b=>hr (i+1) d v (by simpa using a) (by simpa using b)⟩
  have h1:=h.1
  cases k<;>cases d<;>simp only [LK.fits,Tq] at h1<;>cases h0
  ·trivial
  ·exact oK h1
  ·trivial
theorem o7 {M:MM} :∀ {ks:List LK} {xs ys:List D} {us vs:List Value},fQ ks xs=true→fQ ks ys=true→xs.length=us.length→ys.length=vs.length→
  (∀(i:Nat) (d:D) (v:Value),xs[i]? =some d→us[i]? =some v→bk M d v)→(∀(i:Nat) (d:D) (v:Value),ys[i]? =some d→vs[i]? =some v→bk M d v)→cm us vs=ae xs ys
 | [],xs,ys,us,vs,hx,hy,lx,ly,_,_=>by
  cases xs<;>cases ys<;>simp [fQ] at hx hy
  cases us<;>cases vs<;>simp at lx ly
  rfl
 |k::ks,xs,ys,us,vs,hx,hy,lx,ly,rx,ry=>by
  cases xs with
  |nil=>simp [fQ] at hx
  |cons x xs=>
  cases ys with
  |nil=>simp [fQ] at hy
  |cons y ys=>
  cases us with
  |nil=>simp at lx
  |cons u us=>
  cases vs with
  |nil=>simp at ly
  |cons v vs=>
   simp only [fQ,SG] at hx hy
   have r1:=rx 0 x u rfl rfl
   have r2:=ry 0 y v rfl rfl
   have ih:=o7 hx.2 hy.2 (by simpa using lx) (by simpa using ly) (fun i d v a b=>rx (i+1) d v (by simpa using a) (by simpa using b)) (fun i d v a b=>ry (i+1) d v (by simpa using a) (by simpa using b))
   simp only [cm,ae,ih]
   congr 1
   have h1:=hx.1
   have h2:=hy.1
   cases k<;>cases x<;>simp only [LK.fits,Tq] at h1<;>cases y<;>simp only [LK.fits,Tq] at h2<;>cases r1<;>cases r2<;>rfl
theorem IT {w:World} {t:TypeId} {u v:Value} {b:Bool} (he:binOp .eql t u v=(do pure (.bool (← Op.equal t u v)):Sem Value)) (hn:binOp .neq t u v=(do pure (.bool (!(← Op.equal t u v))):Sem Value))
  (h:(Op.equal t u v).run P w= .ok b w):(binOp .eql t u v).run P w= .ok (.bool b) w∧(binOp .neq t u v).run P w= .ok (.bool (!b)) w:=by
 rw [he,hn,SZ,SZ,h]
 exact ⟨rfl,rfl⟩
theorem AX {z : Z P} {t : TypeId} {x y : D} {K : Z P → Bool → Option ρ'} (h : Kc P z t x y K = some r) :
    ∃z' b,K z' b=some r∧(z'.c→z.c)∧∀(M:MM) (w:World) (u v:Value),bk M x u→bk M y v→
      (∀op px py,(eqGuard op t px py u v).run P w= .ok () w)∧(binOp .eql t u v).run P w= .ok (.bool b) w∧(binOp .neq t u v).run P w= .ok (.bool (!b)) w:=by
  unfold Kc at h
  split at h
  ·
    split at h
    · rename_i ht
      refine ⟨z,_,h,id,fun M w u v hu hv=> ?_⟩
      cases hu;cases hv
      exact ⟨fun op px py=>by rw [eqGuard_at_bool];rfl,run_eql_bool w t _ _ ht,run_neq_bool w t _ _ ht⟩
    · cases h
  · rename_i xs ys
    split at h
    · rename_i t' ks hf rest _
      obtain ⟨h1,h2⟩:=bg h
      rw [SG,SG,S8] at h1
      obtain ⟨ht,hx,hy⟩:=h1
      subst ht
      refine ⟨_,_,h2,id,fun M w u v hu hv=> ?_⟩
      cases hu with
      |agg l1 r1=>
        cases hv with
        |agg l2 r2=>
          rename_i us vs
          have lx:xs.length=us.toList.length:=by simpa using l1
          have ly:ys.length=vs.toList.length:=by simpa using l2
          have e1:=nB (M:=M) hx lx (fun i d v a b=>r1 i d v a (by simpa using b))
          have e2:=nB (M:=M) hy ly (fun i d v a b=>r2 i d v a (by simpa using b))
          have e3:=o7 (M:=M) hx hy lx ly (fun i d v a b=>r1 i d v a (by simpa using b)) (fun i d v a b=>r2 i d v a (by simpa using b))
          have e4:=hf.eq us vs w e1 e2
          refine ⟨fun op px py=>run_eqGuard_agg w op t' px py us vs hf.plain,?_,?_⟩
          · rw [run_eql_struct,e4,e3];rfl
          · rw [run_neq_struct,e4,e3];rfl
    · cases h
  all_goals first
    | (split at h
       · rename_i ht
         refine ⟨z,_,h,id,fun M w u v hu hv=> ?_⟩
         cases hu;cases hv
         refine ⟨fun op px py=>by cases op<;>rfl,?_⟩
         refine IT rfl rfl ?_
         show (Op.equalIn (9999+1) t _ _).run P w=_
         unfold Op.equalIn
         simp only [SZ,run_underlying ht,SO,S9,Option.isNone_none]
       · cases h)
    |cases h
theorem FL {z:Z P} {st:Bool} {op:BinOp} {t:TypeId} {x y:D} {K:Z P→D→Option ρ'} (h:I0 P z st op t x y K=some r):
  ∃z' d,K z' d=some r∧(z'.c→z.c∧∀(M:MM) (w:World) (px py:Operand) (u v:Value),bk M x u→bk M y v→
   ∃q,(do eqGuard op t px py u v;binOp op t u v:Sem Value).run P w= .ok q w∧bk M d q):=by
 unfold I0 at h
 split at h
 ·rename_i k a k' b
  split at h
  ·obtain ⟨z',h1,h2⟩:=fX h
   refine ⟨z',_,h1,fun c=>⟨(h2 c).1,fun M w px py u v hu hv=> ?_⟩⟩
   cases hu;cases hv
   have hb:¬b<0:=by have:=(h2 c).2;simp at this;omega
   exact ⟨_,by simp [eqGuard,binOp,Op.shift,hb]<;>rfl,.int _ _⟩
  ·obtain ⟨z',h1,h2⟩:=fX h
   refine ⟨z',_,h1,fun c=>⟨(h2 c).1,fun M w px py u v hu hv=> ?_⟩⟩
   cases hu;cases hv
   have hb:¬b<0:=by have:=(h2 c).2;simp at this;omega
   exact ⟨_,by simp [eqGuard,binOp,Op.shift,hb]<;>rfl,.int _ _⟩
  ·rename_i N4 RP
   obtain ⟨h1,h2⟩:=bg h
   obtain rfl:=oK h1
   obtain ⟨z',d,h3,h4⟩:=yI h2 N4 RP
   refine ⟨z',d,h3,fun c=>⟨(h4 c).1,fun M w px py u v hu hv=> ?_⟩⟩
   cases hu;cases hv
   exact (h4 c).2 M w t px py
 ·split at h
  ·refine ⟨z,_,h,fun c=>⟨c,fun M w px py u v hu hv=> ?_⟩⟩
   cases hu;cases hv
   exact ⟨_,by simp [eqGuard,binOp,Op.stringOp]<;>rfl,.bool _⟩
  ·refine ⟨z,_,h,fun c=>⟨c,fun M w px py u v hu hv=> ?_⟩⟩
   cases hu;cases hv
   exact ⟨_,by simp [eqGuard,binOp,Op.stringOp]<;>rfl,.bool _⟩
  ·cases h
 ·split at h
  ·obtain ⟨z',b,h1,h2,h3⟩:=AX h
   refine ⟨z',_,h1,fun c=>⟨h2 c,fun M w px py u v hu hv=> ?_⟩⟩
   obtain ⟨e1,e2,e3⟩:=h3 M w u v hu hv
   exact ⟨_,by rw [SZ,e1];exact e2,.bool _⟩
  ·obtain ⟨z',b,h1,h2,h3⟩:=AX h
   refine ⟨z',_,h1,fun c=>⟨h2 c,fun M w px py u v hu hv=> ?_⟩⟩
   obtain ⟨e1,e2,e3⟩:=h3 M w u v hu hv
   exact ⟨_,by rw [SZ,e1];exact e3,.bool _⟩
  ·cases h
theorem Ge {op:UnOp} {x:D} {K:D→Option ρ'} (h:Kk op x K=some r):∃d,K d=some r∧∀(M:MM) (w:World) (u:Value),bk M x u→∃v,(Op.unary op u).run P w= .ok v w∧bk M d v:=by
 unfold Kk at h
 split at h
 ·refine ⟨_,h,fun M w u hu=> ?_⟩
  cases hu
  exact ⟨_,by simp [Op.unary,Op.intArith]<;>rfl,by simpa using .int _ _⟩
 ·refine ⟨_,h,fun M w u hu=> ?_⟩
  cases hu
  exact ⟨_,by simp [Op.unary,Op.intBits]<;>rfl,.int _ _⟩
 ·refine ⟨_,h,fun M w u hu=> ?_⟩
  cases hu
  exact ⟨_,by simp [Op.unary]<;>rfl,.bool _⟩
 ·cases h
end
theorem e9 {a b:T8} (h:eR a b=true):a=b:=by cases a<;>cases b<;>first|rfl|(simp [eR] at h)
theorem oC {k:T8} :∀ {es:List (Int×D)} {l:List MapEntry},mw k es l→es.length=l.length
 | [],[],_=>rfl
 | [],_::_,h=>h.elim
 |(_,_)::_,[],h=>h.elim
 |(n,d)::r,e::s,h=>by simp [oC h.2.2]
theorem rP:jF [] 0:=⟨rfl,fun i e h=>by simp at h⟩
theorem il {l:List MapEntry} {c j:Nat} {f:MapEntry→MapEntry} (hf:∀e,(f e).born=e.born) (h:jF l c):jF (l.modify j f) c:=by
 refine ⟨by rw [List.length_modify];exact h.1,fun i e he=> ?_⟩
 rw [List.getElem?_modify] at he
 cases hl:l[i]? with
 |none=>rw [hl] at he;cases he
 |some e0=>
  rw [hl] at he
  have h0:=h.2 i e0 hl
  simp only [Option.map_eq_map,TY,SL] at he
  split at he
  ·rw [← he,hf];exact h0
  ·rw [← he];exact h0
theorem jz {l:List MapEntry} {c:Nat} {k v:Value} (h:jF l c):jF (l++ [⟨k,v,c⟩]) (c+1):=by
 refine ⟨by simp [h.1],fun i e he=> ?_⟩
 rw [Tx] at he
 split at he
 ·exact h.2 i e he
 ·rename_i hi
  have:i=l.length:=by
   rcases Nat.lt_trichotomy i l.length with q|q|q
   ·exact absurd q hi
   ·exact q
   ·rw [SN (by simp;omega)] at he;cases he
  subst this
  simp only [Nat.sub_self,TA,SL] at he
  rw [← he];exact h.1
theorem Dk {LF:Array MapEntry} {c:Nat} (h:jF LF.toList c) {j:Nat} (hj:j<LF.size):LF.findIdx? (fun e=>((e.born:Int)==(j:Int)))=some j:=by
 rw [Array.findIdx?_eq_some_iff_getElem]
 refine ⟨hj,?_,fun i hi=> ?_⟩
 ·have:=h.2 j LF[j] (by simp [hj])
  simp [this]
 ·have:=h.2 i (LF[i]'(Nat.lt_trans hi hj)) (by simp [Nat.lt_trans hi hj])
  simp only [this]
  simp
  omega
theorem yy {LF:Array MapEntry} {j:Nat} {e0:MapEntry} {kv:Value} (he:LF[j]? =some e0) (hk:e0.key=kv):(LF.modify j fun e=> { e with key:=kv })=LF:=by
 apply Array.ext_getElem?
 intro i
 rw [Array.getElem?_modify]
 split
 ·rename_i hji
  subst hji
  rw [he]
  simp [← hk]
 ·rfl
theorem jO {P:Program} {ty kt et:TypeId} {b:Nat} {LF:Array MapEntry} {clock j:Nat} {kv v:Value} {e0:MapEntry} {w:World} (t1:P.underlying ty=some (.map kt et)) (cy:w.heap[b]? =some (.map LF clock))
  (Mz:(Instr.checkKey false 10000 kt kv).run P w= .ok () w) (Mm:(TB kt kv LF.toList).run P w= .ok (some (j,v)) w) (he:LF[j]? =some e0) (hk:e0.key=kv) (hs:TX 10000 kv kv=true) (hb:e0.born=j):
  (Instr.mapEntry ty (.map (some b)) kv).run P w= .ok (.tuple #[v,.int .i64 j]) (bh w b (.map LF clock)):=by
 have hm:=yy he hk
 simp [Instr.mapEntry,run_underlying t1,run_getObj_map w b LF clock cy,Mz,Mm,he,hk,Instr.keyThatStays,hs,TS _ cy,bh,hm,goInt,hb]
theorem jP {P:Program} {ty kt et:TypeId} {b:Nat} {LF:Array MapEntry} {clock:Nat} {kv zv:Value} {zi:TypeInfo} {w:World} (t1:P.underlying ty=some (.map kt et)) (cy:w.heap[b]? =some (.map LF clock))
  (Mz:(Instr.checkKey false 10000 kt kv).run P w= .ok () w) (Mm:(TB kt kv LF.toList).run P w= .ok none w) (hz:P.info? et=some zi) (Px:zi.zero=some zv):
  (Instr.mapEntry ty (.map (some b)) kv).run P w= .ok (.tuple #[zv,.int .i64 clock]) (bh w b (.map (LF.push ⟨kv,zv,clock⟩) (clock+1))):=by
 simp [Instr.mapEntry,run_underlying t1,run_getObj_map w b LF clock cy,Mz,Mm,TS _ cy,bh,goInt,dr hz Px]
theorem qq {P:Program} {ty:TypeId} {b:Nat} {LF:Array MapEntry} {clock j:Nat} {q:T8} {v:Value} {w:World} (cy:w.heap[b]? =some (.map LF clock)) (hb:jF LF.toList clock) (hj:j<LF.size):
  (Instr.entryStore ty (.map (some b)) (.int q j) v).run P w= .ok () (bh w b (.map (LF.modify j fun e=> { e with val:=v }) clock)):=by
 simp [Instr.entryStore,run_getObj_map w b LF clock cy,asInt,asIntOf,Dk hb hj,TS _ cy,bh]
theorem tf {k:T8} :∀ {es:List (Int×D)} {l:List MapEntry} (j:Nat) {d:D} {v:Value},mw k es l→gO d=some v→mw k (xS es j d) (l.modify j fun e=> { e with val:=v })
 | [],[],j,_,_,_,_=>by cases j<;>exact trivial
 | [],_::_,_,_,_,h,_=>h.elim
 |(_,_)::_,[],_,_,_,h,_=>h.elim
 |(n,a)::r,e::s,0,d,v,h,hd=>by
  rw [List.modify_zero_cons]
  exact ⟨h.1,hd,h.2.2⟩
 |(n,a)::r,e::s,j+1,d,v,h,hd=>by
  rw [List.modify_succ_cons]
  exact ⟨h.1,h.2.1,tf j h.2.2 hd⟩
theorem tg {ks:List LK} :∀ {es:List (List D×D)} {l:List MapEntry} (j:Nat) {d:D} {v:Value},lh ks es l→gO d=some v→lh ks (xS es j d) (l.modify j fun e=> { e with val:=v })
 | [],[],j,_,_,_,_=>by cases j<;>exact trivial
 | [],_::_,_,_,_,h,_=>h.elim
 |(_,_)::_,[],_,_,_,h,_=>h.elim
 |(n,a)::r,e::s,0,d,v,h,hd=>by
  rw [List.modify_zero_cons]
  exact ⟨h.1,hd,h.2.2⟩
 |(n,a)::r,e::s,j+1,d,v,h,hd=>by
  rw [List.modify_succ_cons]
  exact ⟨h.1,h.2.1,tg j h.2.2 hd⟩
theorem oD {ks:List LK} :∀ {es:List (List D×D)} {l:List MapEntry},lh ks es l→es.length=l.length
 | [],[],_=>rfl
 | [],_::_,h=>h.elim
 |(_,_)::_,[],h=>h.elim
 |(n,d)::r,e::s,h=>by simp [oD h.2.2]
theorem lH {M:MM} {d:D} {v:Value} (h:gO d=some v):bk M d v:=by
 cases d<;>simp only [gO,SL,reduceCtorEq] at h<;>subst h
 ·exact .int _ _
 ·exact .bool _
 ·exact .str _
theorem kV {M:MM} {d:D} {v:Value} (h:bk M d v) (hs:hY d=true):gO d=some v:=by
 cases h<;>first|rfl|(simp [hY] at hs)
theorem lZ {k q:T8} {n:Int} :∀ {es:List (Int×D)} {l:List MapEntry} (i:Nat),mw k es l→
  (∃j v d e,(dv es n=some d∧qS es n=j)∧gO d=some v∧Instr.findNow (.int q) (.int k n) l i=some (some (i+j,v))∧l[j]? =some e∧e.key= .int k n∧∀v2 d2,gO d2=some v2→mw k (dK es n d2) (l.modify j fun e=> { e with key:= .int k n,val:=v2 }))∨
  ((dv es n=none∧qS es n=es.length)∧Instr.findNow (.int q) (.int k n) l i=some none∧∀v2 d2 c,gO d2=some v2→mw k (dK es n d2) (l++ [⟨.int k n,v2,c⟩]))
 | [],[],i,_=> .inr ⟨⟨rfl,rfl⟩,rfl,fun v2 d2 c h=>⟨rfl,h,trivial⟩⟩
 | [],_::_,_,h=>h.elim
 |(_,_)::_,[],_,h=>h.elim
 |(a,d)::r,e::s,i,h=>by
  obtain ⟨h1,h2,h3⟩:=h
  have MD:Instr.sameNow (.int q) (.int k n) e.key=some (n==a):=by rw [h1];simp [Instr.sameNow]
  by_cases hn:(n==a)=true
  ·left
   have hna:n=a:=by simpa using hn
   refine ⟨0,e.val,d,e,?_,h2,?_,rfl,by rw [h1,hna],?_⟩
   ·simp [dv,qS,hn]
   ·simp [Instr.findNow,MD,hn]
   ·intro v2 d2 hd
    simp only [dK,hn,List.modify_zero_cons]
    exact ⟨rfl,hd,h3⟩
  ·have Qk:(n==a)=false:=by simpa using hn
   rcases lZ (q:=q) (n:=n) (i+1) h3 with ⟨j,v,d',e',k1,k2,k3,k4,k5,k6⟩|⟨k1,k2,k3⟩
   ·left
    refine ⟨j+1,v,d',e',?_,k2,?_,by simpa using k4,k5,?_⟩
    ·simp [dv,qS,Qk,k1]
    ·simp only [Instr.findNow,MD,Qk]
     rw [k3,show i+1+j=i+(j+1) by omega]
    ·intro v2 d2 hd
     simp only [dK,Qk,List.modify_succ_cons]
     exact ⟨h1,h2,k6 v2 d2 hd⟩
   ·right
    refine ⟨?_,?_,?_⟩
    ·simp [dv,qS,Qk,k1]
    ·simp only [Instr.findNow,MD,Qk,k2]
    ·intro v2 d2 c hd
     simp only [dK,Qk,SH]
     exact ⟨h1,h2,k3 v2 d2 c hd⟩
section
variable {P:Program} {o:Oper} {ρ:Operand→D}
theorem jv {t:TypeId} {k:T8} {et:TypeId} (h:ig P t=some (k,et)):∃kt,P.underlying t=some (.map kt et)∧P.underlying kt=some (.int k):=by
 unfold ig at h
 split at h
 ·rename_i kt et' ht
  split at h
  ·rename_i k' hk
   simp only [SL,Prod.mk.injEq] at h
   obtain ⟨rfl,rfl⟩:=h
   exact ⟨kt,ht,hk⟩
  ·cases h
 ·cases h
theorem fW {kt:TypeId} {q:T8} (hk:P.underlying kt=some (.int q)) (b:Bool) (v:Value) (w:World):(Instr.checkKey b 10000 kt v).run P w= .ok () w:=by
 unfold Instr.checkKey
 simp [run_underlying hk]
theorem yr {ty:TypeId} {r:Option Operand} {k:T8} {et:TypeId} (ho:o.op= .makeMap ty r) (hk:ig P ty=some (k,et)) (hr:∀x,r=some x→∃q n,ρ x= .int q n):
  eD P o ρ (.new (.mp k []) fun id=> .cB id):=by
 intro w0 M own σ w a id hw LM LQ next Q hn
 obtain ⟨kt,h1,h2⟩:=jv hk
 have LV:(execOp a.eval o).run P w= .ok (.value (.map (some w.heap.size))) (w.alloc (.map #[] 0)):=by
  cases r with
  |none=>simp [execOp,ho,Instr.makeMap]
  |some x=>
   obtain ⟨q,n,hx⟩:=hr x rfl
   have:=cC (LM x (by simp [ho,SQ])) hx
   simp [execOp,ho,Instr.makeMap,run_underlying h1,this,asInt,asIntOf]
 have k:=hw.EV LQ.1 (o:= .mp k []) rfl ⟨trivial,rP⟩
 exact cT LV (hn _ _ _ _ (MM.dw LQ.1) ⟨fun j hj=>by simp [MM.bc,hj],fun _ _=>rfl⟩ k (.cB (by simp [MM.bc])))
theorem Ch {ty:TypeId} {m kx v:Operand} {id:Nat} {q:T8} {n:Int} {es:List (Int×D)} {et:TypeId} (ho:o.op= .insert ty m kx v∨o.op= .mapUpdate ty m kx v) (hk:ig P ty=some (q,et))
  (hm:ρ m= .cB id) (hx:ρ kx= .int q n) (hv:hY (ρ v)=true):eD P o ρ (.dW id (.mp q es) (.mp q (dK es n (ρ v))) .undef):=by
 intro w0 M own σ w a i hw hr LQ next Q hn
 obtain ⟨kt,t1,t2⟩:=jv hk
 obtain ⟨b,LF,clock,k⟩:=hw.mp id _ (by rw [(LQ:σ id=_)];rfl)
 have N7:m∈o.op.operands∧kx∈o.op.operands∧v∈o.op.operands:=by rcases ho with h|h<;>simp [h,SQ]
 have Nw:=hr m N7.1
 have Nj:=cC (hr kx N7.2.1) hx
 have Ps:=kV (hr v N7.2.2) hv
 rw [hm] at Nw
 generalize hva:a.eval m=va at Nw
 cases Nw with
 |cB hb=>
  rename_i b'
  rw [k.box] at hb
  obtain rfl:=SE hb
  have LX:(execOp a.eval o).run P w=((Instr.mapUpdate ty (.map (some b)) (.int q n) (a.eval v)).run P w).andThen fun _ w'=> .ok .skip w':=by
   rcases ho with h|h<;>simp [execOp,h,hva,Nj]
  rcases lZ (q:=q) (n:=n) 0 k.fits.1 with ⟨j,v0,d0,e0,k1,k2,k3,k4,k5,k6⟩|⟨k1,k2,k3⟩
  ·have MX:mw q (dK es n (ρ v)) (LF.modify j fun e=> { e with key:= .int q n,val:=a.eval v }).toList:=by
    rw [TV];exact k6 _ _ Ps
   have MO:=hw.jB k clock (o':= .mp q (dK es n (ρ v))) rfl ⟨MX,by rw [TV];exact il (fun _=>rfl) k.fits.2⟩
   refine jK (w':=bh w b (.map (LF.modify j fun e=> { e with key:= .int q n,val:=a.eval v }) clock)) ?_ (hn undef M own _ (.refl M) ⟨rfl,fun _ _=>rfl⟩ MO (.undef _))
   rw [LX]
   have Pp:(TB kt (.int q n) LF.toList).run P w= .ok (some (j,v0)) w:=by
    simp [TB,run_underlying t2,k3]
   have PY:LF[j]? =some e0:=by simpa using k4
   have R3:TX 10000 (Value.int q n) (Value.int q n)=true:=by simp [TX]
   simp [Instr.mapUpdate,run_underlying t1,run_getObj_map w b LF clock k.cy,fW t2,Pp,PY,k5,Instr.keyThatStays,R3,TS _ k.cy,bh]
  ·have MX:mw q (dK es n (ρ v)) (LF.push ⟨.int q n,a.eval v,clock⟩).toList:=by
    rw [Array.toList_push];exact k3 _ _ _ Ps
   have MO:=hw.jB k (clock+1) (o':= .mp q (dK es n (ρ v))) rfl ⟨MX,by rw [Array.toList_push];exact jz k.fits.2⟩
   refine jK (w':=bh w b (.map (LF.push ⟨.int q n,a.eval v,clock⟩) (clock+1))) ?_ (hn undef M own _ (.refl M) ⟨rfl,fun _ _=>rfl⟩ MO (.undef _))
   rw [LX]
   have Pp:(TB kt (.int q n) LF.toList).run P w= .ok none w:=by
    simp [TB,run_underlying t2,k2]
   simp [Instr.mapUpdate,run_underlying t1,run_getObj_map w b LF clock k.cy,fW t2,Pp,TS _ k.cy,bh]
theorem yp {ty:TypeId} {m kx:Operand} {ok:Bool} {id:Nat} {q:T8} {n:Int} {es:List (Int×D)} {et:TypeId} {zd:D} {r:Option D} (ho:o.op= .lookup ty m kx ok) (hk:ig P ty=some (q,et)) (hz:gL P et=some zd)
  (hm:ρ m= .cB id) (hx:ρ kx= .int q n) (hl:dv es n=r):eD P o ρ (.read id (.mp q es) (match ok with|true=> .aC [r.getD zd,.bool r.isSome]|false=>r.getD zd)):=by
 intro w0 M own σ w a i hw hr LQ next Q hn
 obtain ⟨kt,t1,t2⟩:=jv hk
 obtain ⟨b,LF,clock,k⟩:=hw.mp id _ (by rw [(LQ:σ id=_)];rfl)
 have Nw:=hr m (by simp [ho,SQ])
 have Nj:=cC (hr kx (by simp [ho,SQ])) hx
 rw [hm] at Nw
 generalize hva:a.eval m=va at Nw
 cases Nw with
 |cB hb=>
  rename_i b'
  rw [k.box] at hb
  obtain rfl:=SE hb
  obtain ⟨zi,zv,hzi,Px,rfl⟩:=fq hz
  have main:∃v,bk M (r.getD (cK zv)) v∧(execOp a.eval o).run P w= .ok (.value (if ok then .tuple #[v,.bool r.isSome] else v)) w:=by
   rcases lZ (q:=q) (n:=n) 0 k.fits.1 with ⟨j,v0,d0,e0,k1,k2,k3,_⟩|⟨k1,k2,_⟩
   ·rw [k1.1] at hl
    subst hl
    refine ⟨v0,lH k2,?_⟩
    have Pp:(TB kt (.int q n) LF.toList).run P w= .ok (some (j,v0)) w:=by
     simp [TB,run_underlying t2,k3]
    simp [execOp,ho,Instr.lookup,run_underlying t1,hva,Nj,run_getObj_map w b LF clock k.cy,fW t2,Pp]
   ·rw [k1.1] at hl
    subst hl
    refine ⟨zv,fj zv,?_⟩
    have Pp:(TB kt (.int q n) LF.toList).run P w= .ok none w:=by
     simp [TB,run_underlying t2,k2]
    simp [execOp,ho,Instr.lookup,run_underlying t1,hva,Nj,run_getObj_map w b LF clock k.cy,fW t2,Pp,dr hzi Px]
  obtain ⟨v,h1,h2⟩:=main
  refine cT h2 (hn _ M own w (.refl M) ⟨rfl,rfl⟩ hw ?_)
  cases ok
  ·exact h1
  ·refine .aC rfl (fun i d u p q=> ?_)
   match i,p,q with
   |0,p,q=>simp at p q;subst p q;exact h1
   |1,p,q=>simp at p q;subst p q;exact .bool _
   |i+2,p,_=>simp at p
end
theorem lJ:∀ {a b:List LK},kW a b=true→a=b
 | [],[],_=>rfl
 | [],_::_,h=>by simp [kW] at h
 |_::_,[],h=>by simp [kW] at h
 |a::x,b::y,h=>by
  simp only [kW,SG] at h
  rw [lJ h.2]
  congr 1
  have h1:=h.1
  cases a<;>cases b<;>simp only [LK.same,Tq] at h1
  ·rfl
  ·rw [e9 h1]
  ·rfl
theorem sC {M:MM} :∀ {ks:List LK} {cs:List D} {vs:List Value},fQ ks cs=true→cs.length=vs.length→(∀(i:Nat) (d:D) (v:Value),cs[i]? =some d→vs[i]? =some v→bk M d v)→iA cs=some vs
 |_,[],[],_,_,_=>rfl
 |_,[],_::_,_,h,_=>by simp at h
 |_,_::_,[],_,h,_=>by simp at h
 | [],_::_,_::_,h,_,_=>by simp [fQ] at h
 |k::ks,d::cs,v::vs,h,hl,hr=>by
  simp only [fQ,SG] at h
  have h0:=hr 0 d v rfl rfl
  have ih:=sC h.2 (by simpa using hl) fun i d v a b=>hr (i+1) d v (by simpa using a) (by simpa using b)
  have hd:gO d=some v:=by
   have h1:=h.1
   cases k<;>cases d<;>simp only [LK.fits,Tq] at h1<;>cases h0<;>rfl
  simp only [iA,hd,ih]
theorem xn {a b:D} {u v:Value} (ha:gO a=some u) (hb:gO b=some v):ak a b=kp u v:=by
 cases a<;>simp only [gO,SL,reduceCtorEq] at ha<;>subst ha<;>cases b<;>simp only [gO,SL,reduceCtorEq] at hb<;>subst hb<;>rfl
theorem my:∀ {a b:List D} {u v:List Value},iA a=some u→iA b=some v→ae a b=cm u v
 | [],[],u,v,ha,hb=>by simp only [iA,SL] at ha hb;subst ha hb;rfl
 | [],y::b,u,v,ha,hb=>by
  simp only [iA,SL] at ha hb
  subst ha
  split at hb
  ·obtain rfl:=SE hb;rfl
  ·cases hb
 |x::a,[],u,v,ha,hb=>by
  simp only [iA,SL] at ha hb
  subst hb
  split at ha
  ·obtain rfl:=SE ha;rfl
  ·cases ha
 |x::a,y::b,u,v,ha,hb=>by
  simp only [iA] at ha hb
  split at ha
  ·rename_i u0 ul h1 h2
   obtain rfl:=SE ha
   split at hb
   ·rename_i v0 vl h3 h4
    obtain rfl:=SE hb
    simp only [ae,cm,xn h1 h3,my h2 h4]
   ·cases hb
  ·cases ha
theorem kg {k:LK} {ks:List LK} (h:mu (k::ks)=true):mu ks=true∧k≠ .str:=by
 cases k
 ·exact ⟨h,by simp⟩
 ·exact ⟨h,by simp⟩
 ·simp [mu] at h
theorem pa:∀ {ks:List LK} {u v:List Value},mu ks=true→cJ ks u→cJ ks v→cm u v=true→u=v
 | [],[],[],_,_,_,_=>rfl
 | [],_::_,_,_,h,_,_=>h.elim
 | [],[],_::_,_,_,h,_=>h.elim
 |_::_,[],_,_,h,_,_=>h.elim
 |_::_,_::_,[],_,_,h,_=>h.elim
 |k::ks,a::u,b::v,hs,hu,hv,h=>by
  simp only [cm,SG] at h
  rw [pa (kg hs).1 hu.2 hv.2 h.2]
  congr 1
  have h1:=hu.1
  have h2:=hv.1
  have h3:=h.1
  cases k<;>cases a<;>simp only [LK.lg] at h1<;>cases b<;>simp only [LK.lg] at h2
  ·simp only [kp,beq_iff_eq] at h3;rw [h3]
  ·simp only [kp,beq_iff_eq] at h3;rw [h3,← h1,← h2]
  ·exact absurd rfl (kg hs).2
theorem mo:∀ {ks:List LK} {u:List Value} (n:Nat),mu ks=true→cJ ks u→∀p∈u.zip u,TX n p.1 p.2=true
 | [],[],_,_,_,p,hp=>by simp at hp
 | [],_::_,_,_,h,_,_=>h.elim
 |_::_,[],_,_,h,_,_=>h.elim
 |k::ks,a::u,n,hs,h,p,hp=>by
  rw [List.zip_cons_cons,List.mem_cons] at hp
  rcases hp with rfl|hp
  ·have h1:=h.1
   have h2:=(kg hs).2
   cases k
   ·cases a<;>simp only [LK.lg] at h1;simp [TX]
   ·cases a<;>simp only [LK.lg] at h1;simp [TX]
   ·exact absurd rfl h2
  ·exact mo n (kg hs).1 h.2 p hp
theorem mZ {ks:List LK} {x:Array Value} (hs:mu ks=true) (h:cJ ks x.toList):TX 10000 (.agg x) (.agg x)=true:=by
 show TX (9999+1) (.agg x) (.agg x)=true
 simp only [TX,beq_self_eq_true,Bool.true_and,Td]
 exact fun p hp=>mo 9999 hs h p hp
theorem km {ks:List LK} :∀ {es:List (List D×D)} {l:List MapEntry},lh ks es l→∀e∈l,∃y:Array Value,e.key= .agg y∧cJ ks y.toList
 | [],[],_,e,he=>by simp at he
 | [],_::_,h,_,_=>h.elim
 |(_,_)::_,[],h,_,_=>h.elim
 |(n,d)::r,e::s,h,e',he=>by
  rcases List.mem_cons.mp he with rfl|he
  ·obtain ⟨y,h1,_,h3⟩:=h.1
   exact ⟨y,h1,h3⟩
  ·exact km h.2.2 e' he
theorem ko {ks:List LK} {x:Array Value} {cs:List D} (hs:mu ks=true) (hx:iA cs=some x.toList) (hf:cJ ks x.toList):∀ {es:List (List D×D)} {l:List MapEntry} (i:Nat),lh ks es l→
  (∃j v d e,(kF es cs=some d∧qR es cs=j)∧gO d=some v∧lj x.toList l i=some (i+j,v)∧l[j]? =some e∧e.key= .agg x∧∀v2 d2,gO d2=some v2→lh ks (me es cs d2) (l.modify j fun e=> { e with key:= .agg x,val:=v2 }))∨
  ((kF es cs=none∧qR es cs=es.length)∧lj x.toList l i=none∧∀v2 d2 c,gO d2=some v2→lh ks (me es cs d2) (l++ [⟨.agg x,v2,c⟩]))
 | [],[],i,_=> .inr ⟨⟨rfl,rfl⟩,rfl,fun v2 d2 c h=>⟨⟨x,rfl,hx,hf⟩,h,trivial⟩⟩
 | [],_::_,_,h=>h.elim
 |(_,_)::_,[],_,h=>h.elim
 |(a,d)::r,e::s,i,h=>by
  obtain ⟨⟨y,hk,hy,hfy⟩,h2,h3⟩:=h
  have heq:ae cs a=cm x.toList y.toList:=my hx hy
  cases hn:cm x.toList y.toList with
  |true=>
   left
   have hxy:x=y:=Array.ext' (pa hs hf hfy hn)
   refine ⟨0,e.val,d,e,?_,h2,?_,rfl,by rw [hk,hxy],?_⟩
   ·simp [kF,qR,heq,hn]
   ·simp [lj,hk,hn]
   ·intro v2 d2 hd
    simp only [me,heq,hn,List.modify_zero_cons]
    exact ⟨⟨x,rfl,hx,hf⟩,hd,h3⟩
  |false=>
   rcases ko hs hx hf (i+1) h3 with ⟨j,v,d',e',k1,k2,k3,k4,k5,k6⟩|⟨k1,k2,k3⟩
   ·left
    refine ⟨j+1,v,d',e',?_,k2,?_,by simpa using k4,k5,?_⟩
    ·simp [kF,qR,heq,hn,k1]
    ·simp only [lj,hk,hn]
     rw [k3,show i+1+j=i+(j+1) by omega]
    ·intro v2 d2 hd
     simp only [me,heq,hn,List.modify_succ_cons]
     exact ⟨⟨y,hk,hy,hfy⟩,h2,k6 v2 d2 hd⟩
   ·right
    refine ⟨?_,?_,?_⟩
    ·simp [kF,qR,heq,hn,k1]
    ·simp only [lj,hk,hn,k2]
    ·intro v2 d2 c hd
     simp only [me,heq,hn,SH]
     exact ⟨⟨y,hk,hy,hfy⟩,h2,k3 v2 d2 c hd⟩
theorem mN {M:MM} {ks:List LK} {cs:List D} {v:Value} (h:bk M (.agg cs) v) (hf:fQ ks cs=true):∃x:Array Value,v= .agg x∧iA cs=some x.toList∧cJ ks x.toList:=by
 cases h with
 |agg hl hr=>
  rename_i vs
  have l1:cs.length=vs.toList.length:=by simpa using hl
  have r1:∀(i:Nat) (d:D) (v:Value),cs[i]? =some d→vs.toList[i]? =some v→bk M d v:=fun i d v a b=>hr i d v a (by simpa using b)
  exact ⟨vs,rfl,sC hf l1 r1,nB hf l1 r1⟩
section
variable {P:Program} {o:Oper} {ρ:Operand→D}
theorem jw {t kt et:TypeId} (h:ij P t=some (kt,et)):P.underlying t=some (.map kt et):=by
 unfold ij at h
 split at h
 ·rename_i kt' et' ht
  obtain ⟨rfl,rfl⟩:=Prod.mk.inj (SE h)
  exact ht
 ·cases h
theorem wJ {ty:TypeId} {r:Option Operand} {ks:List LK} {kt et:TypeId} (ho:o.op= .makeMap ty r) (hk:ij P ty=some (kt,et)) (hr:∀x,r=some x→∃q n,ρ x= .int q n):
  eD P o ρ (.new (.mf ks []) fun id=> .cB id):=by
 intro w0 M own σ w a id hw LM LQ next Q hn
 have h1:=jw hk
 have LV:(execOp a.eval o).run P w= .ok (.value (.map (some w.heap.size))) (w.alloc (.map #[] 0)):=by
  cases r with
  |none=>simp [execOp,ho,Instr.makeMap]
  |some x=>
   obtain ⟨q,n,hx⟩:=hr x rfl
   have:=cC (LM x (by simp [ho,SQ])) hx
   simp [execOp,ho,Instr.makeMap,run_underlying h1,this,asInt,asIntOf]
 have k:=hw.EV LQ.1 (o:= .mf ks []) rfl ⟨trivial,rP⟩
 exact cT LV (hn _ _ _ _ (MM.dw LQ.1) ⟨fun j hj=>by simp [MM.bc,hj],fun _ _=>rfl⟩ k (.cB (by simp [MM.bc])))
theorem yo {ty:TypeId} {m kx v:Operand} {id:Nat} {ks:List LK} {cs:List D} {es:List (List D×D)} {kt et:TypeId} (ho:o.op= .insert ty m kx v∨o.op= .mapUpdate ty m kx v) (hk:ij P ty=some (kt,et)) (hK:ky P kt ks)
  (hm:ρ m= .cB id) (hx:ρ kx= .agg cs) (hf:fQ ks cs=true) (hv:hY (ρ v)=true):eD P o ρ (.dW id (.mf ks es) (.mf ks (me es cs (ρ v))) .undef):=by
 intro w0 M own σ w a i hw hr LQ next Q hn
 have t1:=jw hk
 obtain ⟨b,LF,clock,k⟩:=hw.mp id _ (by rw [(LQ:σ id=_)];rfl)
 have N7:m∈o.op.operands∧kx∈o.op.operands∧v∈o.op.operands:=by rcases ho with h|h<;>simp [h,SQ]
 have Nw:=hr m N7.1
 have Nj:=hr kx N7.2.1
 rw [hx] at Nj
 obtain ⟨x,ex,sx,fx⟩:=mN Nj hf
 have Ps:=kV (hr v N7.2.2) hv
 rw [hm] at Nw
 generalize hva:a.eval m=va at Nw
 cases Nw with
 |cB hb=>
  rename_i b'
  rw [k.box] at hb
  obtain rfl:=SE hb
  have LX:(execOp a.eval o).run P w=((Instr.mapUpdate ty (.map (some b)) (.agg x) (a.eval v)).run P w).andThen fun _ w'=> .ok .skip w':=by
   rcases ho with h|h<;>simp [execOp,h,hva,ex]
  have Mm:=hK.find w x LF.toList fx (km k.fits.1)
  have Mz:=hK.check w false x fx
  rcases ko hK.wP sx fx 0 k.fits.1 with ⟨j,v0,d0,e0,k1,k2,k3,k4,k5,k6⟩|⟨k1,k2,k3⟩
  ·have MX:lh ks (me es cs (ρ v)) (LF.modify j fun e=> { e with key:= .agg x,val:=a.eval v }).toList:=by
    rw [TV];exact k6 _ _ Ps
   have MO:=hw.jB k clock (o':= .mf ks (me es cs (ρ v))) rfl ⟨MX,by rw [TV];exact il (fun _=>rfl) k.fits.2⟩
   refine jK (w':=bh w b (.map (LF.modify j fun e=> { e with key:= .agg x,val:=a.eval v }) clock)) ?_ (hn undef M own _ (.refl M) ⟨rfl,fun _ _=>rfl⟩ MO (.undef _))
   rw [LX]
   rw [k3,Ti] at Mm
   have PY:LF[j]? =some e0:=by simpa using k4
   simp [Instr.mapUpdate,run_underlying t1,run_getObj_map w b LF clock k.cy,Mz,Mm,PY,k5,Instr.keyThatStays,mZ hK.wP fx,TS _ k.cy,bh]
  ·have MX:lh ks (me es cs (ρ v)) (LF.push ⟨.agg x,a.eval v,clock⟩).toList:=by
    rw [Array.toList_push];exact k3 _ _ _ Ps
   have MO:=hw.jB k (clock+1) (o':= .mf ks (me es cs (ρ v))) rfl ⟨MX,by rw [Array.toList_push];exact jz k.fits.2⟩
   refine jK (w':=bh w b (.map (LF.push ⟨.agg x,a.eval v,clock⟩) (clock+1))) ?_ (hn undef M own _ (.refl M) ⟨rfl,fun _ _=>rfl⟩ MO (.undef _))
   rw [LX]
   rw [k2] at Mm
   simp [Instr.mapUpdate,run_underlying t1,run_getObj_map w b LF clock k.cy,Mz,Mm,TS _ k.cy,bh]
theorem wI {ty:TypeId} {m kx:Operand} {ok:Bool} {id:Nat} {ks:List LK} {cs:List D} {es:List (List D×D)} {kt et:TypeId} {zd:D} {r:Option D} (ho:o.op= .lookup ty m kx ok) (hk:ij P ty=some (kt,et)) (hK:ky P kt ks)
  (hz:gL P et=some zd) (hm:ρ m= .cB id) (hx:ρ kx= .agg cs) (hf:fQ ks cs=true) (hl:kF es cs=r):eD P o ρ (.read id (.mf ks es) (match ok with|true=> .aC [r.getD zd,.bool r.isSome]|false=>r.getD zd)):=by
 intro w0 M own σ w a i hw hr LQ next Q hn
 have t1:=jw hk
 obtain ⟨b,LF,clock,k⟩:=hw.mp id _ (by rw [(LQ:σ id=_)];rfl)
 have Nw:=hr m (by simp [ho,SQ])
 have Nj:=hr kx (by simp [ho,SQ])
 rw [hx] at Nj
 obtain ⟨x,ex,sx,fx⟩:=mN Nj hf
 rw [hm] at Nw
 generalize hva:a.eval m=va at Nw
 cases Nw with
 |cB hb=>
  rename_i b'
  rw [k.box] at hb
  obtain rfl:=SE hb
  obtain ⟨zi,zv,hzi,Px,rfl⟩:=fq hz
  have Mm:=hK.find w x LF.toList fx (km k.fits.1)
  have Mz:=fun em=>hK.check w em x fx
  have main:∃v,bk M (r.getD (cK zv)) v∧(execOp a.eval o).run P w= .ok (.value (if ok then .tuple #[v,.bool r.isSome] else v)) w:=by
   rcases ko hK.wP sx fx 0 k.fits.1 with ⟨j,v0,d0,e0,k1,k2,k3,_⟩|⟨k1,k2,_⟩
   ·rw [k1.1] at hl
    subst hl
    rw [k3] at Mm
    refine ⟨v0,lH k2,?_⟩
    simp [execOp,ho,Instr.lookup,run_underlying t1,hva,ex,run_getObj_map w b LF clock k.cy,Mz,Mm]
   ·rw [k1.1] at hl
    subst hl
    rw [k2] at Mm
    refine ⟨zv,fj zv,?_⟩
    simp [execOp,ho,Instr.lookup,run_underlying t1,hva,ex,run_getObj_map w b LF clock k.cy,Mz,Mm,dr hzi Px]
  obtain ⟨v,h1,h2⟩:=main
  refine cT h2 (hn _ M own w (.refl M) ⟨rfl,rfl⟩ hw ?_)
  cases ok
  ·exact h1
  ·refine .aC rfl (fun i d u p q=> ?_)
   match i,p,q with
   |0,p,q=>simp at p q;subst p q;exact h1
   |1,p,q=>simp at p q;subst p q;exact .bool _
   |i+2,p,_=>simp at p
end
section
variable {P:Program} {o:Oper} {ρ:Operand→D}
theorem pB {M:MM} {d:D} {v:Value} {j j':Nat} (h:bk M d v) (e:j=j'):bk M (.aC [d,.int .i64 (j:Int)]) (.tuple #[v,.int .i64 (j':Int)]):=by
 subst e
 refine .aC rfl (fun i d' u p q=> ?_)
 match i,p,q with
 |0,p,q=>simp at p q;subst p q;exact h
 |1,p,q=>simp at p q;subst p q;exact .int _ _
 |i+2,p,_=>simp at p
theorem Ci {ty:TypeId} {m kx:Operand} {id:Nat} {q:T8} {n:Int} {es:List (Int×D)} {et:TypeId} {zd:D} {r:Option D} (ho:o.op= .mapEntry ty m kx) (hk:ig P ty=some (q,et)) (hz:gL P et=some zd) (OS:hY zd=true)
  (hm:ρ m= .cB id) (hx:ρ kx= .int q n) (hl:dv es n=r):eD P o ρ (match r with|some d=> .dW id (.mp q es) (.mp q es) (.aC [d,.int .i64 (qS es n)])|none=> .dW id (.mp q es) (.mp q (dK es n zd)) (.aC [zd,.int .i64 (qS es n)])):=by
 have main:∀ {w0:dq} {M:MM} {own:Nat→Option Nat} {σ:Nat→Ob} {w:World} {a:Act},bw w0 M own σ w→(∀x∈o.op.operands,bk M (ρ x) (a.eval x))→σ id= .mp q es→∃d v Og w',(execOp a.eval o).run P w= .ok (.value v) w'∧
   bk M (.aC [d,.int .i64 (qS es n)]) v∧bw w0 M own (dW σ id (.mp q Og)) w'∧((dv es n=some d∧Og=es)∨(dv es n=none∧d=zd∧Og=dK es n zd)):=by
  intro w0 M own σ w a hw hr LQ
  obtain ⟨kt,t1,t2⟩:=jv hk
  obtain ⟨b,LF,clock,k⟩:=hw.mp id _ (by rw [LQ];rfl)
  have Nw:=hr m (by simp [ho,SQ])
  have Nj:=cC (hr kx (by simp [ho,SQ])) hx
  rw [hm] at Nw
  generalize hva:a.eval m=va at Nw
  cases Nw with
  |cB hb=>
   rename_i b'
   rw [k.box] at hb
   obtain rfl:=SE hb
   obtain ⟨zi,zv,hzi,Px,rfl⟩:=fq hz
   have LX:(execOp a.eval o).run P w=((Instr.mapEntry ty (.map (some b)) (.int q n)).run P w).andThen fun v w'=> .ok (.value v) w':=by
    simp [execOp,ho,hva,Nj]
   have R3:TX 10000 (Value.int q n) (Value.int q n)=true:=by simp [TX]
   rcases lZ (q:=q) (n:=n) 0 k.fits.1 with ⟨j,v0,d0,e0,k1,k2,k3,k4,k5,_⟩|⟨k1,k2,k3⟩
   ·have Pp:(TB kt (.int q n) LF.toList).run P w= .ok (some (j,v0)) w:=by
     simp [TB,run_underlying t2,k3]
    have PY:LF[j]? =some e0:=by simpa using k4
    have MO:=hw.jB k clock (o':= .mp q es) rfl k.fits
    refine ⟨d0,_,es,_,?_,pB (lH k2) k1.2,MO,.inl ⟨k1.1,rfl⟩⟩
    rw [LX,jO t1 k.cy (fW t2 _ _ _) Pp PY k5 R3 (k.fits.2.2 j e0 k4)]
    rfl
   ·have Pp:(TB kt (.int q n) LF.toList).run P w= .ok none w:=by
     simp [TB,run_underlying t2,k2]
    have Qf:=kV (fj (M:=M) zv) OS
    have MO:=hw.jB k (clock+1) (ents':=LF.push ⟨.int q n,zv,clock⟩) (o':= .mp q (dK es n (cK zv))) rfl ⟨by rw [Array.toList_push];exact k3 _ _ _ Qf,by rw [Array.toList_push];exact jz k.fits.2⟩
    refine ⟨cK zv,_,_,_,?_,pB (fj zv) (j':=clock) (by rw [k1.2,oC k.fits.1,← k.fits.2.1]),MO,.inr ⟨k1.1,rfl,rfl⟩⟩
    rw [LX,jP t1 k.cy (fW t2 _ _ _) Pp hzi Px]
    rfl
 cases r with
 |none=>
  intro w0 M own σ w a i hw hr LQ next Q hn
  obtain ⟨d,v,Og,w',h1,h2,h3,⟨h4,_⟩|⟨_,rfl,rfl⟩⟩:=main hw hr LQ
  ·rw [hl] at h4;cases h4
  ·exact cT h1 (hn _ M own w' (.refl M) ⟨rfl,fun _ _=>rfl⟩ h3 h2)
 |some d=>
  intro w0 M own σ w a i hw hr LQ next Q hn
  obtain ⟨d',v,Og,w',h1,h2,h3,⟨h4,rfl⟩|⟨h4,_⟩⟩:=main hw hr LQ
  ·rw [hl] at h4
   obtain rfl:=SE h4
   exact cT h1 (hn _ M own w' (.refl M) ⟨rfl,fun _ _=>rfl⟩ h3 h2)
  ·rw [hl] at h4;cases h4
theorem yq {ty:TypeId} {m kx:Operand} {id:Nat} {ks:List LK} {cs:List D} {es:List (List D×D)} {kt et:TypeId} {zd:D} {r:Option D} (ho:o.op= .mapEntry ty m kx) (hk:ij P ty=some (kt,et)) (hK:ky P kt ks) (hz:gL P et=some zd) (OS:hY zd=true)
  (hm:ρ m= .cB id) (hx:ρ kx= .agg cs) (hf:fQ ks cs=true) (hl:kF es cs=r):eD P o ρ (match r with|some d=> .dW id (.mf ks es) (.mf ks es) (.aC [d,.int .i64 (qR es cs)])|none=> .dW id (.mf ks es) (.mf ks (me es cs zd)) (.aC [zd,.int .i64 (qR es cs)])):=by
 have main:∀ {w0:dq} {M:MM} {own:Nat→Option Nat} {σ:Nat→Ob} {w:World} {a:Act},bw w0 M own σ w→(∀x∈o.op.operands,bk M (ρ x) (a.eval x))→σ id= .mf ks es→∃d v Og w',(execOp a.eval o).run P w= .ok (.value v) w'∧
   bk M (.aC [d,.int .i64 (qR es cs)]) v∧bw w0 M own (dW σ id (.mf ks Og)) w'∧((kF es cs=some d∧Og=es)∨(kF es cs=none∧d=zd∧Og=me es cs zd)):=by
  intro w0 M own σ w a hw hr LQ
  have t1:=jw hk
  obtain ⟨b,LF,clock,k⟩:=hw.mp id _ (by rw [LQ];rfl)
  have Nw:=hr m (by simp [ho,SQ])
  have Nj:=hr kx (by simp [ho,SQ])
  rw [hx] at Nj
  obtain ⟨x,ex,sx,fx⟩:=mN Nj hf
  rw [hm] at Nw
  generalize hva:a.eval m=va at Nw
  cases Nw with
  |cB hb=>
   rename_i b'
   rw [k.box] at hb
   obtain rfl:=SE hb
   obtain ⟨zi,zv,hzi,Px,rfl⟩:=fq hz
   have LX:(execOp a.eval o).run P w=((Instr.mapEntry ty (.map (some b)) (.agg x)).run P w).andThen fun v w'=> .ok (.value v) w':=by
    simp [execOp,ho,hva,ex]
   have Mm:=hK.find w x LF.toList fx (km k.fits.1)
   have Mz:=hK.check w false x fx
   rcases ko hK.wP sx fx 0 k.fits.1 with ⟨j,v0,d0,e0,k1,k2,k3,k4,k5,_⟩|⟨k1,k2,k3⟩
   ·rw [k3,Ti] at Mm
    have PY:LF[j]? =some e0:=by simpa using k4
    have MO:=hw.jB k clock (o':= .mf ks es) rfl k.fits
    refine ⟨d0,_,es,_,?_,pB (lH k2) k1.2,MO,.inl ⟨k1.1,rfl⟩⟩
    rw [LX,jO t1 k.cy Mz Mm PY k5 (mZ hK.wP fx) (k.fits.2.2 j e0 k4)]
    rfl
   ·rw [k2] at Mm
    have Qf:=kV (fj (M:=M) zv) OS
    have MO:=hw.jB k (clock+1) (ents':=LF.push ⟨.agg x,zv,clock⟩) (o':= .mf ks (me es cs (cK zv))) rfl ⟨by rw [Array.toList_push];exact k3 _ _ _ Qf,by rw [Array.toList_push];exact jz k.fits.2⟩
    refine ⟨cK zv,_,_,_,?_,pB (fj zv) (j':=clock) (by rw [k1.2,oD k.fits.1,← k.fits.2.1]),MO,.inr ⟨k1.1,rfl,rfl⟩⟩
    rw [LX,jP t1 k.cy Mz Mm hzi Px]
    rfl
 cases r with
 |none=>
  intro w0 M own σ w a i hw hr LQ next Q hn
  obtain ⟨d,v,Og,w',h1,h2,h3,⟨h4,_⟩|⟨_,rfl,rfl⟩⟩:=main hw hr LQ
  ·rw [hl] at h4;cases h4
  ·exact cT h1 (hn _ M own w' (.refl M) ⟨rfl,fun _ _=>rfl⟩ h3 h2)
 |some d=>
  intro w0 M own σ w a i hw hr LQ next Q hn
  obtain ⟨d',v,Og,w',h1,h2,h3,⟨h4,rfl⟩|⟨h4,_⟩⟩:=main hw hr LQ
  ·rw [hl] at h4
   obtain rfl:=SE h4
   exact cT h1 (hn _ M own w' (.refl M) ⟨rfl,fun _ _=>rfl⟩ h3 h2)
  ·rw [hl] at h4;cases h4
theorem oS {ty:TypeId} {m kn v:Operand} {id:Nat} {q0:T8} {jj:Int} {ob OV:Ob} (ho:o.op= .entryStore ty m kn v) (hm:ρ m= .cB id) (hx:ρ kn= .int q0 jj) (hv:hY (ρ v)=true) (h0:0≤jj)
  (Qq:(∃q es,ob= .mp q es∧OV= .mp q (xS es jj.toNat (ρ v))∧jj.toNat<es.length)∨(∃ks es,ob= .mf ks es∧OV= .mf ks (xS es jj.toNat (ρ v))∧jj.toNat<es.length)):eD P o ρ (.dW id ob OV .undef):=by
 intro w0 M own σ w a i hw hr LQ next Q hn
 have Nw:=hr m (by simp [ho,SQ])
 have Nj:=cC (hr kn (by simp [ho,SQ])) hx
 have Ps:=kV (hr v (by simp [ho,SQ])) hv
 rw [hm] at Nw
 obtain ⟨j,rfl⟩:∃j:Nat,jj=j:=⟨jj.toNat,by omega⟩
 have hσ:σ id=ob:=LQ
 have main:∃b LF clock,M.box id=some b∧w.heap[b]? =some (.map LF clock)∧jF LF.toList clock∧j<LF.size∧bw w0 M own (dW σ id OV) (bh w b (.map (LF.modify j fun e=> { e with val:=a.eval v }) clock)):=by
  rcases Qq with ⟨q,es,rfl,rfl,hj⟩|⟨ks,es,rfl,rfl,hj⟩
  ·obtain ⟨b,LF,clock,k⟩:=hw.mp id _ (by rw [hσ];rfl)
   have hl:=oC k.fits.1
   refine ⟨b,LF,clock,k.box,k.cy,k.fits.2,by simp at hl hj;omega,?_⟩
   exact hw.jB k clock (ents':=LF.modify j fun e=> { e with val:=a.eval v }) rfl ⟨by rw [TV];exact tf _ k.fits.1 Ps,by rw [TV];exact il (fun _=>rfl) k.fits.2⟩
  ·obtain ⟨b,LF,clock,k⟩:=hw.mp id _ (by rw [hσ];rfl)
   have hl:=oD k.fits.1
   refine ⟨b,LF,clock,k.box,k.cy,k.fits.2,by simp at hl hj;omega,?_⟩
   exact hw.jB k clock (ents':=LF.modify j fun e=> { e with val:=a.eval v }) rfl ⟨by rw [TV];exact tg _ k.fits.1 Ps,by rw [TV];exact il (fun _=>rfl) k.fits.2⟩
 obtain ⟨b,LF,clock,Oz,hblk,hborn,hj,MO⟩:=main
 generalize hva:a.eval m=va at Nw
 cases Nw with
 |cB hb=>
  rename_i b'
  rw [Oz] at hb
  obtain rfl:=SE hb
  refine jK (w':=bh w b (.map (LF.modify j fun e=> { e with val:=a.eval v }) clock)) ?_ (hn undef M own _ (.refl M) ⟨rfl,fun _ _=>rfl⟩ MO (.undef _))
  simp [execOp,ho,hva,Nj,qq hblk hborn hj]
end
section
variable {P:Program} {o:Oper} {ρ:Operand→D}
theorem sk (z:Array Value) (n i:Nat) (v:Value) (h:(madeCells z n)[i]? =some v) (hz:0<z.size):z[i%z.size]? =some v∧i<n:=by
 unfold madeCells at h
 rw [Array.getElem?_map,SU] at h
 obtain ⟨j,hj,rfl⟩:=h
 rw [Array.getElem?_eq_some_iff] at hj
 obtain ⟨h1,h2⟩:=hj
 rw [Array.getElem_range] at h2
 subst h2
 rw [Array.size_range] at h1
 have hm:=Nat.mod_lt i hz
 refine ⟨?_,h1⟩
 rw [getElem!_pos z (i%z.size) hm,Array.getElem?_eq_getElem hm]
theorem xa {zc:List D} (hz:0<zc.length):∀(n i:Nat) (d:D),(Sx n zc).flatten[i]? =some d→zc[i%zc.length]? =some d
 |0,i,d,h=>by simp at h
 |n+1,i,d,h=>by
  rw [List.replicate_succ,List.flatten_cons,Tx] at h
  split at h
  ·rename_i hi
   rw [Nat.mod_eq_of_lt hi];exact h
  ·rename_i hi
   have:=xa hz n _ d h
   rwa [← Nat.mod_eq_sub_mod (by omega)] at this
theorem D6 {zc:List D} (hz:0<zc.length) (n i:Nat) (d:D) (h:(wA n zc)[i]? =some d):zc[i%zc.length]? =some d:=by
 unfold wA at h
 split at h
 ·rename_i d0
  rw [T2] at h
  split at h
  ·simp only [SL] at h;subst h;simp [Nat.mod_one]
  ·cases h
 ·exact xa hz n i d h
theorem w9 (zc:List D):∀n:Nat,((Sx n zc).flatten).length=n*zc.length
 |0=>by simp
 |n+1=>by rw [List.replicate_succ,List.flatten_cons,SS,w9 zc n,Nat.succ_mul];omega
theorem D5 (zc:List D) (n:Nat):(wA n zc).length=n*zc.length:=by
 unfold wA
 split
 ·simp
 ·exact w9 zc n
theorem GG {ty e:TypeId} {l c:Operand} {q q':T8} {n:Int} {zd:D} {zc:List D} (ho:o.op= .makeSlice ty l c) (ht:P.underlying ty=some (.slice e)) (hk:known P e=true) (hz:gL P e=some zd) (Pv:zd.cells=some zc)
  (hlen:zc.length=P.cellsOf e) (Md:0<zc.length) (Q4:P.bytesOf e≤65536) (hl:ρ l= .int q n) (hc:ρ c= .int q' n) (h0:0≤n) (h1:n≤2147483648):
  eD P o ρ (.new (.box (wA n.toNat zc)) fun id=> .cS id (P.cellsOf e) n.toNat):=by
 intro w0 M own σ w a id hw hr LQ next Q hn
 obtain ⟨i,v,hi,hv,rfl⟩:=fq hz
 have r1:=cC (hr l (by simp [ho,SQ])) hl
 have r2:=cC (hr c (by simp [ho,SQ])) hc
 have hb:(i.bytes:Int)≤65536:=by
  have:P.bytesOf e=i.bytes:=by simp [Program.bytesOf,hi]
  omega
 have LR:P.cellsOf e=i.size:=by simp [Program.cellsOf,hi]
 have hmul:(i.bytes:Int)*n≤281474976710656:=by
  have:=Int.mul_le_mul hb h1 h0 (by omega:(0:Int)≤65536)
  omega
 have LV:=run_make (P:=P) w ty e i v ht hi hv q q' n n h0 (Int.le_refl _) hmul (by omega)
 have Qf:=(fj (M:=M) v).cells Pv
 have hvs:v.cells.size=i.size:=by rw [← Qf.1,hlen,LR]
 have LM:bS M (wA n.toNat zc) (madeCells v.cells (n.toNat*i.size)):=by
  refine ⟨by rw [D5,size_madeCells,hlen,LR],fun j d u p r=> ?_⟩
  obtain ⟨u1,_⟩:=sk _ _ _ _ r (by rw [hvs,← LR,← hlen];exact Md)
  have u2:=D6 Md _ _ _ p
  rw [← Qf.1] at u1
  exact Qf.2 _ d u u2 u1
 have k:=hw.qF LQ.1 LQ.2 e (Nat.le_of_eq LM.1) LM.2
 obtain ⟨b1,vs1,ty1,kb⟩:=k.box id (wA n.toNat zc) (aU _ _ _)
 have eb:b1=w.heap.size:=by have:=kb.box;simp only [MM.bc,if_true] at this;exact (SE this).symm
 have Pc:vs1.size=n.toNat*i.size:=by
  have h1:=kb.cy
  rw [eb] at h1
  have h2:(w.alloc (.cells (madeCells v.cells (n.toNat*i.size)) e)).heap[w.heap.size]? =some (.cells (madeCells v.cells (n.toNat*i.size)) e (0,0)):=by
   show (w.heap.push _)[w.heap.size]? =_
   simp
  rw [h2] at h1
  have h3:=SE h1
  simp only [Obj.cells.injEq] at h3
  rw [← h3.1,size_madeCells]
 have k2:=k.l3 (aU _ _ _) kb (sz:=P.cellsOf e) (len:=n.toNat) (cap:=n.toNat) (LQ.2 _) (by rw [Pc,LR];exact SP _)
 subst eb
 have NC:(M.bc id w.heap.size).Le ((M.bc id w.heap.size).aX id (P.cellsOf e) (.slice (some ⟨w.heap.size,0,none⟩) n.toNat n.toNat)):=MM.cY (LQ.2 _)
 refine cT (v:= .slice (some ⟨w.heap.size,0,none⟩) n.toNat n.toNat) (w':=w.alloc (.cells (madeCells v.cells (n.toNat*i.size)) e)) ?_ (hn _ _ _ _ ((MM.dw LQ.1).trans NC) ⟨fun j hj=>by simp [MM.bc,MM.aX,hj],fun j hj=>by funext q;simp [MM.aX,MM.bc,hj]⟩ k2 (.cS (b:=w.heap.size) (by simp [MM.bc,MM.aX]) (by simp [MM.aX]) (SP _)))
 simp only [execOp,ho,r1,r2,SZ,LV,SO,S9]
theorem oh {ty:TypeId} {x ix:Operand} {k:T8} {i:Int} {elem:TypeId} {id sz n:Nat} (ho:o.op= .indexAddr ty x ix) (hi:ρ ix= .int k i) (ht:P.underlying ty=some (.slice elem)) (hk:known P elem=true)
  (LR:P.cellsOf elem=sz) (hb:0≤i∧i<n) (hx:ρ x= .cS id sz n):eD P o ρ (.pure (.ptr true id (i.toNat*sz))):=by
 refine bH fun M w a _ hr=> ?_
 have h1:=hr x (by simp [ho,SQ])
 have h2:=cC (hr ix (by simp [ho,SQ])) hi
 rw [hx] at h1
 generalize hv:a.eval x=v at h1
 cases h1 with
 |cS N8 hhx LH=>
  refine ⟨_,?_,.ptr true N8⟩
  have:i<n:=hb.2
  simp [execOp,ho,Instr.indexAt,h2,asIntOf,run_underlying ht,hv,hb.1,this,cn hk,eM,LR]
theorem og {ty:TypeId} {x ix:Operand} {k:T8} {i:Int} {elem:TypeId} {id off sz n:Nat} {cp:Option Nat} (ho:o.op= .indexAddr ty x ix) (hi:ρ ix= .int k i) (ht:P.underlying ty=some (.slice elem)) (hk:known P elem=true)
  (LR:P.cellsOf elem=sz) (hb:0≤i∧i<n) (hx:ρ x= .sub id off sz n cp):eD P o ρ (.pure (.ptr true id (off+i.toNat*sz))):=by
 refine bH fun M w a _ hr=> ?_
 have h1:=hr x (by simp [ho,SQ])
 have h2:=cC (hr ix (by simp [ho,SQ])) hi
 rw [hx] at h1
 generalize hv:a.eval x=v at h1
 cases h1 with
 |sub N8 hc hp NU=>
  obtain rfl:=NU (by omega)
  refine ⟨_,?_,.ptr true N8⟩
  have:i<n:=hb.2
  simp [execOp,ho,Instr.indexAt,h2,asIntOf,run_underlying ht,hv,hb.1,this,cn hk,eM,LR]
end
theorem bk.Bj {M:MM} {o:jI} {sz:Nat} {xs:List D} {a:Option Addr} {len cap:Nat} (h:bk M (.aj o sz xs) (.slice a len cap)) (l hh m:Nat) (h1:l≤hh) (h2:hh≤len) (h3:hh≤m) (_h4:m≤cap) (o':jI)
  (Ow:o'= .no∨(o'= .tight∧m=hh)):bk M (.aj o' sz ((xs.take hh).drop l)) (.slice (if m=l then a else a.map (·.add (l*sz))) (hh - l) (m - l)):=by
 cases h with
 |aj b off vs hl LH ha LR hc hr LL ho=>
  have Nl:∀i x,((xs.take hh).drop l)[i]? =some x→xs[l+i]? =some x∧l+i<hh:=by
   intro i x hx
   rw [List.getElem?_drop,T1] at hx
   split at hx
   ·exact ⟨hx,by assumption⟩
   ·cases hx
  refine .aj b (off+l*sz) (fun i j=>vs (l+i) j) (by simp;omega) (by omega) ?_ ?_ ?_ ?_ ?_ ?_
  ·intro ME
   have LN:l<hh:=by
    rcases SY l hh with h|h
    ·exact h
    ·exact absurd (List.drop_eq_nil_of_le (by simp;omega)) ME
   have:xs≠ []:=fun e=>by subst e;simp at hl;omega
   rw [if_neg (by omega),ha this]
   simp [eM]
  ·intro i x hx;exact LR _ x (Nl i x hx).1
  ·intro i x cs j c hx LP hj
   have:=hc _ x cs j c (Nl i x hx).1 LP hj
   rw [TL] at this
   rw [show off+l*sz+i*sz+j=off+(l*sz+i*sz)+j by omega]
   exact this
  ·intro i x cs j c hx LP hj;exact hr _ x cs j c (Nl i x hx).1 LP hj
  ·intro i x cs c hx LP hj;exact LL _ x cs c (Nl i x hx).1 LP hj
  ·rcases Ow with rfl|⟨rfl,rfl⟩
   ·trivial
   ·rfl
section
variable {ρ':Type} {P:Program} {r:ρ'}
theorem bG {k:T8} {i:Int} {y:Nat} {code:BoundsCode} (h:0≤i∧i≤y) (w:World):(Instr.sliceBound (.int k i) y code).run P w= .ok i.toNat w:=by
 simp [Instr.sliceBound,asIntOf,h]
def zX:Option Int→Option Value→Prop
  |none,v=>v=none
  |some n,v=> ∃k,v=some (.int k n)
theorem xP {z:Z P} {o:jI} {sz:Nat} {xs:List D} {lo hi mx:Option Int} {K:Z P→D→Option ρ'} (h:xQ z o sz xs lo hi mx K=some r):
  ∃z' d,K z' d=some r∧(z'.c→z.c∧∀(M:MM) (w:World) (t e:TypeId) (u:Value) (lv hv mv:Option Value),P.underlying t=some (.slice e)→known P e=true→P.cellsOf e=sz→bk M (.aj o sz xs) u→
   zX lo lv→zX hi hv→zX mx mv→
   ∃v,(Instr.sliceAt t u lv hv mv).run P w= .ok v w∧bk M d v):=by
 have run:∀ {w:World} {t e:TypeId} {a:Option Addr} {len cap:Nat} {lv hv mv:Option Value} {l hh m:Nat},P.underlying t=some (.slice e)→known P e=true→P.cellsOf e=sz→
   (Te true len cap lv hv mv).run P w= .ok (l,hh,m) w→(Instr.sliceAt t (.slice a len cap) lv hv mv).run P w= .ok (.slice (if m=l then a else a.map (·.add (l*sz))) (hh - l) (m - l)) w:=by
  intro w t e a len cap lv hv mv l hh m ht hk hs hb
  simp only [Instr.sliceAt,SZ,run_underlying ht,SO,Instr.slice,hb,cn hk,hs,S9]
 unfold xQ at h
 split at h
 ·refine ⟨z,_,h,fun c=>⟨c,fun M w t e u lv hv mv ht hk hs hu e1 e2 e3=> ?_⟩⟩
  obtain rfl:=e1
  obtain rfl:=e2
  obtain rfl:=e3
  cases hu with
  |aj b off vs hl LH ha LR hc hr LL ho=>
   rename_i a len cap
   have hb:(Te true len cap none none none).run P w= .ok (0,len,cap) w:=by simp [Te]
   refine ⟨_,run ht hk hs hb,?_⟩
   have LM:bk M (.aj o sz xs) (.slice a len cap):= .aj b off vs hl LH ha LR hc hr LL ho
   have hd:(o.aR= .no∨(o.aR= .tight∧cap=len)):=by
    cases o<;>first|exact .inl rfl|exact .inr ⟨rfl,ho⟩
   have:=LM.Bj 0 len cap (by omega) (SP _) LH (SP _) o.aR hd
   rw [TT (by omega),Tw] at this
   exact this
 ·rename_i l
  obtain ⟨z',h1,h2⟩:=cZ h
  refine ⟨z',_,h1,fun c=>⟨(h2 c).1,fun M w t e u lv hv mv ht hk hs hu e1 e2 e3=> ?_⟩⟩
  obtain ⟨k1,rfl⟩:=e1
  obtain rfl:=e2
  obtain rfl:=e3
  have Qp:0≤l∧l≤xs.length:=by simpa using (h2 c).2
  cases hu with
  |aj b off vs hl LH ha LR hc hr LL ho=>
   rename_i a len cap
   have hb:(Te true len cap (some (.int k1 l)) none none).run P w= .ok (l.toNat,len,cap) w:=by
    simp [Te,bG (show 0≤l∧l≤(len:Int) by omega)]
   refine ⟨_,run ht hk hs hb,?_⟩
   have LM:bk M (.aj o sz xs) (.slice a len cap):= .aj b off vs hl LH ha LR hc hr LL ho
   have hd:(o.aR= .no∨(o.aR= .tight∧cap=len)):=by
    cases o<;>first|exact .inl rfl|exact .inr ⟨rfl,ho⟩
   have:=LM.Bj l.toNat len cap (by omega) (SP _) LH (SP _) o.aR hd
   rw [TT (by omega)] at this
   exact this
 ·rename_i hh
  obtain ⟨z',h1,h2⟩:=cZ h
  refine ⟨z',_,h1,fun c=>⟨(h2 c).1,fun M w t e u lv hv mv ht hk hs hu e1 e2 e3=> ?_⟩⟩
  obtain ⟨k1,rfl⟩:=e2
  obtain rfl:=e1
  obtain rfl:=e3
  have Qp:0≤hh∧hh≤xs.length:=by simpa using (h2 c).2
  cases hu with
  |aj b off vs hl LH ha LR hc hr LL ho=>
   rename_i a len cap
   have hb:(Te true len cap none (some (.int k1 hh)) none).run P w= .ok (0,hh.toNat,cap) w:=by
    simp [Te,bG (show 0≤hh∧hh≤(cap:Int) by omega)]
   refine ⟨_,run ht hk hs hb,?_⟩
   have LM:bk M (.aj o sz xs) (.slice a len cap):= .aj b off vs hl LH ha LR hc hr LL ho
   have:=LM.Bj 0 hh.toNat cap (by omega) (by omega) (by omega) (SP _) .no (.inl rfl)
   rw [Tw] at this
   exact this
 ·rename_i l hh
  obtain ⟨z',h1,h2⟩:=cZ h
  refine ⟨z',_,h1,fun c=>⟨(h2 c).1,fun M w t e u lv hv mv ht hk hs hu e1 e2 e3=> ?_⟩⟩
  obtain ⟨k1,rfl⟩:=e1
  obtain ⟨k2,rfl⟩:=e2
  obtain rfl:=e3
  have Qp:0≤l∧l≤hh∧hh≤xs.length:=by simpa using (h2 c).2
  cases hu with
  |aj b off vs hl LH ha LR hc hr LL ho=>
   rename_i a len cap
   have hb:(Te true len cap (some (.int k1 l)) (some (.int k2 hh)) none).run P w= .ok (l.toNat,hh.toNat,cap) w:=by
    simp [Te,bG (show 0≤hh∧hh≤(cap:Int) by omega),bG (show 0≤l∧l≤(hh.toNat:Int) by omega)]
   refine ⟨_,run ht hk hs hb,?_⟩
   have LM:bk M (.aj o sz xs) (.slice a len cap):= .aj b off vs hl LH ha LR hc hr LL ho
   exact LM.Bj l.toNat hh.toNat cap (by omega) (by omega) (by omega) (SP _) .no (.inl rfl)
 ·rename_i hh m
  obtain ⟨z',h1,h2⟩:=cZ h
  refine ⟨z',_,h1,fun c=>⟨(h2 c).1,fun M w t e u lv hv mv ht hk hs hu e1 e2 e3=> ?_⟩⟩
  obtain ⟨k1,rfl⟩:=e2
  obtain ⟨k2,rfl⟩:=e3
  obtain rfl:=e1
  have Qp:0≤hh∧hh≤xs.length∧m=hh:=by simpa using (h2 c).2
  obtain ⟨Nq,Oa,rfl⟩:=Qp
  cases hu with
  |aj b off vs hl LH ha LR hc hr LL ho=>
   rename_i a len cap
   have hb:(Te true len cap none (some (.int k1 m)) (some (.int k2 m))).run P w= .ok (0,m.toNat,m.toNat) w:=by
    simp [Te,bG (show 0≤m∧m≤(cap:Int) by omega),bG (show 0≤m∧m≤(m.toNat:Int) by omega)]
   refine ⟨_,run ht hk hs hb,?_⟩
   have LM:bk M (.aj o sz xs) (.slice a len cap):= .aj b off vs hl LH ha LR hc hr LL ho
   have:=LM.Bj 0 m.toNat m.toNat (by omega) (by omega) (by omega) (by omega) .tight (.inr ⟨rfl,rfl⟩)
   rw [Tw] at this
   exact this
 ·rename_i l hh m
  obtain ⟨z',h1,h2⟩:=cZ h
  refine ⟨z',_,h1,fun c=>⟨(h2 c).1,fun M w t e u lv hv mv ht hk hs hu e1 e2 e3=> ?_⟩⟩
  obtain ⟨k1,rfl⟩:=e1
  obtain ⟨k2,rfl⟩:=e2
  obtain ⟨k3,rfl⟩:=e3
  have Qp:0≤l∧l≤hh∧hh≤xs.length∧m=hh:=by simpa using (h2 c).2
  obtain ⟨Nq,Oa,Om,rfl⟩:=Qp
  cases hu with
  |aj b off vs hl LH ha LR hc hr LL ho=>
   rename_i a len cap
   have hb:(Te true len cap (some (.int k1 l)) (some (.int k2 m)) (some (.int k3 m))).run P w= .ok (l.toNat,m.toNat,m.toNat) w:=by
    simp [Te,bG (show 0≤m∧m≤(cap:Int) by omega),bG (show 0≤m∧m≤(m.toNat:Int) by omega),bG (show 0≤l∧l≤(m.toNat:Int) by omega)]
   refine ⟨_,run ht hk hs hb,?_⟩
   have LM:bk M (.aj o sz xs) (.slice a len cap):= .aj b off vs hl LH ha LR hc hr LL ho
   exact LM.Bj l.toNat m.toNat m.toNat (by omega) (by omega) (by omega) (by omega) .tight (.inr ⟨rfl,rfl⟩)
 ·cases h
theorem qe {z:Z P} {id off sz n:Nat} {cp:Option Nat} {lo hi mx:Option Int} {K:Z P→D→Option ρ'} (h:DM z id off sz n cp lo hi mx K=some r):
  ∃(z':Z P) (l hh:Nat) (PU:Option Nat),K z' (.sub id (off+l*sz) sz (hh - l) PU)=some r∧(z'.c→z.c∧l≤hh∧hh≤n∧∀(q:Bool) (w:World) (c:Nat) (lv hv mv:Option Value),n≤c→(∀k,cp=some k→c=k)→zX lo lv→zX hi hv→zX mx mv→
   ∃m,hh≤m∧(∀k,PU=some k→m - l=k)∧(Te q n c lv hv mv).run P w= .ok (l,hh,m) w):=by
 unfold DM at h
 split at h
 ·refine ⟨z,0,n,cp,by simpa using h,fun c=>⟨c,Nat.zero_le _,SP _,fun q w c lv hv mv hc hp e1 e2 e3=> ?_⟩⟩
  obtain rfl:=e1
  obtain rfl:=e2
  obtain rfl:=e3
  exact ⟨c,hc,fun k hk=>by rw [hp k hk];rfl,by simp [Te]⟩
 ·rename_i l
  obtain ⟨z',h1,h2⟩:=cZ h
  refine ⟨z',l.toNat,n,cp.map (· - l.toNat),h1,fun c=> ?_⟩
  have hb:0≤l∧l≤(n:Int):=by simpa using (h2 c).2
  refine ⟨(h2 c).1,by omega,SP _,fun q w c lv hv mv hc hp e1 e2 e3=> ?_⟩
  obtain ⟨k1,rfl⟩:=e1
  obtain rfl:=e2
  obtain rfl:=e3
  refine ⟨c,hc,fun k hk=> ?_,by simp [Te,bG hb]⟩
  cases cp with
  |none=>cases hk
  |some v=>rw [hp v rfl];simpa using hk
 ·rename_i hh
  obtain ⟨z',h1,h2⟩:=cZ h
  refine ⟨z',0,hh.toNat,cp,by simpa using h1,fun c=> ?_⟩
  have hb:0≤hh∧hh≤(n:Int):=by simpa using (h2 c).2
  refine ⟨(h2 c).1,Nat.zero_le _,by omega,fun q w c lv hv mv hc hp e1 e2 e3=> ?_⟩
  obtain ⟨k1,rfl⟩:=e2
  obtain rfl:=e1
  obtain rfl:=e3
  exact ⟨c,by omega,fun k hk=>by rw [hp k hk];rfl,by simp [Te,bG (show 0≤hh∧hh≤(c:Int) by omega)]⟩
 ·rename_i l hh
  obtain ⟨z',h1,h2⟩:=cZ h
  refine ⟨z',l.toNat,hh.toNat,cp.map (· - l.toNat),h1,fun c=> ?_⟩
  have hb:0≤l∧l≤hh∧hh≤(n:Int):=by simpa using (h2 c).2
  refine ⟨(h2 c).1,by omega,by omega,fun q w c lv hv mv hc hp e1 e2 e3=> ?_⟩
  obtain ⟨k1,rfl⟩:=e1
  obtain ⟨k2,rfl⟩:=e2
  obtain rfl:=e3
  refine ⟨c,by omega,fun k hk=> ?_,by simp [Te,bG (show 0≤hh∧hh≤(c:Int) by omega),bG (show 0≤l∧l≤(hh.toNat:Int) by omega)]⟩
  cases cp with
  |none=>cases hk
  |some v=>rw [hp v rfl];simpa using hk
 ·rename_i hh m
  obtain ⟨z',h1,h2⟩:=cZ h
  refine ⟨z',0,hh.toNat,some m.toNat,by simpa using h1,fun c=> ?_⟩
  have hb:0≤hh∧hh≤m∧m≤(n:Int):=by simpa using (h2 c).2
  refine ⟨(h2 c).1,Nat.zero_le _,by omega,fun q w c lv hv mv hc hp e1 e2 e3=> ?_⟩
  obtain ⟨k1,rfl⟩:=e2
  obtain ⟨k2,rfl⟩:=e3
  obtain rfl:=e1
  exact ⟨m.toNat,by omega,fun k hk=>by simpa using hk,by simp [Te,bG (show 0≤m∧m≤(c:Int) by omega),bG (show 0≤hh∧hh≤(m.toNat:Int) by omega)]⟩
 ·rename_i l hh m
  obtain ⟨z',h1,h2⟩:=cZ h
  refine ⟨z',l.toNat,hh.toNat,some (m.toNat - l.toNat),h1,fun c=> ?_⟩
  have hb:0≤l∧l≤hh∧hh≤m∧m≤(n:Int):=by simpa using (h2 c).2
  refine ⟨(h2 c).1,by omega,by omega,fun q w c lv hv mv hc hp e1 e2 e3=> ?_⟩
  obtain ⟨k1,rfl⟩:=e1
  obtain ⟨k2,rfl⟩:=e2
  obtain ⟨k3,rfl⟩:=e3
  exact ⟨m.toNat,by omega,fun k hk=>by simpa using hk,by simp [Te,bG (show 0≤m∧m≤(c:Int) by omega),bG (show 0≤hh∧hh≤(m.toNat:Int) by omega),bG (show 0≤l∧l≤(hh.toNat:Int) by omega)]⟩
 ·cases h
theorem qs {M:MM} {id off o2 sz n b l hh m:Nat} {PU:Option Nat} (hb:M.box id=some b) (NU:n≠0→o2=off) (h1:l≤hh) (h2:hh≤n) (h3:hh≤m) (hp:∀k,PU=some k→m - l=k):
  bk M (.sub id (off+l*sz) sz (hh - l) PU) (.slice (if m=l then some ⟨b,o2,none⟩ else some ((⟨b,o2,none⟩:Addr).add (l*sz))) (hh - l) (m - l)):=by
 split
 ·exact .sub hb (by omega) hp (fun hn=>by omega)
 ·rw [eM]
  exact .sub hb (by omega) hp (fun hn=>by rw [NU (by omega)])
theorem kC {w:World} {t e:TypeId} {a:Addr} {len cap sz:Nat} {lv hv mv:Option Value} {l hh m:Nat} (ht:P.underlying t=some (.slice e)) (hk:known P e=true) (hs:P.cellsOf e=sz) (hb:(Te true len cap lv hv mv).run P w= .ok (l,hh,m) w):
  (Instr.sliceAt t (.slice (some a) len cap) lv hv mv).run P w= .ok (.slice (if m=l then some a else some (a.add (l*sz))) (hh - l) (m - l)) w:=by
 simp only [Instr.sliceAt,SZ,run_underlying ht,SO,Instr.slice,hb,cn hk,hs,S9,TY]
theorem pg {w:World} {t e:TypeId} {a:Addr} {n sz:Nat} {lv hv mv:Option Value} {l hh m:Nat} (ht:P.underlying t=some (.array n e)) (hk:known P e=true) (hs:P.cellsOf e=sz) (hb:(Te false n n lv hv mv).run P w= .ok (l,hh,m) w):
  (Instr.sliceAt t (.pointer (some a)) lv hv mv).run P w= .ok (.slice (if m=l then some a else some (a.add (l*sz))) (hh - l) (m - l)) w:=by
 simp only [Instr.sliceAt,SZ,run_underlying ht,SO,Instr.sureAddr,hb,cn hk,hs,S9]
 split<;>rfl
theorem G1 {x:D} {K:Int→Option ρ'} (h:idx x K=some r):∃k n,x= .int k n∧K n=some r:=by
 unfold idx at h
 split at h
 ·exact ⟨_,_,rfl,h⟩
 ·cases h
theorem dU {t:List D} {o:Option Operand} {K:Option Int→Option ρ'} (h:gR t o K=some r):∃n,K n=some r∧∀(M:MM) (a:Act),(∀x,o=some x→bk M (bR t x) (a.eval x))→zX n (o.map a.eval):=by
 unfold gR at h
 split at h
 ·exact ⟨none,h,fun M a _=>rfl⟩
 ·obtain ⟨k,n,hx,hK⟩:=G1 h
  refine ⟨some n,hK,fun M a hr=>⟨k,?_⟩⟩
  have:=cC (hr _ rfl) hx
  simp [this]
theorem ea {o:Oper} {ρv:Operand→Value} {c:Call} {b:Builtin} (ho:o.op= .call c) (hc:c.callee= .builtin b) (w:World):
  (execOp ρv o).run P w=(builtin b c.argTypes o.type (c.args.map fun| .const _=>true|_=>false) (c.args.map ρv)).run P w:=by
 simp only [execOp,ho,resolve,hc,SZ,S9,SO,invoke]
 rfl
theorem Fe {t:TypeId} {x:D} {K:D→Option ρ'} (h:ID P t x K=some r):∃d,K d=some r∧∀(M:MM) (w:World) (u:Value) (ts:Array TypeId) (ty:TypeId) (vs:Array Value),bk M x u→ts[0]? =some t→vs[0]? =some u→∃v,(Builtin.len_ ts ty vs).run P w= .ok v w∧bk M d v:=by
 unfold ID at h
 split at h
 ·rename_i ht
  refine ⟨_,h,fun M w u ts ty vs hu h1 h2=> ?_⟩
  cases hu
  exact ⟨.int .i64 _,by simp [Builtin.len_,h1,h2,run_underlying ht,goInt],.int _ _⟩
 ·rename_i ht
  refine ⟨_,h,fun M w u ts ty vs hu h1 h2=> ?_⟩
  exact ⟨.int .i64 _,by simp [Builtin.len_,h1,h2,run_underlying ht,goInt],.int _ _⟩
 ·rename_i ht
  refine ⟨_,h,fun M w u ts ty vs hu h1 h2=> ?_⟩
  cases hu with
  |aj b off vs' hl LH ha LR hc hr LL ho=>exact ⟨.int .i64 _,by simp [Builtin.len_,h1,h2,run_underlying ht,goInt];omega,.int _ _⟩
 ·rename_i ht
  refine ⟨_,h,fun M w u ts ty vs hu h1 h2=> ?_⟩
  cases hu with
  |cS hb hh hc=>exact ⟨.int .i64 _,by simp [Builtin.len_,h1,h2,run_underlying ht,goInt],.int _ _⟩
 ·rename_i ht
  refine ⟨_,h,fun M w u ts ty vs hu h1 h2=> ?_⟩
  cases hu with
  |sub hb hc hp NU=>exact ⟨.int .i64 _,by simp [Builtin.len_,h1,h2,run_underlying ht,goInt],.int _ _⟩
 ·cases h
theorem EW {x y:D} {K:D→Option ρ'} (h:Iq x y K=some r):∃d,K d=some r∧∀(M:MM) (w:World) (u v:Value) (ts:Array TypeId) (ty:TypeId) (vs:Array Value),bk M x u→bk M y v→vs.toList= [u,v]→∃q,(Builtin.min_ ts ty vs).run P w= .ok q w∧bk M d q:=by
 unfold Iq at h
 split at h
 ·refine ⟨_,h,fun M w u v ts ty vs hu hv h1=> ?_⟩
  cases hu;cases hv
  exact ⟨_,by simp only [Builtin.min_,h1,List.foldlM_cons,List.foldlM_nil,Builtin.min2,pure_bind];rfl,.int _ _⟩
 ·cases h
theorem EZ {x y:D} {K:D→Option ρ'} (h:Iv x y K=some r):∃d,K d=some r∧∀(M:MM) (w:World) (u v:Value) (ts:Array TypeId) (ty:TypeId) (vs:Array Value),bk M x u→bk M y v→vs.toList= [u,v]→∃q,(Builtin.max_ ts ty vs).run P w= .ok q w∧bk M d q:=by
 unfold Iv at h
 split at h
 ·refine ⟨_,h,fun M w u v ts ty vs hu hv h1=> ?_⟩
  cases hu;cases hv
  exact ⟨_,by simp only [Builtin.max_,h1,List.foldlM_cons,List.foldlM_nil,Builtin.max2,pure_bind];rfl,.int _ _⟩
 ·cases h
end
structure gI (M:MM) (sz:Nat) (xs:List D) (arr:Array Value):Prop where
  len:xs.length*sz≤arr.size
  elem:∀(i:Nat) (x:D),xs[i]? =some x→∃cs,x.cells=some cs∧cs.length=sz
  get:∀(i:Nat) (x:D) (cs:List D) (j:Nat) (c:D),xs[i]? =some x→x.cells=some cs→cs[j]? =some c→∃v,arr[i*sz+j]? =some v∧bk M.bare c v
  st:∀(i:Nat) (x:D) (cs:List D) (c:D),xs[i]? =some x→x.cells=some cs→c∈cs→storable c=true
theorem gI.mono {M M':MM} {sz:Nat} {xs:List D} {arr:Array Value} (h:gI M sz xs arr) (le:M.Le M'):gI M' sz xs arr:=
 ⟨h.len,h.elem,fun i x cs j c h1 h2 h3=>let ⟨v,a,b⟩:=h.get i x cs j c h1 h2 h3;⟨v,a,b.mono le.bare⟩,h.st⟩
def MM.lay (M:MM) (b:Nat) (arr:Array Value) (n:Nat):MM:=M.bK b fun o=>if o<n then arr[o]? else none
theorem pL {M:MM} {w wd:World} {arr:Array Value} {ty:TypeId} {n:Nat} (hw:∀b o v,M.cell b o=some v→w.cell? ⟨b,o,none⟩=some v) (hd:wd.heap=w.heap) (hb:Below w.heap.size w wd) (fz:Nat×Nat):
  Ext M w (M.lay w.heap.size arr n) (wd.alloc (.cells arr ty fz)):=by
 have LR:wd.heap.size=w.heap.size:=by rw [hd]
 refine ⟨hb.alloc (by omega) _,?_,?_,?_⟩
 ·intro b o v h
  have:b≠w.heap.size:=fun e=>by rw [e,dy hw (SP _) o] at h;cases h
  simp only [MM.lay,MM.bK,this,if_false];exact h
 ·intro b o v h LN
  simp only [MM.lay,MM.bK,show b≠w.heap.size by omega,if_false] at h;exact h
 ·intro b o v h
  by_cases e:b=w.heap.size
  ·subst e
   simp only [MM.lay,MM.bK,if_true] at h
   split at h
   ·have hh:(wd.alloc (.cells arr ty fz)).heap[w.heap.size]? =some (.cells arr ty fz):=by
     show (wd.heap.push _)[w.heap.size]? =_
     rw [← LR];simp
    simp only [TK,hh]
    exact h
   ·cases h
  ·simp only [MM.lay,MM.bK,e,if_false] at h
   have h1:=hw b o v h
   have LN:b<w.heap.size:=World.block_lt_of_cell? w _ h1
   rw [World.cell?_alloc_lt _ _ _ (by simpa [LR] using LN)]
   simpa [TK,hd] using h1
theorem pz {M:MM} {b:Nat} {arr:Array Value} {sz:Nat} {xs:List D} {o:jI} {cap n:Nat} (h:gI M sz xs arr) (hM:∀o,M.cell b o=none) (LH:xs.length≤cap) (hn:xs.length*sz≤n) (ho:(M.lay b arr n).od o (some ⟨b,0,none⟩) xs.length cap):
  bk (M.lay b arr n) (.aj o sz xs) (.slice (some ⟨b,0,none⟩) xs.length cap):=by
 have le:M.Le (M.lay b arr n):=by
  refine ⟨fun c o v k=> ?_,fun _ _ k=>k,fun _ _ _ k=>k,fun _ k=>k⟩
  have:c≠b:=fun e=>by rw [e,hM o] at k;cases k
  simp only [MM.lay,MM.bK,this,if_false];exact k
 have LN:∀ {i j:Nat} {x:D} {cs:List D} {c:D},xs[i]? =some x→x.cells=some cs→cs[j]? =some c→i*sz+j<xs.length*sz:=by
  intro i j x cs c h1 h2 h3
  obtain ⟨My,e1,e2⟩:=h.elem i x h1
  rw [h2] at e1
  obtain rfl:=SE e1
  have hj:j<sz:=by
   rcases SY j cs.length with q|q
   ·omega
   ·simp [SN q] at h3
  have hi:i<xs.length:=by
   rcases SY i xs.length with q|q
   ·exact q
   ·simp [SN q] at h1
  have:(i+1)*sz≤xs.length*sz:=TD _ hi
  rw [TL] at this
  omega
 refine .aj b 0 (fun i j=>(arr[i*sz+j]?).getD .nilFunc) rfl LH (fun _=>rfl) h.elem ?_ ?_ h.st ho
 ·intro i x cs j c h1 h2 h3
  obtain ⟨v,hv,_⟩:=h.get i x cs j c h1 h2 h3
  have:=LN h1 h2 h3
  simp only [MM.lay,MM.bK,if_true,Ti,hv,Ty]
  rw [if_pos (by omega)]
 ·intro i x cs j c h1 h2 h3
  obtain ⟨v,hv,hr⟩:=h.get i x cs j c h1 h2 h3
  simp only [hv,Ty]
  exact hr.mono le.bare
theorem qA {ρ':Type} {r:ρ'} {x:D} {k:D→Option ρ'} (h:uK x k=some r):∃y,k y=some r∧(∀(M:MM) (v:Value),bk M x v→bk M.bare y v)∧y.plain=true:=by
 unfold uK at h
 split at h
 ·rename_i hp
  exact ⟨x,h,fun M v hr=>hr.GS hp,hp⟩
 ·obtain ⟨hc,hk⟩:=bg h
  exact ⟨_,hk,fun M v hr=>hr.nT hc,nC hc⟩
theorem yc {ρ':Type} {r:ρ'} {x:D} {k:D→Option ρ'} (h:yd x k=some r):∃y,k y=some r∧∀(M:MM) (v:Value),bk M x v→bk M.bare y v:=by
 unfold yd at h
 split at h
 ·rename_i q id off
  refine ⟨_,h,fun M v hr=> ?_⟩
  cases hr with
  |ptr _ hb=>
   rename_i b
   have:=bk.dG (M:=M.bare) false (x:= .agg []) (cs:= []) (off:=off) (b:=b) (base:=0) (fun _=> .nilFunc) rfl (fun j c hj=>by simp at hj) (fun j c hj=>by simp at hj)
   rw [Ti] at this
   exact this
 ·refine ⟨_,h,fun M v hr=> ?_⟩
  cases hr with
  |dG _ vs hx hc hr=>exact .dG _ vs hx hc hr
 ·obtain ⟨y,hy,hr,_⟩:=qA h
  exact ⟨y,hy,hr⟩
theorem oP {ρ':Type} {r:ρ'} :∀ {l:List D} {k:List D→Option ρ'},pD l k=some r→∃l',k l'=some r∧∀(M:MM) (vs:Array Value),bS M l vs→bS M.bare l' vs
 | [],k,h=>⟨[],h,fun M vs hr=>⟨hr.1,fun i d v a=>by simp at a⟩⟩
 |x::l,k,h=>by
  unfold pD at h
  obtain ⟨y,hy,hr⟩:=yc h
  obtain ⟨l',hk,hl⟩:=oP hy
  refine ⟨y::l',hk,fun M vs hv=> ?_⟩
  have hs:vs.size=l.length+1:=by have:=hv.1;simp at this;omega
  have Q0:bS M l (vs.extract 1 vs.size):=by
   refine ⟨by simp;omega,fun i d v a b=> ?_⟩
   rw [Array.getElem?_extract] at b
   split at b
   ·exact hv.2 (i+1) d v (by simpa using a) (by rw [Nat.add_comm];exact b)
   ·cases b
  have h2:=hl M _ Q0
  refine ⟨by have:=h2.1;simp at this ⊢;omega,fun i d v a b=> ?_⟩
  cases i with
  |zero=>simp at a;subst a;exact hr M v (hv.2 0 x v rfl b)
  |succ i=>
   refine h2.2 i d v (by simpa using a) ?_
   rw [Array.getElem?_extract]
   have:i+1<vs.size:=by
    rcases SY (i+1) vs.size with q|q
    ·exact q
    ·simp [Tk q] at b
   rw [if_pos (by omega),Nat.add_comm]
   exact b
theorem nX {sz i j n:Nat} (hi:i<n) (hj:j<sz):i*sz+j<n*sz:=by
 have:(i+1)*sz≤n*sz:=TD _ hi
 rw [TL] at this
 omega
theorem HT {sz i i' j j':Nat} (hj:j<sz) (Qr:j'<sz) (h:i≠i'):i*sz+j≠i'*sz+j':=by
 intro e
 rcases Nat.lt_or_gt_of_ne h with q|q
 ·have:=nX q hj;omega
 ·have:=nX q Qr;omega
theorem pA {n i:Nat} {a x:D} (h:(Sx n a)[i]? =some x):i<n∧a=x:=by
 rw [T2] at h
 split at h
 ·exact ⟨by assumption,SE h⟩
 ·cases h
section
variable {ρ':Type} {P:Program} {r:ρ'}
theorem mY {size:Nat} :∀ {parts:List (Nat×D)} {xs:List D} {k:List D→Option ρ'},kR size xs parts k=some r→
  ∃xs',k xs'=some r∧xs'.length=xs.length∧∀(M:MM) (MN:List (Nat×Value)) (arr:Array Value),Hw M parts MN→gI M size xs arr→
   ∃arr',Instr.fill (fun i=>some (i*size,size)) arr MN=some arr'∧gI M size xs' arr'∧arr'.size=arr.size
 | [],xs,k,h=>⟨xs,h,rfl,fun M MN arr hp hr=>by
   cases MN with
   |nil=>exact ⟨arr,rfl,hr,rfl⟩
   |cons _ _=>exact hp.elim⟩
 |(i,d)::rest,xs,k,h=>by
  unfold kR at h
  obtain ⟨y,hy,LM,_⟩:=qA h
  split at hy
  ·rename_i vc PD
   obtain ⟨h1,h2⟩:=bg hy
   rw [SG,SG,S8,Td] at h1
   obtain ⟨⟨LR,LN⟩,LL⟩:=h1
   have LN:i<xs.length:=Nat.lt_of_succ_le (by simpa [T6,TF] using LN)
   obtain ⟨xs',hk,hl,Ni⟩:=mY h2
   refine ⟨xs',hk,by simpa using hl,fun M MN arr hp hr=> ?_⟩
   cases MN with
   |nil=>exact hp.elim
   |cons p s=>
    obtain ⟨j,u⟩:=p
    obtain ⟨rfl,hd,hp⟩:=hp
    have LO:=(LM M u hd).cells PD
    have RX:u.cells.size=size:=by rw [← LO.1];exact LR
    have hbound:i*size+size≤xs.length*size:=by
     have:(i+1)*size≤xs.length*size:=TD _ LN
     rwa [TL,Nat.one_mul] at this
    have Ml:i*size+u.cells.toList.length≤arr.size:=by rw [Tl,RX];exact Nat.le_trans hbound hr.len
    have NQ:gI M size (xs.set i y) (cU arr (i*size) u.cells.toList):=by
     refine ⟨by rw [dc,Tj];exact hr.len,?_,?_,?_⟩
     ·intro k x hx
      by_cases e:i=k
      ·subst e
       rw [List.getElem?_set_self (by simpa using LN)] at hx
       obtain rfl:=SE hx
       exact ⟨vc,PD,LR⟩
      ·rw [TP e] at hx
       exact hr.elem k x hx
     ·intro k x cs j c hx LP hj
      rw [fe _ _ _ _ Ml]
      rw [Tl,RX]
      by_cases e:i=k
      ·subst e
       rw [List.getElem?_set_self (by simpa using LN)] at hx
       obtain rfl:=SE hx
       rw [PD] at LP
       obtain rfl:=SE LP
       obtain ⟨v,hv,Qz⟩:=LO.get hj
       have N2:j<size:=by
        rcases SY j vc.length with q|q
        ·omega
        ·simp [SN q] at hj
       rw [if_pos ⟨by omega,by omega⟩,show i*size+j - i*size=j by omega]
       exact ⟨v,by simpa using hv,Qz⟩
      ·rw [TP e] at hx
       obtain ⟨My,q1,q2⟩:=hr.elem k x hx
       rw [LP] at q1
       obtain rfl:=SE q1
       have N2:j<size:=by
        rcases SY j cs.length with q|q
        ·omega
        ·simp [SN q] at hj
       rw [if_neg]
       ·exact hr.get k x cs j c hx LP hj
       ·intro hh
        obtain ⟨m,hm⟩:∃m,k*size+j=i*size+m:=⟨k*size+j - i*size,by omega⟩
        exact HT N2 (show m<size by omega) (Ne.symm e) hm
     ·intro k x cs c hx LP hc
      by_cases e:i=k
      ·subst e
       rw [List.getElem?_set_self (by simpa using LN)] at hx
       obtain rfl:=SE hx
       rw [PD] at LP
       obtain rfl:=SE LP
       exact LL c hc
      ·rw [TP e] at hx
       exact hr.st k x cs c hx LP hc
    obtain ⟨arr',f1,f2,f3⟩:=Ni M s _ hp NQ
    refine ⟨arr',?_,f2,by rw [f3,dc]⟩
    have e2:¬(i*size+size>arr.size):=by have:=hr.len;omega
    rw [Instr.fill]
    simp only [RX,ne_eq,not_true_eq_false,decide_false,Bool.false_or,e2,Tq,if_false,re]
    exact f1
  ·cases hy
end
section
variable {P:Program} {o:Oper} {ρ:Operand→D}
theorem zZ {M:MM} {d:D} {zc:List D} {v:Value} (hc:d.cells=some zc) (hd:bk M.bare d v) (LL:∀c∈zc,storable c=true) (len:Nat):
  gI M zc.length (Sx len d) ((Array.range (len*zc.length)).map (v.cells[· %v.cells.size]!)):=by
 have LO:=hd.cells hc
 refine ⟨by simp,?_,?_,?_⟩
 ·intro i x hx
  obtain ⟨_,rfl⟩:=pA hx
  exact ⟨zc,hc,rfl⟩
 ·intro i x cs j c hx LP hj
  obtain ⟨hi,rfl⟩:=pA hx
  rw [hc] at LP
  obtain rfl:=SE LP
  obtain ⟨u,hu,hru⟩:=LO.get hj
  have N2:j<zc.length:=by
   rcases SY j zc.length with q|q
   ·exact q
   ·simp [SN q] at hj
  refine ⟨u,?_,hru⟩
  have:=nX hi N2
  simp only [Array.getElem?_map,Array.getElem?_range,this,if_true,TY,SL]
  rw [← LO.1,Nat.add_comm,Nat.add_mul_mod_self_right,Nat.mod_eq_of_lt N2]
  have Si:j<v.cells.size:=by rw [← LO.1];exact N2
  rw [getElem!_pos v.cells j Si]
  rw [getElem?_pos v.cells j Si] at hu
  exact SE hu
 ·intro i x cs c hx LP L7
  obtain ⟨_,rfl⟩:=pA hx
  rw [hc] at LP
  obtain rfl:=SE LP
  exact LL c L7
theorem si {ρ':Type} {r:ρ'} {ty:TypeId} {len:Nat} {parts:Array (Nat×Operand)} {e:TypeId} {d:D} {zc:List D} {k:List D→Option ρ'} (ho:o.op= .buildSlice ty len parts) (ht:P.underlying ty=some (.slice e)) (hz:gL P e=some d) (hc:d.cells=some zc)
  (hk:known P e=true) (LR:zc.length=P.cellsOf e) (NX:len*P.cellsOf e≤16777216) (LL:∀c∈zc,storable c=true)
  (h:kR (P.cellsOf e) (Sx len d) (parts.toList.map fun p=>(p.1,ρ p.2)) k=some r):
  ∃xs,k xs=some r∧eD P o ρ (.pure (.aj .tight (P.cellsOf e) xs)):=by
 obtain ⟨xs,h1,h2,h3⟩:=mY h
 refine ⟨xs,h1,wG fun M w a hw hr=> ?_⟩
 have N6:=wx (M:=M) (ρ:=ρ) (a:=a) parts.toList (fun p hp=>hr p.2 (by
  simp only [ho,SQ]
  exact List.mem_toArray.2 (List.mem_map.2 ⟨p,hp,rfl⟩)))
 have QF:(parts.map fun (i,x)=>(i,a.eval x)).toList=parts.toList.map fun p=>(p.1,a.eval p.2):=by simp
 obtain ⟨i,v,hi,hv,rfl⟩:=fq hz
 have hlen:xs.length=len:=by rw [h2];simp
 obtain ⟨arr0,hr0,hs0,hrun0⟩:∃arr0:Array Value,gI M (P.cellsOf e) (Sx len (cK v)) arr0∧arr0.size=len*P.cellsOf e∧
   (if len*P.cellsOf e=0 then pure #[] else do pure (← zeroValue e).cells:Sem (Array Value)).run P w= .ok (if len*P.cellsOf e=0 then #[] else v.cells) w∧
   ((Array.range (len*P.cellsOf e)).map ((if len*P.cellsOf e=0 then #[] else v.cells)[· %(if len*P.cellsOf e=0 then #[] else v.cells).size]!))=arr0:=by
  by_cases O1:len*P.cellsOf e=0
  ·refine ⟨#[],?_,by simp [O1],by simp [O1],by simp [O1]⟩
   rcases Nat.eq_zero_or_pos len with e1|e1
   ·subst e1
    exact ⟨by simp,fun i x hx=>by simp at hx,fun i x cs j c hx=>by simp at hx,fun i x cs c hx=>by simp at hx⟩
   ·have e2:P.cellsOf e=0:=by
     rcases Nat.mul_eq_zero.1 O1 with q|q
     ·omega
     ·exact q
    have e3:zc= []:=List.eq_nil_of_length_eq_zero (by omega)
    subst e3
    refine ⟨by simp [e2],fun i x hx=> ?_,fun i x cs j c hx LP hj=> ?_,fun i x cs c hx LP L7=> ?_⟩<;>obtain ⟨_,rfl⟩:=pA hx
    ·exact ⟨[],hc,by simp [e2]⟩
    ·rw [hc] at LP;obtain rfl:=SE LP;simp at hj
    ·rw [hc] at LP;obtain rfl:=SE LP;simp at L7
  ·refine ⟨_,?_,?_,by simp [O1,dr hi hv],rfl⟩
   ·rw [if_neg O1,← LR]
    exact zZ hc (fj v) LL len
   ·simp
 obtain ⟨arr,hf,NQ,hsa⟩:=h3 M _ _ N6 hr0
 have hx:=pL (M:=M) (w:=w) (wd:=w) (arr:=arr) (ty:=e) (n:=arr.size) hw rfl (Below.refl _ _) (0,0)
 have hl:=pz (b:=w.heap.size) (o:= .tight) (cap:=xs.length) (n:=arr.size) NQ (dy hw (SP _)) (SP _) NQ.len rfl
 refine ⟨_,_,_,?_,hx,rfl,rfl,rfl,hl⟩
 simp only [execOp,ho,Instr.buildSlice,SZ,run_underlying ht,SO,cn hk]
 rw [if_neg (by omega)]
 have QG:(newRow e arr).run P w= .ok ⟨w.heap.size,0,none⟩ (w.alloc (.cells arr e)):=by simp [newRow]
 by_cases O1:len*P.cellsOf e=0
 ·have h5:=hrun0.2
  rw [O1] at h5
  simp only [O1,if_true,SZ,S9,SO,QF]
  simp only [if_true] at h5
  rw [h5,hf]
  simp only [SZ,QG,SO,S9,hlen]
 ·have h5:=hrun0.2
  simp only [O1,if_false] at h5
  simp only [O1,if_false,SZ,dr hi hv,S9,SO,QF,h5]
  rw [hf]
  simp only [SZ,QG,SO,S9,hlen]
theorem iO {M:MM} {ow:jI} {sz size:Nat} {xs:List D} {a:Option Addr} {len cap:Nat} (h:bk M (.aj ow sz xs) (.slice a len cap)) (hs:sz=size∨xs= []) {w:World} (hw:∀b o v,M.cell b o=some v→w.cell? ⟨b,o,none⟩=some v):
  ∃arr:Array Value,arr.size=xs.length*size∧gI M size xs arr∧(∀wd:World,(∀a,wd.cell? a=w.cell? a)→(Tm size len (.slice a len cap)).run P wd= .ok arr wd)∧∀v∈arr.toList,v.oneCell'=true:=by
 cases h with
 |aj b off vs hl LH ha LR hc hr LL ho=>
  by_cases ME:xs= []
  ·subst ME
   have hlen:len=0:=by simpa using hl.symm
   subst hlen
   refine ⟨#[],by simp,⟨by simp,fun i x hx=>by simp at hx,fun i x cs j c hx=>by simp at hx,fun i x cs c hx=>by simp at hx⟩,fun wd _=> ?_,by simp⟩
   cases a with
   |none=>rfl
   |some ad=>simp [Tm,loadCells,loadCellsFrom]
  ·obtain rfl:sz=size:=hs.resolve_right ME
   obtain rfl:=ha ME
   let arr:Array Value:=((SI (xs.length*sz)).map fun k=>vs (k / sz) (k%sz)).toArray
   have Md:∀ {k:Nat},k<xs.length*sz→0<sz:=fun {k} hk=>by
    rcases Nat.eq_zero_or_pos sz with q|q
    ·rw [q] at hk;omega
    ·exact q
   have hdiv:∀ {k:Nat},k<xs.length*sz→k / sz<xs.length∧k%sz<sz∧k / sz*sz+k%sz=k:=fun {k} hk=>by
    have hp:=Md hk
    refine ⟨(Nat.div_lt_iff_lt_mul hp).2 hk,Nat.mod_lt _ hp,?_⟩
    rw [Nat.mul_comm];exact Nat.div_add_mod k sz
   have OT:∀ {k:Nat},k<xs.length*sz→∃x cs c,xs[k / sz]? =some x∧x.cells=some cs∧cs[k%sz]? =some c:=fun {k} hk=>by
    obtain ⟨h1,h2,h3⟩:=hdiv hk
    have hx:xs[k / sz]? =some xs[k / sz]:=by simp [h1]
    obtain ⟨cs,LP,hlen⟩:=LR _ _ hx
    exact ⟨_,cs,cs[k%sz]'(by omega),hx,LP,by simp [show k%sz<cs.length by omega]⟩
   have Nl:∀ {k:Nat} {v:Value},arr[k]? =some v→k<xs.length*sz∧v=vs (k / sz) (k%sz):=fun {k v} hk=>by
    simp only [arr,List.getElem?_toArray,SW,SU] at hk
    obtain ⟨x,hx,rfl⟩:=hk
    have LN:k<xs.length*sz:=by
     rcases SY k (xs.length*sz) with q|q
     ·exact q
     ·rw [SN (by simpa using q)] at hx;cases hx
    rw [List.getElem?_range LN] at hx
    cases hx
    exact ⟨LN,rfl⟩
   have Nn:arr.size=xs.length*sz:=by simp [arr]
   refine ⟨arr,Nn,⟨by rw [Nn];exact SP _,LR,?_,LL⟩,?_,?_⟩
   ·intro i x cs j c hx LP hj
    obtain ⟨My,q1,q2⟩:=LR i x hx
    rw [LP] at q1
    obtain rfl:=SE q1
    have N2:j<sz:=by
     rcases SY j cs.length with q|q
     ·omega
     ·simp [SN q] at hj
    have OO:i<xs.length:=by
     rcases SY i xs.length with q|q
     ·exact q
     ·simp [SN q] at hx
    have hk:=nX OO N2
    refine ⟨vs i j,?_,hr i x cs j c hx LP hj⟩
    simp only [arr,List.getElem?_toArray,SW,List.getElem?_range hk,TY,SL]
    have e1:(i*sz+j) / sz=i:=by
     rw [Nat.add_comm,Nat.add_mul_div_right _ _ (Md hk),Nat.div_eq_of_lt N2,Ti]
    have e2:(i*sz+j)%sz=j:=by
     rw [Nat.add_comm,Nat.add_mul_mod_self_right,Nat.mod_eq_of_lt N2]
    rw [e1,e2]
   ·intro wd QK
    have:=gP (P:=P) (w:=wd) b off arr (fun k v hk=>by
     rw [QK]
     obtain ⟨LN,rfl⟩:=Nl hk
     obtain ⟨x,cs,c,q1,q2,q3⟩:=OT LN
     obtain ⟨d1,d2,d3⟩:=hdiv LN
     have:=hw _ _ _ (hc _ x cs _ c q1 q2 q3)
     rw [Nat.add_assoc,d3] at this
     exact this)
    simp only [Tm]
    rw [Nn,hl] at this
    exact this
   ·intro v hv
    obtain ⟨k,hk⟩:=List.mem_iff_getElem?.1 hv
    rw [S4] at hk
    obtain ⟨LN,rfl⟩:=Nl hk
    obtain ⟨x,cs,c,q1,q2,q3⟩:=OT LN
    exact mV (hr _ x cs _ c q1 q2 q3) (LL _ x cs c q1 q2 (Tb q3))
theorem gI.append {M:MM} {size:Nat} {xs ys:List D} {a1 a2:Array Value} (h1:gI M size xs a1) (h2:gI M size ys a2) (hs:a1.size=xs.length*size) (rest:Array Value):gI M size (xs++ys) (a1++a2++rest):=by
 have MC:∀ {i:Nat} {x:D},(xs++ys)[i]? =some x→(i<xs.length∧xs[i]? =some x)∨(xs.length≤i∧ys[i - xs.length]? =some x):=by
  intro i x hx
  rw [Tx] at hx
  split at hx
  ·exact .inl ⟨by assumption,hx⟩
  ·exact .inr ⟨by omega,hx⟩
 refine ⟨?_,?_,?_,?_⟩
 ·have:=h2.len
  simp only [SS,TW,TL,hs]
  omega
 ·intro i x hx
  rcases MC hx with ⟨_,h⟩|⟨_,h⟩
  ·exact h1.elem i x h
  ·exact h2.elem _ x h
 ·intro i x cs j c hx LP hj
  rcases MC hx with ⟨_,h⟩|⟨hge,h⟩
  ·obtain ⟨v,hv,hr⟩:=h1.get i x cs j c h LP hj
   refine ⟨v,?_,hr⟩
   have LN:i*size+j<a1.size:=by
    rcases SY (i*size+j) a1.size with q|q
    ·exact q
    ·simp [Tk q] at hv
   rw [Array.append_assoc,Ts LN]
   exact hv
  ·obtain ⟨v,hv,hr⟩:=h2.get _ x cs j c h LP hj
   refine ⟨v,?_,hr⟩
   have LN:(i - xs.length)*size+j<a2.size:=by
    rcases SY ((i - xs.length)*size+j) a2.size with q|q
    ·exact q
    ·simp [Tk q] at hv
   have e:i*size+j=a1.size+((i - xs.length)*size+j):=by
    rw [hs,← Nat.add_assoc,← TL];congr 2;omega
   rw [e,Array.append_assoc,Array.getElem?_append_right (by omega),show a1.size+((i - xs.length)*size+j) - a1.size=(i - xs.length)*size+j by omega,Ts LN]
   exact hv
 ·intro i x cs c hx LP hc
  rcases MC hx with ⟨_,h⟩|⟨_,h⟩
  ·exact h1.st i x cs c h LP hc
  ·exact h2.st _ x cs c h LP hc
theorem hQ {st xt LY rty:TypeId} {e2:TypeId} {ts:Array TypeId} {args:Array Value} {i:TypeInfo} {z:Value} (ht:P.underlying st=some (.slice LY)) (hx:P.underlying xt=some (.slice e2)) (h0:ts[0]? =some st) (h1:ts[1]? =some xt)
  (hi:P.info? LY=some i) (hz:i.zero=some z) {a a':Option Addr} {len cap LJ Mb:Nat} {w:World} {iJ new:Array Value} (g0:args[0]? =some (.slice a len cap)) (g1:args[1]? =some (.slice a' LJ Mb))
  (hold:(Tm i.size len (.slice a len cap)).run P w.drew= .ok iJ w.drew) (Mq:(Tm i.size LJ (.slice a' LJ Mb)).run P w= .ok new w) (QU:(Tm i.size LJ (.slice a' LJ Mb)).run P w.drew= .ok new w.drew)
  (hb:i.bytes≤65536) (hn:len+LJ≤2147483648):
  (len+LJ≤cap→(Tn ts rty args).run P w=(do (match a with|some ad=>storeCells (ad.add (len*i.size)) new.toList|none=>pure ());pure (.slice a (len+LJ) cap):Sem Value).run P w)∧
  (cap<len+LJ→∃nc,len+LJ≤nc∧(Tn ts rty args).run P w= .ok (.slice (some ⟨w.heap.size,0,none⟩) (len+LJ) nc) (w.drew.alloc (.cells (iJ++new++Builtin.zeroCells z.cells (nc - (len+LJ))) LY))):=by
 constructor
 ·intro LH
  cases a<;>simp [Tn,h0,h1,g0,g1,run_underlying ht,run_underlying hx,sizeOf,typeInfo,hi,Builtin.lenOf,LH,Mq]
 ·intro LH
  have Ma:(len+LJ)*i.bytes≤140737488355328:=by
   have:=Nat.mul_le_mul hn hb
   omega
  have hg:=growslice_fits LH Ma
  refine ⟨grownCap w (len+LJ) cap LY,grownCap_ge w _ _ _,?_⟩
  have e1:¬(len+LJ≤cap):=by omega
  have e2:¬(9223372036854775807<(len:Int)+(LJ:Int)∧i.bytes=0):=by omega
  have e3:¬(Builtin.nextslicecap (len+LJ) cap*i.bytes>2^48):=by omega
  have e4:(Question.appendCap (len+LJ) cap LY).forced=false:=rfl
  have e5:∀x:Array Value,(newRow LY x).run P w.drew= .ok ⟨w.heap.size,0,none⟩ (w.drew.alloc (.cells x LY)):=fun x=>by first|(simp [newRow];done)|(simp [newRow];rfl)
  simp [Tn,h0,h1,g0,g1,run_underlying ht,run_underlying hx,sizeOf,typeInfo,hi,Builtin.lenOf,e1,e3,e2,e4,hold,QU,dr hi hz,e5]
  exact ⟨rfl,rfl⟩
theorem gF {t:TypeId} (h:fg P t=true):∃i z,P.info? t=some i∧i.zero=some z∧z.cells.size=i.size∧P.cellsOf t=i.size:=by
 unfold fg at h
 split at h
 ·rename_i i hi
  split at h
  ·rename_i z hz
   exact ⟨i,z,hi,hz,by simpa using h,by simp [Program.cellsOf,hi]⟩
  ·cases h
 ·cases h
theorem iu {sz size:Nat} {xs:List D} (h:pk sz xs size=true):sz=size∨xs= []:=by
 unfold pk at h
 rw [Bool.or_eq_true,S8,List.isEmpty_iff] at h
 exact h
theorem xH {w:World} {M:MM} (N0:∀b o v,M.cell b o=some v→w.cell? ⟨b,o,none⟩=some v) {st xt LY rty e2:TypeId} {ts:Array TypeId} {args:Array Value} (ht:P.underlying st=some (.slice LY)) (hx:P.underlying xt=some (.slice e2)) (h0:ts[0]? =some st) (h1:ts[1]? =some xt)
  (hz:fg P LY=true) (Ma:P.bytesOf LY≤65536) {ow OQ:jI} {sz L4:Nat} {xs:List D} {u u':Value} (g0:args[0]? =some u) (g1:args[1]? =some u') (hu:bk M (.aj ow sz xs) u) (Pa:bk M (.aj OQ L4 []) u')
  (LR:sz=P.cellsOf LY∨xs= []) (hn:xs.length≤cA):(Tn ts rty args).run P w= .ok u w:=by
 obtain ⟨i,z,hi,hiz,OS,LO⟩:=gF hz
 have Mg:i.bytes≤65536:=by simpa [Program.bytesOf,hi] using Ma
 cases hu with
 |aj b off vs hl LH ha Nn hc hr LL ho=>
  rename_i a len cap
  have LM:bk M (.aj ow sz xs) (.slice a len cap):= .aj b off vs hl LH ha Nn hc hr LL ho
  cases Pa with
  |aj b' off' vs' MG hcap' ha' hsize' NL Oo hst' Ow=>
   rename_i a' LJ Mb
   have NM:bk M (.aj OQ L4 []) (.slice a' LJ Mb):= .aj b' off' vs' MG hcap' ha' hsize' NL Oo hst' Ow
   rw [LO] at LR
   obtain ⟨iJ,os,orow,NP,_⟩:=iO (P:=P) LM LR N0
   obtain ⟨new,ns,MK,Mc,M5⟩:=iO (P:=P) NM (Or.inr rfl:L4=i.size∨([]:List D)= []) N0
   have Rd:LJ=0:=by simpa using MG.symm
   subst Rd
   have NX:len+0≤2147483648:=by rw [← hl];exact hn
   obtain ⟨r1,_⟩:=hQ (P:=P) (rty:=rty) ht hx h0 h1 hi hiz g0 g1 (NP w.drew fun _=>rfl) (Mc w fun _=>rfl) (Mc w.drew fun _=>rfl) Mg NX
   have Pd:new= #[]:=by
    apply TU;rw [ns];simp
   subst Pd
   rw [r1 (by omega)]
   cases a<;>simp [storeCells]
theorem rQ {w0:dq} {w:World} {M:MM} {own:Nat→Option Nat} {σ:Nat→Ob} (hw:bw w0 M own σ w) {st xt LY rty e2:TypeId} {ts:Array TypeId} {args:Array Value} (ht:P.underlying st=some (.slice LY)) (hx:P.underlying xt=some (.slice e2)) (h0:ts[0]? =some st) (h1:ts[1]? =some xt)
  (hz:fg P LY=true) (Ma:P.bytesOf LY≤65536) {ow:jI} {sz LJ Mb:Nat} {xs ys:List D} {u:Value} {a':Option Addr} {new:Array Value} (g0:args[0]? =some u) (g1:args[1]? =some (.slice a' LJ Mb)) (hu:bk M (.aj ow sz xs) u) (MG:ys.length=LJ) (ns:new.size=ys.length*P.cellsOf LY) (MK:gI M (P.cellsOf LY) ys new) (Mc:∀wd:World,(∀a,wd.cell? a=w.cell? a)→(Tm (P.cellsOf LY) LJ (.slice a' LJ Mb)).run P wd= .ok new wd) (M5:∀v∈new.toList,v.oneCell'=true)
  (LR:sz=P.cellsOf LY∨xs= []) (hn:xs.length+ys.length≤cA) {id ver:Nat} (Oi:∀v,ver≤v→M.bl id v=none)
  (Ml:∀a len cap,u= .slice a len cap→cap=len∨∃b vs ty fz OL Ng,a=some ⟨b,0,none⟩∧rW w0 M own id (P.cellsOf LY) w len cap b vs ty fz∧σ id= .bO OL Ng):
  ∃v M' LB w',(Tn ts rty args).run P w= .ok v w'∧M.Le M'∧bw w0 M' LB (dW σ id (.bO ver (P.cellsOf LY))) w'∧bk M' (.aj (.tok id ver) (P.cellsOf LY) (xs++ys)) v∧M'.box=M.box∧∀j,j≠id→M'.bl j=M.bl j:=by
 obtain ⟨i,z,hi,hiz,OS,LO⟩:=gF hz
 have Mg:i.bytes≤65536:=by simpa [Program.bytesOf,hi] using Ma
 cases hu with
 |aj b off vs hl LH ha Nn hc hr LL ho=>
  rename_i a len cap
  have LM:bk M (.aj ow sz xs) (.slice a len cap):= .aj b off vs hl LH ha Nn hc hr LL ho
  rw [LO] at LR ns MK Mc
  obtain ⟨iJ,os,orow,NP,_⟩:=iO (P:=P) LM LR hw.cells
  have NX:len+LJ≤2147483648:=by rw [← hl,← MG];exact hn
  obtain ⟨r1,r2⟩:=hQ (P:=P) (rty:=rty) ht hx h0 h1 hi hiz g0 g1 (NP w.drew fun _=>rfl) (Mc w fun _=>rfl) (Mc w.drew fun _=>rfl) Mg NX
  rcases SY cap (len+LJ) with LN|hge
  ·
   obtain ⟨nc,LD,LV⟩:=r2 LN
   let arr:=iJ++new++Builtin.zeroCells z.cells (nc - (len+LJ))
   have NQ:gI M i.size (xs++ys) arr:=orow.append MK os _
   have MH:arr.size=nc*i.size:=by
    simp only [arr,TW,size_zeroCells,os,ns,OS,hl,MG,← TL]
    congr 1;omega
   have O6:(xs++ys).length*i.size≤(len+LJ)*i.size:=by rw [SS,hl,MG];exact SP _
   have OC:=pL (M:=M) (w:=w) (wd:=w.drew) (arr:=arr) (ty:=LY) (n:=(len+LJ)*i.size) hw.cells rfl (Below.refl _ _).drew (0,0)
   obtain ⟨Od,NC⟩:=hw.ext OC rfl rfl rfl
   have Pn:(w.drew.alloc (.cells arr LY (0,0))).heap[w.heap.size]? =some (.cells arr LY (0,0)):=by
    show (w.heap.push _)[w.heap.size]? =_
    simp
   have Nm:own w.heap.size=none:=by
    cases e:own w.heap.size with
    |none=>rfl
    |some q=>have:=hw.owned _ _ e;omega
   obtain ⟨LB,hw3⟩:=Od.qm (id:=id) (ver:=ver) Oi (a:=some ⟨w.heap.size,0,none⟩) (len:=len+LJ) (cap:=nc) i.size
    (.inr ⟨w.heap.size,arr,LY,(0,0),rfl,hw.below.new,.inl Nm,Pn,fun o _ h=>by have:=h.2;simp at this,by rw [MH];exact SP _,fun o ho=>by
     simp only [MM.lay,MM.bK,if_true];rw [if_neg (by omega)]⟩)
   have Ok:=MM.cY (M:=M.lay w.heap.size arr ((len+LJ)*i.size)) (id:=id) (ver:=ver) (v:= .slice (some ⟨w.heap.size,0,none⟩) (len+LJ) nc) (Oi ver (SP _))
   refine ⟨_,_,LB,_,LV,NC.trans Ok,by rw [LO];exact hw3,?_,rfl,?_⟩
   ·have hlen:(xs++ys).length=len+LJ:=by rw [SS,hl,MG]
    have h5:=pz (M:=M) (b:=w.heap.size) (o:= .no) (cap:=nc) (n:=(len+LJ)*i.size) NQ (dy hw.cells (SP _)) (by omega) O6 trivial
    rw [LO]
    rw [hlen] at h5
    exact (h5.mono Ok).flag _ (by simp [MM.od,MM.aX])
   ·intro j hj
    funext k
    simp [MM.aX,hj,MM.lay,MM.bK]
  ·have LV:=r1 hge
   by_cases hy:ys= []
   ·
    subst hy
    have Rd:LJ=0:=by simpa using MG.symm
    subst Rd
    have Pd:new= #[]:=by
     apply TU;rw [ns];simp
    subst Pd
    have OG:(Tn ts rty args).run P w= .ok (.slice a len cap) w:=by
     rw [LV]
     cases a<;>simp [storeCells]
    have Qg:cap=len∨∃b vs ty fz,a=some ⟨b,0,none⟩∧¬w0.X b∧(own b=none∨own b=some id)∧w.heap[b]? =some (.cells vs ty fz)∧kL fz vs.size∧cap*i.size≤vs.size∧∀o,len*i.size≤o→M.cell b o=none:=by
     rcases Ml a len cap rfl with q|⟨b,vs,ty,fz,_,_,ha,r,_⟩
     ·exact .inl q
     ·rw [LO] at r
      exact .inr ⟨b,vs,ty,fz,ha,r.base,.inr r.own,r.cy,r.fz,r.cap,r.none⟩
    obtain ⟨LB,hw3⟩:=hw.qm (id:=id) (ver:=ver) Oi i.size Qg
    have Ok:=MM.cY (id:=id) (ver:=ver) (v:= .slice a len cap) (Oi ver (SP _))
    refine ⟨_,_,LB,w,OG,Ok,by rw [LO];exact hw3,?_,rfl,?_⟩
    ·rw [T0,LO]
     exact ((LM.resize LR).mono Ok).flag _ (by simp [MM.od,MM.aX])
    ·intro j hj
     funext k
     simp [MM.aX,hj]
   ·
    have Md:0<LJ:=by
     rw [← MG];exact List.length_pos_iff.2 hy
    rcases Ml a len cap rfl with q|⟨b1,vs1,ty1,fz1,OL,Ng,ha1,r,hσ⟩
    ·omega
    ·rw [LO] at r
     subst ha1
     have Pq:new.toList.length=LJ*i.size:=by rw [Tl,ns,MG]
     have MX:len*i.size+new.toList.length≤vs1.size:=by
      rw [Pq,← TL];exact Nat.le_trans (TD _ hge) r.cap
     have M3:=eE (P:=P) (b:=b1) (off:=len*i.size) new.toList 0 w vs1 r.cy M5 (by simpa using MX) r.fz
     rw [TZ] at M3
     let vs2:=cU vs1 (len*i.size) new.toList
     have MD:∀o,o<len*i.size→vs2[o]? =vs1[o]? :=fun o ho=>by
      simp only [vs2];rw [fe _ _ _ _ MX,if_neg (by omega)]
     have Od:=hw.Fy hσ r ((len+LJ)*i.size) (vs':=vs2) (dc _ _ _) MD
     have NC:M.Le (M.gz b1 (len*i.size) ((len+LJ)*i.size) vs2):=MM.AK r.none
     obtain ⟨LB,hw3⟩:=Od.qm (id:=id) (ver:=ver) Oi (a:=some ⟨b1,0,none⟩) (len:=len+LJ) (cap:=cap) i.size
      (.inr ⟨b1,vs2,ty1,fz1,rfl,r.base,.inr r.own,dI r.cy,by simp only [vs2,dc];exact r.fz,by simp only [vs2,dc];exact r.cap,fun o ho=>by
       simp only [MM.gz,MM.bK,if_true]
       rw [if_neg (by omega)]
       exact r.none o (by rw [TL] at ho;omega)⟩)
     have Ok:=MM.cY (M:=M.gz b1 (len*i.size) ((len+LJ)*i.size) vs2) (id:=id) (ver:=ver) (v:= .slice (some ⟨b1,0,none⟩) (len+LJ) cap) (Oi ver (SP _))
     have hσ2:dW (dW σ id .dead) id (.bO ver i.size)=dW σ id (.bO ver i.size):=by
      funext j;by_cases e:j=id<;>simp [dW,e]
     rw [hσ2] at hw3
     refine ⟨.slice (some ⟨b1,0,none⟩) (len+LJ) cap,_,LB,bh w b1 (.cells vs2 ty1 fz1),?_,NC.trans Ok,by rw [LO];exact hw3,?_,rfl,?_⟩
     ·rw [LV]
      simp only [eM,Ti,SZ,M3,SO,S9]
      rfl
     ·rw [LO]
      refine bk.flag (o:= .no) ?_ _ (by simp [MM.od,MM.aX])
      refine bk.mono ?_ Ok
      have NI:∀ {k:Nat} {x:D},(xs++ys)[k]? =some x→(k<len∧xs[k]? =some x)∨(len≤k∧k<len+LJ∧ys[k - len]? =some x):=by
       intro k x hx
       rw [Tx] at hx
       split at hx
       ·exact .inl ⟨by omega,hx⟩
       ·refine .inr ⟨by omega,?_,by rw [← hl];exact hx⟩
        have:k - xs.length<ys.length:=by
         rcases SY (k - xs.length) ys.length with q|q
         ·exact q
         ·simp [SN q] at hx
        omega
      have hold:∀ {k:Nat} {x:D} {cs:List D} {j:Nat} {c:D},xs[k]? =some x→x.cells=some cs→cs[j]? =some c→M.cell b1 (k*i.size+j)=some (vs k j)∧bk M.bare c (vs k j):=by
       intro k x cs j c hx LP hj
       have ME:xs≠ []:=fun e=>by subst e;simp at hx
       have e1:=ha ME
       obtain ⟨rfl,rfl⟩:b1=b∧0=off:=by simpa using e1
       have e2:sz=i.size:=LR.resolve_right ME
       have h5:=hc k x cs j c hx LP hj
       rw [e2,Ti] at h5
       exact ⟨h5,hr k x cs j c hx LP hj⟩
      have Rp:∀ {k:Nat} {x:D} {cs:List D} {j:Nat} {c:D},(xs++ys)[k]? =some x→x.cells=some cs→cs[j]? =some c→j<i.size:=by
       intro k x cs j c hx LP hj
       have hlen:cs.length=i.size:=by
        rcases NI hx with ⟨_,h⟩|⟨_,_,h⟩
        ·obtain ⟨My,q1,q2⟩:=orow.elem _ x h;rw [LP] at q1;obtain rfl:=SE q1;exact q2
        ·obtain ⟨My,q1,q2⟩:=MK.elem _ x h;rw [LP] at q1;obtain rfl:=SE q1;exact q2
       rcases SY j cs.length with q|q
       ·omega
       ·simp [SN q] at hj
      refine .aj b1 0 (fun k j=>if k<len then vs k j else (new[(k - len)*i.size+j]?).getD .nilFunc) (by rw [SS,hl,MG]) hge (fun _=>rfl) ?_ ?_ ?_ ?_ trivial
      ·intro k x hx
       rcases NI hx with ⟨_,h⟩|⟨_,_,h⟩
       ·exact orow.elem _ x h
       ·exact MK.elem _ x h
      ·intro k x cs j c hx LP hj
       have N2:=Rp hx LP hj
       rw [Ti]
       simp only [MM.gz,MM.bK,if_true]
       rcases NI hx with ⟨hk,h⟩|⟨hk,PF,h⟩
       ·have:=nX hk N2
        rw [if_neg (by omega),if_pos hk]
        exact (hold h LP hj).1
       ·have h6:=nX PF N2
        have h7:len*i.size≤k*i.size:=TD _ hk
        rw [if_pos ⟨by omega,h6⟩,if_neg (by omega)]
        obtain ⟨v,hv,_⟩:=MK.get _ x cs j c h LP hj
        have e:k*i.size+j - len*i.size=(k - len)*i.size+j:=by
         rw [Nat.sub_mul];omega
        simp only [vs2]
        rw [fe _ _ _ _ MX,if_pos ⟨by omega,by rw [Pq,← TL];exact h6⟩,e,S4,hv]
        rfl
      ·intro k x cs j c hx LP hj
       rcases NI hx with ⟨hk,h⟩|⟨hk,_,h⟩
       ·simp only [if_pos hk]
        exact (hold h LP hj).2.mono NC.bare
       ·simp only [if_neg (show ¬k<len by omega)]
        obtain ⟨v,hv,Qz⟩:=MK.get _ x cs j c h LP hj
        rw [hv]
        exact Qz.mono NC.bare
      ·intro k x cs c hx LP L7
       rcases NI hx with ⟨_,h⟩|⟨_,_,h⟩
       ·exact orow.st _ x cs c h LP L7
       ·exact MK.st _ x cs c h LP L7
     ·intro j hj
      funext k
      simp [MM.aX,hj,MM.gz,MM.bK]
theorem pe {w0:dq} {w:World} {M:MM} {own:Nat→Option Nat} {σ:Nat→Ob} (hw:bw w0 M own σ w) {st xt LY rty e2:TypeId} {ts:Array TypeId} {args:Array Value} (ht:P.underlying st=some (.slice LY)) (hx:P.underlying xt=some (.slice e2)) (h0:ts[0]? =some st) (h1:ts[1]? =some xt)
  (hz:fg P LY=true) (Ma:P.bytesOf LY≤65536) {ow OQ:jI} {sz L4:Nat} {xs ys:List D} {u u':Value} (g0:args[0]? =some u) (g1:args[1]? =some u') (hu:bk M (.aj ow sz xs) u) (Pa:bk M (.aj OQ L4 ys) u')
  (LR:sz=P.cellsOf LY∨xs= []) (OK:L4=P.cellsOf LY∨ys= []) (hn:xs.length+ys.length≤cA) {id ver:Nat} (Oi:∀v,ver≤v→M.bl id v=none)
  (Ml:∀a len cap,u= .slice a len cap→cap=len∨∃b vs ty fz OL Ng,a=some ⟨b,0,none⟩∧rW w0 M own id (P.cellsOf LY) w len cap b vs ty fz∧σ id= .bO OL Ng):
  ∃v M' LB w',(Tn ts rty args).run P w= .ok v w'∧M.Le M'∧bw w0 M' LB (dW σ id (.bO ver (P.cellsOf LY))) w'∧bk M' (.aj (.tok id ver) (P.cellsOf LY) (xs++ys)) v∧M'.box=M.box∧∀j,j≠id→M'.bl j=M.bl j:=by
 cases Pa with
 |aj b' off' vs' MG hcap' ha' hsize' NL Oo hst' Ow=>
  rename_i a' LJ Mb
  have NM:bk M (.aj OQ L4 ys) (.slice a' LJ Mb):= .aj b' off' vs' MG hcap' ha' hsize' NL Oo hst' Ow
  obtain ⟨new,ns,MK,Mc,M5⟩:=iO (P:=P) NM OK hw.cells
  exact rQ hw ht hx h0 h1 hz Ma g0 g1 hu MG ns MK Mc M5 LR hn Oi Ml
end
structure vP (P:Program) (id:Nat) (args:List D) (s:List Ob) (d:D) (s':List Ob):Prop where
  len:s.length≤s'.length
  run:∀(w0:dq) (M:MM) (own:Nat→Option Nat) (w:World) (vs:Array Value) (l:Nat),bw w0 M own (bo s) w→M.upto s.length→bS M args vs→M.box id=some l→
    ∃fn tmps ag bd,(Instr.yield l vs).run P w= .ok (.round l fn tmps ag bd) w∧
      RoundIn Fence.wide 0 P l fn tmps ag bd w fun e w'=> ∃v M' LB,e= .returned v∧bw w0 M' LB (bo s') w'∧M'.upto s'.length∧M.Le M'∧bk M' d v
def J4 (P:Program) (g:Tg) (args:List D) (s:List Ob) (d:D) (s':List Ob):Prop:=match g with
  | .fn f=>af P f args s d s'
  | .yl id=>vP P id args s d s'
def jY (P:Program) {ρ':Type} (inl:A3 P ρ'):Prop:= ∀(g:Tg) (args:List D) (s:List Ob) (z:Z P) (K:D→List Ob→Z P→Option ρ') (r:ρ'),inl g args s z K=some r→
  ∃d s' z',K d s' z'=some r∧(z'.c→z.c∧J4 P g args s d s')
def FY (P:Program) (o:Oper) (ρ:Operand→D) (s s':List Ob) (d:D):Prop:=
  s.length≤s'.length∧∀(w0:dq) (M:MM) (own:Nat→Option Nat) (w:World) (a:Act),bw w0 M own (bo s) w→M.upto s.length→(∀x∈o.op.operands,bk M (ρ x) (a.eval x))→
    ∀(next:Act→World→Prop) (Q:Exit→Act→World→Prop),
      (∀v M' LB w',M.Le M'→M'.upto s'.length→bw w0 M' LB (bo s') w'→bk M' d v→next (a.put o.dst v) w')→Gc P o a w next Q
def iL (P:Program) (o:Oper) (ρ:Operand→D) (s:List Ob) (e:iM):Prop:=match e with
  | .all s' d=>FY P o ρ s s' d
  | .read i ob d=>(s.getD i .dead=ob∧i<s.length)∧eD P o ρ (.read i ob d)
  | .gQ i j d=>(fC (s.getD i .dead) j=some d∧i<s.length)∧eD P o ρ (.gQ i j d)
  | .dW i ob OV d=>(s.getD i .dead=ob∧i<s.length)∧eD P o ρ (.dW i ob OV d)
  |e=>eD P o ρ e
theorem cX {s:List Ob} {i:Nat} (h:s.getD i .dead≠ .dead):i<s.length:=by
 rcases SY i s.length with q|q
 ·exact q
 ·rw [SK,SN q] at h;exact absurd rfl h
theorem ti {P:Program} {o:Oper} {ρv:Operand→Value} {c:Call} {f:Operand} {g:FuncId} {fv cv:Array Value} (ho:o.op= .call c) (hc:c.callee= .value f) (hf:ρv f= .func (.func g) fv cv) (he:KQ P g) (w:World):
  (execOp ρv o).run P w= .ok (.enter g ((fv++c.args.map ρv)++cv)) w:=by
 obtain ⟨fn,code,h1,h2,h3⟩:=he
 simp only [execOp,ho,resolve,hc,hf,Deferred.ofValue,SZ,S9,SO,invoke,callFunc,run_program,h1,h3,Tq,if_false,h2,Option.isNone_some]
theorem wc {P:Program} {o:Oper} {a:Act} {w:World} {g:FuncId} {vs:Array Value} {next:Act→World→Prop} {Q:Exit→Act→World→Prop} (h:(execOp a.eval o).run P w= .ok (.enter g vs) w)
  (k:Calls P g vs w fun e w'=> ∃v,e= .returned v∧next (a.put o.dst v) w'):Gc P o a w next Q:=by
 intro r
 refine ⟨fun _ _=>trivial,?_⟩
 rw [show (FW r).round=r from rfl,lF h (fun d e=>by cases e) r,Oper.uponIn_enter]
 refine ⟨fun e=>(by cases e),?_⟩
 have k':CallsIn (FW r) (0 - 1) P g vs w fun e w'=> ∃v,e= .returned v∧next (a.put o.dst v) w':=(callsIn_wide (n:=0)).2 k
 refine k'.mono fun e w' hh=> ?_
 obtain ⟨v,rfl,hn⟩:=hh
 exact hn
theorem yR {P:Program} {o:Oper} {ρv:Operand→Value} {c:Call} {f:Operand} {l:Nat} (ho:o.op= .call c) (hc:c.callee= .value f) (hf:ρv f= .func (.yield l) #[] #[]) (w:World):
  (execOp ρv o).run P w=(Instr.yield l (c.args.map ρv)).run P w:=by
 simp only [execOp,ho,resolve,hc,hf,Deferred.ofValue,SZ,S9,SO,invoke,Array.empty_append,Array.append_empty]
theorem Dz {P:Program} {o:Oper} {a:Act} {w:World} {l:Nat} {fn:FuncId} {tmps:Array Value} {ag bd:Code} {next:Act→World→Prop} {Q:Exit→Act→World→Prop} (h:(execOp a.eval o).run P w= .ok (.round l fn tmps ag bd) w)
  (k:RoundIn Fence.wide 0 P l fn tmps ag bd w fun e w'=> ∃v,e= .returned v∧next (a.put o.dst v) w'):Gc P o a w next Q:=by
 intro r
 refine ⟨fun _ _=>trivial,?_⟩
 rw [show (FW r).round=r from rfl,lF h (fun d e=>by cases e) r,Oper.uponIn_round]
 refine ⟨fun e=>(by cases e),?_⟩
 have k':RoundIn (FW r) (0 - 1) P l fn tmps ag bd w fun e w'=> ∃v,e= .returned v∧next (a.put o.dst v) w':=k
 refine k'.mono fun e w' hh=> ?_
 obtain ⟨v,rfl,hn⟩:=hh
 exact hn
theorem bS.append {M:MM} {xs ys:List D} {us vs:Array Value} (h:bS M xs us) (k:bS M ys vs):bS M (xs++ys) (us++vs):=by
 refine ⟨by simp [h.1,k.1],fun i d v a b=> ?_⟩
 rw [Tx] at a
 rw [Array.getElem?_append] at b
 rw [← h.1] at b
 split at a
 ·rename_i hi
  rw [if_pos hi] at b
  exact h.2 i d v a b
 ·rename_i hi
  rw [if_neg hi] at b
  exact k.2 _ d v a b
theorem qv {M:MM} {ρ:Operand→D} {a:Act} (l:Array Operand) (h:∀x∈l,bk M (ρ x) (a.eval x)):bS M (l.toList.map ρ) (l.map a.eval):=by
 refine ⟨by simp,fun i d v p q=> ?_⟩
 rw [SW,SU] at p
 obtain ⟨x,hx,rfl⟩:=p
 rw [S4] at hx
 rw [Array.getElem?_map,hx] at q
 simp only [TY,SL] at q
 subst q
 exact h x (Array.mem_of_getElem? hx)
theorem bk.aR {M:MM} {d:D} {v:Value} (h:bk M d v):bk M d.aR v:=by
 induction h with
 |undef v=>exact .undef v
 |int k n=>exact .int k n
 |bool b=>exact .bool b
 |str s=>exact .str s
 |eL=>exact .eL
 |ptr q h=>exact .ptr q h
 |dG q vs hx hc hr ih=>exact .dG q vs hx hc hr
 |cB h=>exact .cB h
 |hE h=>exact .hE h
 |cS h hh hc=>exact .cS h hh hc
 |sub h hc hp ho=>exact .sub h hc hp ho
 |aj b off vs hl LH ha LR hc hr LL ho ih=>
  rename_i o _ _ _ _ _
  rw [D.aR]
  refine .aj b off vs hl LH ha LR hc hr LL ?_
  cases o<;>first|trivial|exact ho
 |aq=>exact .aq
 |fn h1 h2 r1 r2 i1 i2=>
  rw [D.aR,D.fi,D.fi]
  refine .fn (by simpa using h1) (by simpa using h2) ?_ ?_
  ·intro i d v a b
   rw [SW,SU] at a
   obtain ⟨d0,h0,rfl⟩:=a
   exact i1 i d0 v h0 b
  ·intro i d v a b
   rw [SW,SU] at a
   obtain ⟨d0,h0,rfl⟩:=a
   exact i2 i d0 v h0 b
 |agg h r ih=>
  rw [D.aR,D.fi]
  refine .agg (by simpa using h) fun i d v a b=> ?_
  rw [SW,SU] at a
  obtain ⟨d0,h0,rfl⟩:=a
  exact ih i d0 v h0 b
 |aC h r ih=>
  rw [D.aR,D.fi]
  refine .aC (by simpa using h) fun i d v a b=> ?_
  rw [SW,SU] at a
  obtain ⟨d0,h0,rfl⟩:=a
  exact ih i d0 v h0 b
theorem rR {id:Nat} :∀ {ds l:List D} {sz:Nat},g7 id ds=some (l,sz)→∃(k L4:Nat) (xs:List D),ds[k]? =some (D.aj (.fresh sz) L4 xs)∧l.length=ds.length∧
  ∀(i:Nat) (d':D),l[i]? =some d'→(i=k∧d'=D.aj (.tok id 0) L4 xs)∨∃d0:D,ds[i]? =some d0∧(d'=d0∨d'=d0.aR)
 | [],l,sz,h=>by simp [g7] at h
 |d::r,l,sz,h=>by
  unfold g7 at h
  split at h
  ·cases h
  ·rename_i Qt Ng xs r' heq
   simp only [List.cons.injEq] at heq
   obtain ⟨rfl,rfl⟩:=heq
   simp only [SL,Prod.mk.injEq] at h
   obtain ⟨rfl,rfl⟩:=h
   refine ⟨0,Ng,xs,rfl,by simp,fun i d' hi=> ?_⟩
   cases i with
   |zero=>simp at hi;exact .inl ⟨rfl,hi.symm⟩
   |succ i=>
    simp only [TH,SW,SU] at hi
    obtain ⟨d0,h0,rfl⟩:=hi
    exact .inr ⟨d0,by simpa using h0,.inr rfl⟩
  ·rename_i d1 r1 _ heq
   simp only [List.cons.injEq] at heq
   obtain ⟨rfl,rfl⟩:=heq
   split at h
   ·rename_i l' L4 hl
    simp only [SL,Prod.mk.injEq] at h
    obtain ⟨rfl,rfl⟩:=h
    obtain ⟨k,Ng,xs,h1,h2,h3⟩:=rR hl
    refine ⟨k+1,Ng,xs,by simpa using h1,by simp [h2],fun i d' hi=> ?_⟩
    cases i with
    |zero=>simp at hi;exact .inr ⟨d,rfl,.inl hi.symm⟩
    |succ i=>
     rcases h3 i d' (by simpa using hi) with ⟨e1,e2⟩|⟨d0,e1,e2⟩
     ·exact .inl ⟨by omega,e2⟩
     ·exact .inr ⟨d0,by simpa using e1,e2⟩
   ·cases h
theorem FU (id NW:Nat) (d:D):(lB id d).2=(lB NW d).2:=by
 have hl:∀ds:List D,(g7 id ds).map (·.2)=(g7 NW ds).map (·.2):=by
  intro ds
  induction ds with
  |nil=>rfl
  |cons d r ih=>
   unfold g7
   split
   ·rfl
   ·rfl
   ·rename_i h;
    cases h1:g7 id r with
    |none=>
     rw [h1] at ih
     cases h2:g7 NW r with
     |none=>simp_all
     |some p=>rw [h2] at ih;cases ih
    |some p=>
     rw [h1] at ih
     cases h2:g7 NW r with
     |none=>rw [h2] at ih;cases ih
     |some q=>
      rw [h2] at ih
      have:p.2=q.2:=by simpa using ih
      simp_all
 unfold lB
 split
 ·rfl
 ·rename_i ds
  have:=hl ds
  cases h1:g7 id ds with
  |none=>
   rw [h1] at this
   cases h2:g7 NW ds with
   |none=>rfl
   |some p=>rw [h2] at this;cases this
  |some p=>
   rw [h1] at this
   cases h2:g7 NW ds with
   |none=>rw [h2] at this;cases this
   |some q=>
    rw [h2] at this
    have:p.2=q.2:=by simpa using this
    simp [this]
 ·rfl
theorem FT {w0:dq} {w w':World} {M M1:MM} {own:Nat→Option Nat} {σ:Nat→Ob} (hw:bw w0 M own σ w) (PT:bw w0 M1 own σ w') (_hle:w.heap.size≤w'.heap.size) {id:Nat} (L9:∀v,M1.bl id v=none) {d:D} {v:Value} (hr:bk M1 d v) (hf:zY w.heap.size w' M1.cell d v):
  ∃M' LB,M1.Le M'∧M'.box=M1.box∧(∀j,j≠id→M'.bl j=M1.bl j)∧bw w0 M' LB (dW σ id (lB id d).2) w'∧bk M' (lB id d).1 v:=by
 have bO:∀ {sz:Nat} {a:Option Addr} {len cap:Nat},iU w.heap.size w' M1.cell sz a len cap→∃LB,bw w0 (M1.aX id 0 (.slice a len cap)) LB (dW σ id (.bO 0 sz)) w':=by
  intro sz a len cap Ml
  refine PT.qm (fun v _=>L9 v) sz ?_
  rcases Ml with q|⟨b,vs,ty,fz,h1,h2,h3,h4,h5,h6⟩
  ·exact .inl q
  ·refine .inr ⟨b,vs,ty,fz,h1,(fun k=>by have:=hw.below.JH k;omega),.inl ?_,h3,h4,h5,h6⟩
   cases e:own b with
   |none=>rfl
   |some q=>have:=hw.owned _ _ e;omega
 have aD:∀ {x:Value},(∀j,j≠id→(M1.aX id 0 x).bl j=M1.bl j):=fun {x} j hj=>by funext k;simp [MM.aX,hj]
 have dead:∀ {d':D},bk M1 d' v→∃M' LB,M1.Le M'∧M'.box=M1.box∧(∀j,j≠id→M'.bl j=M1.bl j)∧bw w0 M' LB (dW σ id .dead) w'∧bk M' d' v:=
  fun h=>⟨M1,own,.refl _,rfl,fun _ _=>rfl,PT.kill id,h⟩
 unfold lB
 split
 ·rename_i sz L4 xs
  obtain ⟨a,len,cap,rfl,rfl,Ml⟩:=hf.1 _ _ _ rfl
  obtain ⟨LB,h1⟩:=bO Ml
  have le:=MM.cY (M:=M1) (id:=id) (ver:=0) (v:= .slice a len cap) (L9 0)
  exact ⟨_,LB,le,rfl,aD,h1,(hr.mono le).flag _ (by simp [MM.od,MM.aX])⟩
 ·rename_i ds
  split
  ·rename_i l sz hl
   obtain ⟨k,L4,xs,h1,h2,h3⟩:=rR hl
   cases hr with
   |aC hlen LM=>
    rename_i vs
    obtain ⟨a,len,cap,hv,rfl,Ml⟩:=hf.2 _ _ rfl rfl k _ _ _ h1
    obtain ⟨LB,h4⟩:=bO Ml
    have le:=MM.cY (M:=M1) (id:=id) (ver:=0) (v:= .slice a len cap) (L9 0)
    refine ⟨_,LB,le,rfl,aD,h4,.aC (by rw [h2];exact hlen) fun i d' u hi hu=> ?_⟩
    rcases h3 i d' hi with ⟨rfl,rfl⟩|⟨d0,e1,e2⟩
    ·rw [hv] at hu
     obtain rfl:=SE hu
     exact ((LM _ _ _ h1 hv).mono le).flag _ (by simp [MM.od,MM.aX])
    ·have:=(LM i d0 u e1 hu).mono le
     rcases e2 with rfl|rfl
     ·exact this
     ·exact this.aR
  ·exact dead hr
 ·exact dead hr
theorem Ii {P:Program} {o:Oper} {ρ:Operand→D} {c:Call} {f:Operand} {g:FuncId} {first cap as:List D} {d:D} (ho:o.op= .call c) (hc:c.callee= .value f) (hf:ρ f= .fn (.func g) first cap) (PC:aF P g as d)
  (has:∀(M:MM) (vs:Array Value),bS M (first++(c.args.toList.map ρ++cap)) vs→bS M.bare as vs):eD P o ρ (.new (lB 0 d).2 fun id=>(lB id d).1):=by
 intro w0 M own σ w a id hw hr LQ next Q hn
 have LU:∀x∈c.args,bk M (ρ x) (a.eval x):=fun x hx=>hr x (by
  simp only [ho,SQ,T7,hc]
  exact Array.mem_append.2 (.inr hx))
 have MA:=hr f (by
  simp only [ho,SQ,T7,hc]
  exact Array.mem_append.2 (.inl (by simp)))
 rw [hf] at MA
 generalize hfv:a.eval f=fval at MA
 cases MA with
 |fn h1 h2 r1 r2=>
  rename_i fv cv
  have Ni:bS M (first++(c.args.toList.map ρ++cap)) ((fv++c.args.map a.eval)++cv):=by
   rw [Array.append_assoc]
   exact bS.append ⟨h1,r1⟩ (bS.append (qv c.args LU) ⟨h2,r2⟩)
  have Pk:=PC.run w M.cell _ hw.cells (has M _ Ni)
  refine wc (ti ho hc hfv PC.FB w) (Calls.mono Pk fun e w' hh=> ?_)
  obtain ⟨v,C',rfl,hext,LM,N5⟩:=hh
  let M1:MM:=⟨C',M.box,M.bl,M.eB⟩
  have hx:Ext M w M1 w':=⟨hext.below,hext.cell,hext.only,hext.cells⟩
  obtain ⟨PT,Qi⟩:=hw.ext hx rfl rfl rfl
  obtain ⟨M',LB,q1,q2,q3,q4,q5⟩:=FT (id:=id) hw PT hext.below.size LQ.2 (LM.mono (MM.kr M1)) N5
  refine ⟨v,rfl,hn v M' LB w' (Qi.trans q1) ⟨fun j _=>by rw [q2],fun j hj=>q3 j hj⟩ ?_ q5⟩
  show bw w0 M' LB (dW σ id (lB 0 d).2) w'
  rw [FU 0 id d]
  exact q4
theorem En {P:Program} {o:Oper} {ρ:Operand→D} {c:Call} {f:Operand} {g:FuncId} {first cap:List D} {d:D} {s s':List Ob} (ho:o.op= .call c) (hc:c.callee= .value f) (hf:ρ f= .fn (.func g) first cap)
  (LV:af P g (first++(c.args.toList.map ρ++cap)) s d s'):FY P o ρ s s' d:=by
 refine ⟨LV.len,?_⟩
 intro w0 M own w a hw Na hr next Q hn
 have LU:∀x∈c.args,bk M (ρ x) (a.eval x):=fun x hx=>hr x (by
  simp only [ho,SQ,T7,hc]
  exact Array.mem_append.2 (.inr hx))
 have MA:=hr f (by
  simp only [ho,SQ,T7,hc]
  exact Array.mem_append.2 (.inl (by simp)))
 rw [hf] at MA
 generalize hfv:a.eval f=fval at MA
 cases MA with
 |fn h1 h2 r1 r2=>
  rename_i fv cv
  have Ni:bS M (first++(c.args.toList.map ρ++cap)) ((fv++c.args.map a.eval)++cv):=by
   rw [Array.append_assoc]
   exact bS.append ⟨h1,r1⟩ (bS.append (qv c.args LU) ⟨h2,r2⟩)
  refine wc (ti ho hc hfv LV.FB w) (Calls.mono (LV.run w0 M own w _ hw Na Ni) fun e w' hh=> ?_)
  obtain ⟨v,M',LB,rfl,q1,q2,q3,q4⟩:=hh
  exact ⟨v,rfl,hn v M' LB w' q3 q2 q1 q4⟩
theorem Ih {P:Program} {o:Oper} {ρ:Operand→D} {c:Call} {f:Operand} {id:Nat} {d:D} {s s':List Ob} (ho:o.op= .call c) (hc:c.callee= .value f) (hf:ρ f= .hE id)
  (LV:vP P id (c.args.toList.map ρ) s d s'):FY P o ρ s s' d:=by
 refine ⟨LV.len,?_⟩
 intro w0 M own w a hw Na hr next Q hn
 have LU:∀x∈c.args,bk M (ρ x) (a.eval x):=fun x hx=>hr x (by
  simp only [ho,SQ,T7,hc]
  exact Array.mem_append.2 (.inr hx))
 have MA:=hr f (by
  simp only [ho,SQ,T7,hc]
  exact Array.mem_append.2 (.inl (by simp)))
 rw [hf] at MA
 generalize hfv:a.eval f=fval at MA
 cases MA with
 |hE hb=>
  obtain ⟨fn,tmps,as,bd,h1,h2⟩:=LV.run w0 M own w _ _ hw Na (qv c.args LU) hb
  refine Dz (l:=_) ((yR ho hc hfv w).trans h1) (h2.mono fun e w' hh=> ?_)
  obtain ⟨v,M',LB,rfl,q1,q2,q3,q4⟩:=hh
  exact ⟨v,rfl,hn v M' LB w' q3 q2 q1 q4⟩
theorem lD {s:List Ob} {i:Nat} (h:i<s.length) (o:Ob):bo (s.set i o)=dW (bo s) i o:=by
 funext k
 unfold bo dW
 simp only [SK]
 by_cases e:k=i
 ·subst e;rw [List.getElem?_set_self h];simp
 ·rw [TP (Ne.symm e),if_neg e]
theorem j2 (s:List Ob) (o:Ob):bo (s++ [o])=dW (bo s) s.length o:=by
 funext k
 unfold bo dW
 simp only [SK,Tx]
 by_cases e:k=s.length
 ·subst e;simp
 ·rw [if_neg e]
  split
  ·rfl
  ·rename_i h
   rw [SN (show s.length≤k by omega)]
   have: [o][k - s.length]? =none:=SN (by simp;omega)
   rw [this]
theorem rL {size:Nat} :∀ {ys nc:List D},aL ys=some nc→(∀(i:Nat) (x:D),ys[i]? =some x→∃cs,x.cells=some cs∧cs.length=size)→nc.length=ys.length*size∧
  ∀(i:Nat) (d:D),nc[i]? =some d→∃(q r:Nat) (x:D) (cs:List D),ys[q]? =some x∧x.cells=some cs∧cs[r]? =some d∧i=q*size+r
 | [],nc,h,_=>by
  simp only [aL,SL] at h
  subst h
  exact ⟨by simp,fun i d hd=>by simp at hd⟩
 |y::ys,nc,h,he=>by
  simp only [aL] at h
  split at h
  ·rename_i c cs hc LP
   obtain rfl:=SE h
   obtain ⟨c',NL,hlen⟩:=he 0 y rfl
   rw [hc] at NL
   obtain rfl:=SE NL
   obtain ⟨l1,g1⟩:=rL LP (fun i x hx=>he (i+1) x hx)
   refine ⟨by rw [SS,l1,hlen,SX,Nat.succ_mul];omega,fun i d hd=> ?_⟩
   rcases SY i c.length with hi|hi
   ·rw [List.getElem?_append_left hi] at hd
    exact ⟨0,i,y,c,rfl,hc,hd,by simp⟩
   ·rw [List.getElem?_append_right hi] at hd
    obtain ⟨q,r,x,cx,h1,h2,h3,h4⟩:=g1 _ d hd
    exact ⟨q+1,r,x,cx,h1,h2,h3,by rw [Nat.succ_mul];omega⟩
  ·cases h
theorem kr (M:MM):M.bare.Le M:=⟨fun _ _ _ h=>h,fun _ _ h=>(by cases h),fun _ _ _ h=>(by cases h),fun _ h=>h.elim⟩
theorem nY {M:MM} {size:Nat} {ys nc:List D} {arr:Array Value} (h:gI M size ys arr) (hc:aL ys=some nc):nc.length=ys.length*size∧
  ∀(i:Nat) (d:D) (v:Value),nc[i]? =some d→arr[i]? =some v→bk M d v:=by
 obtain ⟨h1,h2⟩:=rL hc h.elem
 refine ⟨h1,fun i d v hd hv=> ?_⟩
 obtain ⟨q,r,x,cs,a1,a2,a3,rfl⟩:=h2 i d hd
 obtain ⟨u,b1,b2⟩:=h.get q x cs r d a1 a2 a3
 rw [b1] at hv
 obtain rfl:=SE hv
 exact b2.mono (kr M)
section
variable {P:Program} {o:Oper} {ρ:Operand→D}
theorem wg {w0:dq} {w:World} {M:MM} {own:Nat→Option Nat} {σ:Nat→Ob} (hw:bw w0 M own σ w) {st xt LY rty e2:TypeId} {ts:Array TypeId} {args:Array Value} (ht:P.underlying st=some (.slice LY)) (hx:P.underlying xt=some (.slice e2)) (h0:ts[0]? =some st) (h1:ts[1]? =some xt)
  (hz:fg P LY=true) (Ma:P.bytesOf LY≤65536) {sz n Mb:Nat} {nc:List D} {u:Value} {a':Option Addr} {new:Array Value} (g0:args[0]? =some u) (g1:args[1]? =some (.slice a' n Mb)) (hu:bk M (.aj .tight sz []) u)
  (ns:new.size=n*P.cellsOf LY) (Mc:∀wd:World,(∀a,wd.cell? a=w.cell? a)→(Tm (P.cellsOf LY) n (.slice a' n Mb)).run P wd= .ok new wd) (c1:nc.length=n*P.cellsOf LY)
  (c2:∀(i:Nat) (d:D) (v:Value),nc[i]? =some d→new[i]? =some v→bk M d v) (hn:n≤cA) (Md:0<n) {id:Nat} (L9:M.box id=none) (hh:∀v,M.bl id v=none):
  ∃v M' LB w',(Tn ts rty args).run P w= .ok v w'∧M.Le M'∧bw w0 M' LB (dW σ id (.box nc)) w'∧bk M' (.cS id (P.cellsOf LY) n) v∧(∀j,j≠id→M'.box j=M.box j)∧∀j,j≠id→M'.bl j=M.bl j:=by
 obtain ⟨i,z,hi,hiz,OS,LO⟩:=gF hz
 have Mg:i.bytes≤65536:=by simpa [Program.bytesOf,hi] using Ma
 cases hu with
 |aj b off vs hl LH ha Nn hc0 hr LL ho=>
  rename_i a len cap
  have LM:bk M (.aj .tight sz []) (.slice a len cap):= .aj b off vs hl LH ha Nn hc0 hr LL ho
  have Pg:len=0:=by simpa using hl.symm
  have QV:cap=len:=ho
  subst Pg
  subst QV
  rw [LO] at ns Mc c1 ⊢
  obtain ⟨iJ,os,orow,NP,_⟩:=iO (P:=P) (size:=i.size) LM (.inr rfl) hw.cells
  have NX:0+n≤2147483648:=by rw [Ti];exact hn
  obtain ⟨_,r2⟩:=hQ (P:=P) (rty:=rty) ht hx h0 h1 hi hiz g0 g1 (NP w.drew fun _=>rfl) (Mc w fun _=>rfl) (Mc w.drew fun _=>rfl) Mg NX
  obtain ⟨n2,O6,LV⟩:=r2 (by omega)
  rw [Ti] at LV O6
  have hold:iJ= #[]:=TU (by rw [os];simp)
  subst hold
  let arr:= #[]++new++Builtin.zeroCells z.cells (n2 - n)
  have MH:arr.size=n2*i.size:=by
   simp only [arr,TW,size_zeroCells,ns,OS]
   simp only [List.size_toArray,S3,Ti]
   rw [← TL]
   congr 1;omega
  have hle:nc.length≤arr.size:=by rw [c1,MH];exact TD _ (by omega)
  have M4:∀(j:Nat) (d:D) (v:Value),nc[j]? =some d→arr[j]? =some v→bk M d v:=by
   intro j d v hd hv
   have hj:j<new.size:=by
    rw [ns,← c1]
    rcases SY j nc.length with q|q
    ·exact q
    ·simp [SN q] at hd
   refine c2 j d v hd ?_
   have:arr[j]? =new[j]? :=by
    simp only [arr]
    rw [Ts (by simpa using hj),Array.empty_append]
   rw [← this];exact hv
  have k:bw w0 (M.bc id w.heap.size) (eP own w.heap.size id) (dW σ id (.box nc)) (w.drew.alloc (.cells arr LY)):=hw.drew.qF (id:=id) L9 hh (cs:=nc) (vs:=arr) LY hle M4
  obtain ⟨b1,vs1,ty1,kb⟩:=k.box id nc (aU _ _ _)
  have eb:b1=w.heap.size:=by have:=kb.box;simp only [MM.bc,if_true] at this;exact (SE this).symm
  have Pc:vs1.size=arr.size:=by
   have h1:=kb.cy
   rw [eb] at h1
   have h2:(w.drew.alloc (.cells arr LY)).heap[w.heap.size]? =some (.cells arr LY (0,0)):=by
    show (w.heap.push _)[w.heap.size]? =_
    simp
   rw [h2] at h1
   have h3:=SE h1
   simp only [Obj.cells.injEq] at h3
   rw [← h3.1]
  have k2:=k.l3 (aU _ _ _) kb (sz:=i.size) (len:=n) (cap:=n2) (hh _) (by rw [Pc,MH];exact SP _)
  subst eb
  have NC:(M.bc id w.heap.size).Le ((M.bc id w.heap.size).aX id i.size (.slice (some ⟨w.heap.size,0,none⟩) n n2)):=MM.cY (hh _)
  refine ⟨_,_,_,_,LV,(MM.dw L9).trans NC,k2,?_,fun j hj=>by simp [MM.bc,MM.aX,hj],fun j hj=>by funext q;simp [MM.aX,MM.bc,hj]⟩
  exact .cS (b:=w.heap.size) (by simp [MM.bc,MM.aX]) (by simp [MM.aX]) (by omega)
theorem Bg {w0:dq} {w:World} {M:MM} {own:Nat→Option Nat} {σ:Nat→Ob} (hw:bw w0 M own σ w) {st xt LY rty e2:TypeId} {ts:Array TypeId} {args:Array Value} (ht:P.underlying st=some (.slice LY)) (hx:P.underlying xt=some (.slice e2)) (h0:ts[0]? =some st) (h1:ts[1]? =some xt)
  (hz:fg P LY=true) (Ma:P.bytesOf LY≤65536) {OQ:jI} {sz L4:Nat} {ys nc:List D} {u u':Value} (g0:args[0]? =some u) (g1:args[1]? =some u') (hu:bk M (.aj .tight sz []) u) (Pa:bk M (.aj OQ L4 ys) u')
  (OK:L4=P.cellsOf LY∨ys= []) (hn:ys.length≤cA) (ME:ys≠ []) (hc:aL ys=some nc) {id:Nat} (L9:M.box id=none) (hh:∀v,M.bl id v=none):
  ∃v M' LB w',(Tn ts rty args).run P w= .ok v w'∧M.Le M'∧bw w0 M' LB (dW σ id (.box nc)) w'∧bk M' (.cS id (P.cellsOf LY) ys.length) v∧(∀j,j≠id→M'.box j=M.box j)∧∀j,j≠id→M'.bl j=M.bl j:=by
 cases Pa with
 |aj b' off' vs' MG hcap' ha' hsize' NL Oo hst' Ow=>
  rename_i a' LJ Mb
  have NM:bk M (.aj OQ L4 ys) (.slice a' LJ Mb):= .aj b' off' vs' MG hcap' ha' hsize' NL Oo hst' Ow
  obtain ⟨new,ns,MK,Mc,M5⟩:=iO (P:=P) NM OK hw.cells
  obtain ⟨c1,c2⟩:=nY MK hc
  have Md:0<ys.length:=List.length_pos_iff.2 ME
  subst MG
  exact wg hw ht hx h0 h1 hz Ma g0 g1 hu ns Mc c1 c2 hn Md L9 hh
theorem nG {w0:dq} {w:World} {M:MM} {own:Nat→Option Nat} {σ:Nat→Ob} (hw:bw w0 M own σ w) {t off o2 n size c b:Nat} {cs nc:List D} (hb:M.box t=some b) (hσ:σ t= .box cs) (NU:n≠0→o2=off) (LD:(cs.drop off).take (n*size)=nc) (hle:off+n*size≤cs.length):
  ∃new:Array Value,new.size=n*size∧(∀wd:World,(∀a,wd.cell? a=w.cell? a)→(Tm size n (.slice (some ⟨b,o2,none⟩) n c)).run P wd= .ok new wd)∧nc.length=n*size∧∀(i:Nat) (d:D) (v:Value),nc[i]? =some d→new[i]? =some v→bk M d v:=by
 by_cases hn:n=0
 ·subst hn
  rw [Nat.zero_mul,List.take_zero] at LD
  subst LD
  refine ⟨#[],by simp,fun wd _=>by simp [Tm,loadCells,loadCellsFrom],by simp,fun i d v hd=>by simp at hd⟩
 obtain ⟨b2,vs,ty,kb⟩:=hw.box t cs hσ
 have eb:b2=b:=by have:=kb.box;rw [hb] at this;exact (SE this).symm
 subst eb
 obtain rfl:=NU hn
 have Rl:=kb.len
 refine ⟨vs.extract o2 (o2+n*size),by rw [Array.size_extract];omega,fun wd QK=> ?_,by rw [← LD,List.length_take,List.length_drop];omega,fun i d v hd hv=> ?_⟩
 ·have:=gP (P:=P) (w:=wd) b2 o2 (vs.extract o2 (o2+n*size)) (fun j v hj=>by
   rw [QK]
   rw [Array.getElem?_extract] at hj
   split at hj
   ·simp [TK,kb.cy,hj]
   ·cases hj)
  rw [show (vs.extract o2 (o2+n*size)).size=n*size by rw [Array.size_extract];omega] at this
  exact this
 ·rw [Array.getElem?_extract] at hv
  split at hv
  ·rename_i hi
   rw [← LD,T1,if_pos (by omega),List.getElem?_drop] at hd
   exact kb.rep _ d v hd hv
  ·cases hv
theorem qO {d:D} (h:isByte d=true):∃n,d= .int .u8 n:=by
 unfold isByte at h
 split at h
 ·exact ⟨_,rfl⟩
 ·cases h
theorem tx {M:MM} {nc:List D} {new:Array Value} (hl:nc.length=new.size) (h:nc.all isByte=true) (c2:∀(i:Nat) (d:D) (v:Value),nc[i]? =some d→new[i]? =some v→bk M d v):gI M 1 nc new∧∀v∈new.toList,v.oneCell'=true:=by
 have key:∀(i:Nat) (d:D),nc[i]? =some d→∃n,d= .int .u8 n∧new[i]? =some (.int .u8 n):=by
  intro i d hd
  obtain ⟨n,rfl⟩:=qO (Td.1 h d (Tb hd))
  have hi:i<new.size:=by rw [← hl];exact (List.getElem?_eq_some_iff.1 hd).1
  have e:=c2 i _ new[i] hd (by simp [hi])
  generalize hv:new[i]=v at e
  cases e
  exact ⟨n,rfl,by rw [Array.getElem?_eq_getElem hi,hv]⟩
 refine ⟨⟨by omega,fun i x hx=> ?_,fun i x cs j c hx LP hj=> ?_,fun i x cs c hx LP hc=> ?_⟩,fun v hv=> ?_⟩
 ·obtain ⟨n,rfl,_⟩:=key i x hx
  exact ⟨_,rfl,rfl⟩
 ·obtain ⟨n,rfl,hn⟩:=key i x hx
  simp only [D.cells,SL] at LP
  subst LP
  cases j with
  |zero=>
   simp only [TA,SL] at hj
   subst hj
   exact ⟨_,by rw [T3,TZ];exact hn,.int _ _⟩
  |succ j=>simp at hj
 ·obtain ⟨n,rfl,_⟩:=key i x hx
  simp only [D.cells,SL] at LP
  subst LP
  rw [List.mem_singleton] at hc
  subst hc
  rfl
 ·obtain ⟨i,hi,rfl⟩:=List.getElem_of_mem hv
  rw [Tl,← hl] at hi
  obtain ⟨n,_,hn⟩:=key i nc[i] (List.getElem?_eq_getElem hi)
  rw [Array.getElem_toList]
  have:=(Array.getElem?_eq_some_iff.1 hn).2
  rw [this]
  rfl
theorem CO {w0:dq} {w:World} {M:MM} {own:Nat→Option Nat} {σ:Nat→Ob} (hw:bw w0 M own σ w) {st xt LY rty e2:TypeId} {ts:Array TypeId} {args:Array Value} (ht:P.underlying st=some (.slice LY)) (hx:P.underlying xt=some (.slice e2)) (h0:ts[0]? =some st) (h1:ts[1]? =some xt)
  (hz:fg P LY=true) (Ma:P.bytesOf LY≤65536) {OQ:jI} {t n L4:Nat} {cs ys nc:List D} {u u':Value} (g0:args[0]? =some u) (g1:args[1]? =some u') (hu:bk M (.cS t (P.cellsOf LY) n) u) (Pa:bk M (.aj OQ L4 ys) u')
  (OK:L4=P.cellsOf LY∨ys= []) (hn:n+ys.length≤cA) (hc:aL ys=some nc) (hσ:σ t= .box cs) (LP:cs.length=n*P.cellsOf LY) {id:Nat} (L9:M.box id=none) (hh:∀v,M.bl id v=none):
  ∃v M' LB w',(Tn ts rty args).run P w= .ok v w'∧M.Le M'∧bw w0 M' LB (dW (dW σ t .dead) id (.box (cs++nc))) w'∧bk M' (.cS id (P.cellsOf LY) (n+ys.length)) v∧(∀j,j≠id→M'.box j=M.box j)∧∀j,j≠id→M'.bl j=M.bl j:=by
 obtain ⟨i,z,hi,hiz,OS,LO⟩:=gF hz
 have Mg:i.bytes≤65536:=by simpa [Program.bytesOf,hi] using Ma
 rw [LO] at hu OK LP ⊢
 cases hu with
 |cS hb MZ LH=>
  rename_i b cap
  obtain ⟨b2,vs,ty,kb⟩:=hw.box t cs hσ
  have eb:b2=b:=by have:=kb.box;rw [hb] at this;exact (SE this).symm
  subst eb
  have Ml:=kb.room _ _ _ _ MZ
  cases Pa with
  |aj b' off' vs' MG hcap' ha' hsize' NL Oo hst' Ow=>
   rename_i a' LJ Mb
   have NM:bk M (.aj OQ L4 ys) (.slice a' LJ Mb):= .aj b' off' vs' MG hcap' ha' hsize' NL Oo hst' Ow
   obtain ⟨new,ns,MK,Mc,M5⟩:=iO (P:=P) NM OK hw.cells
   have hnle:n*i.size≤vs.size:=Nat.le_trans (TD _ LH) Ml
   let iJ:=vs.extract 0 (n*i.size)
   have PV:iJ.size=n*i.size:=by simp [iJ,Array.size_extract];omega
   have Sh:∀j,j<n*i.size→iJ[j]? =vs[j]? :=by
    intro j hj
    simp only [iJ,Array.getElem?_extract]
    rw [if_pos (by omega),Ti]
   have NP:∀wd:World,(∀a,wd.cell? a=w.cell? a)→(Tm i.size n (.slice (some ⟨b2,0,none⟩) n cap)).run P wd= .ok iJ wd:=by
    intro wd QK
    have:=gP (P:=P) (w:=wd) b2 0 iJ (fun j v hj=>by
     rw [QK]
     have N2:j<n*i.size:=by
      rw [← PV]
      rcases SY j iJ.size with q|q
      ·exact q
      ·simp [Tk q] at hj
     rw [Sh j N2] at hj
     simp [TK,kb.cy,hj])
    rw [PV] at this
    exact this
   have NX:n+LJ≤2147483648:=by rw [← MG];exact hn
   obtain ⟨r1,r2⟩:=hQ (P:=P) (rty:=rty) ht hx h0 h1 hi hiz g0 g1 (NP w.drew fun _=>rfl) (Mc w fun _=>rfl) (Mc w.drew fun _=>rfl) Mg NX
   obtain ⟨c1,c2⟩:=nY MK hc
   have Pq:new.toList.length=LJ*i.size:=by rw [Tl,ns,MG]
   rcases SY cap (n+LJ) with LN|hge
   ·
    obtain ⟨n2,O6,LV⟩:=r2 LN
    let arr:=iJ++new++Builtin.zeroCells z.cells (n2 - (n+LJ))
    have MH:arr.size=n2*i.size:=by
     simp only [arr,TW,size_zeroCells,ns,OS,MG,PV,← TL]
     congr 1;omega
    have hle:(cs++nc).length≤arr.size:=by rw [SS,LP,c1,MG,MH,← TL];exact TD _ (by omega)
    have M4:∀(j:Nat) (d:D) (v:Value),(cs++nc)[j]? =some d→arr[j]? =some v→bk M d v:=by
     intro j d v hd hv
     rcases SY j cs.length with hj|hj
     ·rw [List.getElem?_append_left hj] at hd
      have Qr:j<n*i.size:=by rw [← LP];exact hj
      have e:arr[j]? =iJ[j]? :=by
       simp only [arr]
       rw [Ts (by rw [TW,PV];omega),Ts (by rw [PV];exact Qr)]
      rw [e,Sh j Qr] at hv
      exact kb.rep j d v hd hv
     ·rw [List.getElem?_append_right hj] at hd
      have Qv:j - cs.length<nc.length:=by
       rcases SY (j - cs.length) nc.length with q|q
       ·exact q
       ·simp [SN q] at hd
      have e:arr[j]? =new[j - cs.length]? :=by
       simp only [arr]
       rw [Ts (by rw [TW,PV,ns,MG];rw [c1,MG] at Qv;rw [LP] at hj Qv;omega),Array.getElem?_append_right (by rw [PV,← LP];exact hj),PV,LP]
      rw [e] at hv
      exact c2 _ d v hd hv
    have k:bw w0 (M.bc id w.heap.size) (eP own w.heap.size id) (dW (dW σ t .dead) id (.box (cs++nc))) (w.drew.alloc (.cells arr LY)):=(hw.drew.kill t).qF (id:=id) L9 hh (cs:=cs++nc) (vs:=arr) LY hle M4
    obtain ⟨b1,vs1,ty1,kb1⟩:=k.box id (cs++nc) (aU _ _ _)
    have eb:b1=w.heap.size:=by have:=kb1.box;simp only [MM.bc,if_true] at this;exact (SE this).symm
    have Pc:vs1.size=arr.size:=by
     have h1:=kb1.cy
     rw [eb] at h1
     have h2:(w.drew.alloc (.cells arr LY)).heap[w.heap.size]? =some (.cells arr LY (0,0)):=by
      show (w.heap.push _)[w.heap.size]? =_
      simp
     rw [h2] at h1
     have h3:=SE h1
     simp only [Obj.cells.injEq] at h3
     rw [← h3.1]
    have k2:=k.l3 (aU _ _ _) kb1 (sz:=i.size) (len:=n+LJ) (cap:=n2) (hh _) (by rw [Pc,MH];exact SP _)
    subst eb
    have NC:(M.bc id w.heap.size).Le ((M.bc id w.heap.size).aX id i.size (.slice (some ⟨w.heap.size,0,none⟩) (n+LJ) n2)):=MM.cY (hh _)
    refine ⟨_,_,_,_,LV,(MM.dw L9).trans NC,k2,?_,fun j hj=>by simp [MM.bc,MM.aX,hj],fun j hj=>by funext q;simp [MM.aX,MM.bc,hj]⟩
    rw [MG]
    exact .cS (b:=w.heap.size) (by simp [MM.bc,MM.aX]) (by simp [MM.aX]) (by omega)
   ·
    have LV:=r1 hge
    have MX:n*i.size+new.toList.length≤vs.size:=by
     rw [Pq,← TL];exact Nat.le_trans (TD _ hge) Ml
    have M3:=eE (P:=P) (b:=b2) (off:=n*i.size) new.toList 0 w vs kb.cy M5 (by simpa using MX) (fun o _ h=>by have:=h.2;simp at this)
    rw [TZ] at M3
    let vs2:=cU vs (n*i.size) new.toList
    have Ot:vs2.size=vs.size:=dc _ _ _
    have M4:∀(j:Nat) (d:D) (v:Value),(cs++nc)[j]? =some d→vs2[j]? =some v→bk M d v:=by
     intro j d v hd hv
     simp only [vs2] at hv
     rw [fe _ _ _ _ MX] at hv
     rcases SY j cs.length with hj|hj
     ·rw [List.getElem?_append_left hj] at hd
      rw [if_neg (by rw [LP] at hj;omega)] at hv
      exact kb.rep j d v hd hv
     ·rw [List.getElem?_append_right hj] at hd
      have Qv:j - cs.length<nc.length:=by
       rcases SY (j - cs.length) nc.length with q|q
       ·exact q
       ·simp [SN q] at hd
      rw [c1,MG] at Qv
      rw [LP] at hj Qv hd
      rw [if_pos ⟨hj,by rw [Pq];omega⟩] at hv
      exact c2 _ d v hd (by simpa using hv)
    have hle:(cs++nc).length≤vs2.size:=by rw [SS,LP,c1,MG,Ot,← Pq];exact MX
    have k:=hw.AF kb L9 hh hle M4
    obtain ⟨b1,vs1,ty1,kb1⟩:=k.box id (cs++nc) (aU _ _ _)
    have eb:b1=b2:=by have:=kb1.box;simp only [MM.bc,if_true] at this;exact (SE this).symm
    subst eb
    have Pc:vs1.size=vs.size:=by
     have h1:=kb1.cy
     rw [dI kb.cy] at h1
     have h3:=SE h1
     simp only [Obj.cells.injEq] at h3
     rw [← h3.1,Ot]
    have k2:=k.l3 (aU _ _ _) kb1 (sz:=i.size) (len:=n+LJ) (cap:=cap) (hh _) (by rw [Pc];exact Ml)
    have NC:(M.bc id b1).Le ((M.bc id b1).aX id i.size (.slice (some ⟨b1,0,none⟩) (n+LJ) cap)):=MM.cY (hh _)
    refine ⟨.slice (some ⟨b1,0,none⟩) (n+LJ) cap,_,_,bh w b1 (.cells vs2 ty (0,0)),?_,(MM.dw L9).trans NC,k2,?_,fun j hj=>by simp [MM.bc,MM.aX,hj],fun j hj=>by funext q;simp [MM.aX,MM.bc,hj]⟩
    ·rw [LV]
     simp only [eM,Ti,SZ,M3,SO,S9]
     rfl
    ·rw [MG]
     exact .cS (b:=b1) (by simp [MM.bc,MM.aX]) (by simp [MM.aX]) hge
theorem CL {w0:dq} {w:World} {M:MM} {own:Nat→Option Nat} {σ:Nat→Ob} (hw:bw w0 M own σ w) {st xt LY rty e2:TypeId} {ts:Array TypeId} {args:Array Value} (ht:P.underlying st=some (.slice LY)) (hx:P.underlying xt=some (.slice e2)) (h0:ts[0]? =some st) (h1:ts[1]? =some xt)
  (hz:fg P LY=true) (Ma:P.bytesOf LY≤65536) {t n n2 NJ Qt Ng:Nat} {RW:Option Nat} {cs nc OM:List D} {u u':Value} (g0:args[0]? =some u) (g1:args[1]? =some u') (hu:bk M (.sub t 0 Qt n (some n)) u) (Pa:bk M (.sub t NJ Ng n2 RW) u')
  (hn:n+n2≤cA) (Md:0<n+n2) (hσ:σ t= .box cs) (hg:(cs.drop 0).take (n*P.cellsOf LY)=nc) (Sb:0+n*P.cellsOf LY≤cs.length) (Qh:(cs.drop NJ).take (n2*P.cellsOf LY)=OM) (Q5:NJ+n2*P.cellsOf LY≤cs.length) {id:Nat} (L9:M.box id=none) (hh:∀v,M.bl id v=none):
  ∃v M' LB w',(Tn ts rty args).run P w= .ok v w'∧M.Le M'∧bw w0 M' LB (dW (dW σ t .dead) id (.box (nc++OM))) w'∧bk M' (.cS id (P.cellsOf LY) (n+n2)) v∧(∀j,j≠id→M'.box j=M.box j)∧∀j,j≠id→M'.bl j=M.bl j:=by
 obtain ⟨i,z,hi,hiz,OS,LO⟩:=gF hz
 have Mg:i.bytes≤65536:=by simpa [Program.bytesOf,hi] using Ma
 rw [LO] at hg Sb Qh Q5 ⊢
 cases hu with
 |sub hb hc hp ho=>
  rename_i b o2 cap
  obtain rfl:=hp n rfl
  cases Pa with
  |sub hb' NL Sa Ow=>
   rename_i b' o2' Mb
   obtain ⟨iJ,os,NP,oc1,oc2⟩:=nG (P:=P) (c:=cap) hw hb hσ ho hg Sb
   obtain ⟨new,ns,Mc,c1,c2⟩:=nG (P:=P) (c:=Mb) hw hb' hσ Ow Qh Q5
   obtain ⟨b2,vs,ty,kb⟩:=hw.box t cs hσ
   have eb:b2=b:=by have:=kb.box;rw [hb] at this;exact (SE this).symm
   subst eb
   have Rl:=kb.len
   have NX:cap+n2≤2147483648:=hn
   obtain ⟨r1,r2⟩:=hQ (P:=P) (rty:=rty) ht hx h0 h1 hi hiz g0 g1 (NP w.drew fun _=>rfl) (Mc w fun _=>rfl) (Mc w.drew fun _=>rfl) Mg NX
   by_cases O6:n2=0
   ·
    subst O6
    have hnz:cap≠0:=by omega
    obtain rfl:=ho hnz
    have Mq:new= #[]:=TU (by rw [ns];simp)
    have RM:OM= []:=List.eq_nil_of_length_eq_zero (by rw [c1];simp)
    subst Mq
    subst RM
    have LV:=r1 (SP _)
    have M3:=eE (P:=P) (b:=b2) (off:=cap*i.size) (#[]:Array Value).toList 0 w vs kb.cy (fun v hv=>by simp at hv) (by simp;omega) (fun o _ h=>by have:=h.2;simp at this)
    rw [TZ] at M3
    let vs2:=cU vs (cap*i.size) (#[]:Array Value).toList
    have Ot:vs2.size=vs.size:=dc _ _ _
    have M4:∀(j:Nat) (d:D) (v:Value),(nc++ [])[j]? =some d→vs2[j]? =some v→bk M d v:=by
     intro j d v hd hv
     simp only [vs2] at hv
     rw [fe _ _ _ _ (by simp;omega)] at hv
     rw [if_neg (by simp)] at hv
     rw [T0,← hg,T1,Tw] at hd
     split at hd
     ·exact kb.rep j d v hd hv
     ·cases hd
    have hle:(nc++ []).length≤vs2.size:=by rw [T0,oc1,Ot];omega
    have k:=hw.AF kb L9 hh hle M4
    obtain ⟨b1,vs1,ty1,kb1⟩:=k.box id (nc++ []) (aU _ _ _)
    have eb:b1=b2:=by have:=kb1.box;simp only [MM.bc,if_true] at this;exact (SE this).symm
    subst eb
    have Pc:vs1.size=vs.size:=by
     have h1:=kb1.cy
     rw [dI kb.cy] at h1
     have h3:=SE h1
     simp only [Obj.cells.injEq] at h3
     rw [← h3.1,Ot]
    have k2:=k.l3 (aU _ _ _) kb1 (sz:=i.size) (len:=cap+0) (cap:=cap) (hh _) (by rw [Pc];omega)
    have NC:(M.bc id b1).Le ((M.bc id b1).aX id i.size (.slice (some ⟨b1,0,none⟩) (cap+0) cap)):=MM.cY (hh _)
    refine ⟨.slice (some ⟨b1,0,none⟩) (cap+0) cap,_,_,bh w b1 (.cells vs2 ty (0,0)),?_,(MM.dw L9).trans NC,k2,?_,fun j hj=>by simp [MM.bc,MM.aX,hj],fun j hj=>by funext q;simp [MM.aX,MM.bc,hj]⟩
    ·rw [LV]
     simp only [eM,Ti,SZ,M3,SO,S9]
     rfl
    ·exact .cS (b:=b1) (by simp [MM.bc,MM.aX]) (by simp [MM.aX]) (SP _)
   ·
    obtain ⟨n3,hn3,LV⟩:=r2 (by omega)
    let arr:=iJ++new++Builtin.zeroCells z.cells (n3 - (cap+n2))
    have MH:arr.size=n3*i.size:=by
     simp only [arr,TW,size_zeroCells,ns,OS,os,← TL]
     congr 1;omega
    have hle:(nc++OM).length≤arr.size:=by rw [SS,oc1,c1,MH,← TL];exact TD _ (by omega)
    have M4:∀(j:Nat) (d:D) (v:Value),(nc++OM)[j]? =some d→arr[j]? =some v→bk M d v:=by
     intro j d v hd hv
     rcases SY j nc.length with hj|hj
     ·rw [List.getElem?_append_left hj] at hd
      have e:arr[j]? =iJ[j]? :=by
       simp only [arr]
       rw [Ts (by rw [TW,os,← oc1];omega),Ts (by rw [os,← oc1];exact hj)]
      rw [e] at hv
      exact oc2 j d v hd hv
     ·rw [List.getElem?_append_right hj] at hd
      have Qv:j - nc.length<OM.length:=by
       rcases SY (j - nc.length) OM.length with q|q
       ·exact q
       ·simp [SN q] at hd
      have e:arr[j]? =new[j - nc.length]? :=by
       simp only [arr]
       rw [Ts (by rw [TW,os,ns,← oc1,← c1];omega),Array.getElem?_append_right (by rw [os,← oc1];exact hj),os,← oc1]
      rw [e] at hv
      exact c2 _ d v hd hv
    have k:bw w0 (M.bc id w.heap.size) (eP own w.heap.size id) (dW (dW σ t .dead) id (.box (nc++OM))) (w.drew.alloc (.cells arr LY)):=(hw.drew.kill t).qF (id:=id) L9 hh (cs:=nc++OM) (vs:=arr) LY hle M4
    obtain ⟨b1,vs1,ty1,kb1⟩:=k.box id (nc++OM) (aU _ _ _)
    have eb:b1=w.heap.size:=by have:=kb1.box;simp only [MM.bc,if_true] at this;exact (SE this).symm
    have Pc:vs1.size=arr.size:=by
     have h1:=kb1.cy
     rw [eb] at h1
     have h2:(w.drew.alloc (.cells arr LY)).heap[w.heap.size]? =some (.cells arr LY (0,0)):=by
      show (w.heap.push _)[w.heap.size]? =_
      simp
     rw [h2] at h1
     have h3:=SE h1
     simp only [Obj.cells.injEq] at h3
     rw [← h3.1]
    have k2:=k.l3 (aU _ _ _) kb1 (sz:=i.size) (len:=cap+n2) (cap:=n3) (hh _) (by rw [Pc,MH];exact SP _)
    subst eb
    have NC:(M.bc id w.heap.size).Le ((M.bc id w.heap.size).aX id i.size (.slice (some ⟨w.heap.size,0,none⟩) (cap+n2) n3)):=MM.cY (hh _)
    refine ⟨_,_,_,_,LV,(MM.dw L9).trans NC,k2,?_,fun j hj=>by simp [MM.bc,MM.aX,hj],fun j hj=>by funext q;simp [MM.aX,MM.bc,hj]⟩
    exact .cS (b:=w.heap.size) (by simp [MM.bc,MM.aX]) (by simp [MM.aX]) (by omega)
end
def MM.yN (M:MM) (b n:Nat) (vs:Array Value):MM:=M.bK b fun o=>if o<n then vs[o]? else none
theorem MM.Ff {M:MM} {b n:Nat} {vs:Array Value} (h:∀o,M.cell b o=none):M.Le (M.yN b n vs):=by
 refine ⟨fun c o v hc=> ?_,fun _ _ x=>x,fun _ _ _ x=>x,fun _ x=>x⟩
 have:c≠b:=fun e=>by rw [e,h o] at hc;cases hc
 simp only [MM.yN,MM.bK,this,if_false]
 exact hc
theorem bw.freeze {w0:dq} {w:World} {M:MM} {own:Nat→Option Nat} {σ:Nat→Ob} (h:bw w0 M own σ w) {id b n:Nat} {cs:List D} {vs:Array Value} {ty:TypeId} (k:pf w0 M own id cs w b vs ty):
  bw w0 (M.yN b n vs) own (dW σ id .dead) w:=by
 have le:M.Le (M.yN b n vs):=MM.Ff k.none
 have ME:∀ {i c:Nat},own c=some i→i≠id→c≠b:=fun hi e ec=>by rw [ec,k.own] at hi;exact e (SE hi).symm
 have MY:∀ {c o:Nat},c≠b→M.cell c o=none→(M.yN b n vs).cell c o=none:=fun hc hn=>by simp only [MM.yN,MM.bK,hc,if_false];exact hn
 refine ⟨h.below,?_,?_,h.owned,?_,?_,?_,?_,h.eB⟩
 ·intro c o v hc
  by_cases e:c=b
  ·subst e
   simp only [MM.yN,MM.bK,if_true] at hc
   split at hc
   ·simp [TK,k.cy,hc]
   ·cases hc
  ·simp only [MM.yN,MM.bK,e,if_false] at hc
   exact h.cells c o v hc
 ·intro c o v hc LN
  have e:c≠b:=fun e=>k.base (e▸LN)
  simp only [MM.yN,MM.bK,e,if_false] at hc
  exact h.iJ c o v hc LN
 ·intro i Ov hi
  by_cases e:i=id
  ·rw [e,aU] at hi;cases hi
  ·rw [aW e] at hi
   obtain ⟨c,vs2,ty2,k2⟩:=h.box i Ov hi
   exact ⟨c,vs2,ty2,k2.box,k2.base,k2.own,fun o=>MY (ME k2.own e) (k2.none o),k2.cy,k2.len,fun j d v a b=>(k2.rep j d v a b).mono le,k2.room⟩
 ·intro i ver sz hi
  by_cases e:i=id
  ·rw [e,aU] at hi;cases hi
  ·rw [aW e] at hi
   obtain ⟨a,len,cap,k2⟩:=h.bO i ver sz hi
   refine ⟨a,len,cap,k2.bl,k2.last,?_⟩
   rcases k2.room with r|⟨c,vs2,ty2,fz,ha,r⟩
   ·exact .inl r
   ·exact .inr ⟨c,vs2,ty2,fz,ha,r.base,r.own,r.cy,r.fz,r.cap,fun o ho=>MY (ME r.own e) (r.none o ho)⟩
 ·intro i F hi
  by_cases e:i=id
  ·rw [e,aU] at hi;cases hi
  ·rw [aW e] at hi
   obtain ⟨c,LF,clock,q⟩:=h.mp i F hi
   exact ⟨c,LF,clock,q.box,q.base,q.own,fun o=>MY (ME q.own e) (q.none o),q.cy,q.fits⟩
 ·intro i k2 t ps ag bd hi
  by_cases e:i=id
  ·rw [e,aU] at hi;cases hi
  ·rw [aW e] at hi
   obtain ⟨l,r,q⟩:=h.lp i k2 t ps ag bd hi
   exact ⟨l,r,q.aD le q.own q.cy⟩
def rows (sz:Nat):Nat→List D→List D
  |0,_=> []
  |n+1,cs=> .agg (cs.take sz)::rows sz n (cs.drop sz)
theorem D4 {w0:dq} {w:World} {M:MM} {own:Nat→Option Nat} {id b n cap:Nat} {cs:List D} {vs:Array Value} {ty:TypeId} (k:pf w0 M own id cs w b vs ty) (hl:cs.length=n) (LH:n≤cap) (hb:cs.all isByte=true):
  bk (M.yN b cs.length vs) (.aj .no 1 cs) (.slice (some ⟨b,0,none⟩) n cap):=by
 have key:∀ {i:Nat} {x:D},cs[i]? =some x→i<cs.length∧∃m,x= .int .u8 m∧vs[i]? =some (.int .u8 m):=by
  intro i x h
  obtain ⟨LN,_⟩:=List.getElem?_eq_some_iff.1 h
  rw [Td] at hb
  obtain ⟨m,rfl⟩:=qO (hb x (Tb h))
  obtain ⟨v,hv,hr⟩:=lL k.len k.rep h
  cases hr
  exact ⟨LN,m,rfl,hv⟩
 refine .aj b 0 (fun i j=>vs.getD (i*1+j) .nilFunc) hl LH (fun _=>rfl) ?_ ?_ ?_ ?_ trivial
 ·intro i x h1
  obtain ⟨LN,m,rfl,hv⟩:=key h1
  exact ⟨_,rfl,rfl⟩
 ·intro i x c' j c h1 h2 h3
  obtain ⟨LN,m,rfl,hv⟩:=key h1
  simp only [D.cells,SL] at h2
  subst h2
  cases j with
  |zero=>simp only [MM.yN,MM.bK,if_true,Ti,T3,TZ,if_pos LN,Tc,hv,Ty]
  |succ j=>simp at h3
 ·intro i x c' j c h1 h2 h3
  obtain ⟨LN,m,rfl,hv⟩:=key h1
  simp only [D.cells,SL] at h2
  subst h2
  cases j with
  |zero=>
   simp only [TA,SL] at h3
   subst h3
   simp only [T3,TZ,Tc,hv,Ty]
   exact .int _ _
  |succ j=>simp at h3
 ·intro i x c' c h1 h2 h3
  obtain ⟨LN,m,rfl,hv⟩:=key h1
  simp only [D.cells,SL] at h2
  subst h2
  rw [List.mem_singleton] at h3
  subst h3
  rfl
theorem af.yN {P:Program} {f:FuncId} {args:List D} {s s':List Ob} {id n:Nat} {cs:List D} (h:af P f args s (.cS id 1 n) s') (hs:s'.getD id .dead= .box cs) (hl:cs.length=n) (hb:cs.all isByte=true):
  af P f args s (.aj .no 1 cs) (s'.set id .dead):=by
 have LN:id<s'.length:=by
  rcases SY id s'.length with q|q
  ·exact q
  ·rw [SK,SN q] at hs;cases hs
 refine ⟨h.FB,by rw [Tj];exact h.len,fun w0 M own w vs hw Na hr=>Calls.mono (h.run w0 M own w vs hw Na hr) ?_⟩
 rintro e w' ⟨v,M',LB,rfl,q1,q2,q3,q4⟩
 cases q4 with
 |cS N8 MZ LH=>
  rename_i b cap
  obtain ⟨b2,vb,ty,kb⟩:=q1.box id cs hs
  have eb:b2=b:=by have:=kb.box;rw [N8] at this;exact (SE this).symm
  subst eb
  refine ⟨_,M'.yN b2 cs.length vb,LB,rfl,?_,?_,q3.trans (MM.Ff kb.none),D4 kb hl LH hb⟩
  ·rw [lD LN];exact q1.freeze (n:=cs.length) kb
  ·rw [Tj];exact q2
section
variable {ρ':Type} {P:Program} {r:ρ'} {o:Oper} {ρ:Operand→D}
theorem foldl_push (l:List D) (h:l.all isByte=true):∃ns:List Int,l=ns.map (fun n=>D.int .u8 n)∧jZ l=ns.foldl (fun r n=>r.push (UInt8.ofNat n.toNat)) ByteArray.empty:=by
 have key:∀(l:List D) (s:ByteArray),l.all isByte=true→∃ns:List Int,l=ns.map (fun n=>D.int .u8 n)∧(⟨s.data++(l.map byteOf).toArray⟩:ByteArray)=ns.foldl (fun r n=>r.push (UInt8.ofNat n.toNat)) s:=by
  intro l
  induction l with
  |nil=>intro s _;exact ⟨[],rfl,by simp⟩
  |cons d t ih=>
   intro s h
   rw [List.all_cons,SG] at h
   obtain ⟨n,rfl⟩:∃n,d= .int .u8 n:=by
    have h1:=h.1
    unfold isByte at h1
    split at h1
    ·exact ⟨_,rfl⟩
    ·cases h1
   obtain ⟨ns,e1,e2⟩:=ih (s.push (UInt8.ofNat n.toNat)) h.2
   refine ⟨n::ns,by simp [e1],?_⟩
   rw [List.foldl_cons,← e2]
   congr 1
   apply Array.ext'
   simp [byteOf,ByteArray.push]
 obtain ⟨ns,e1,e2⟩:=key l ByteArray.empty h
 refine ⟨ns,e1,?_⟩
 rw [← e2]
 unfold jZ
 congr 1
 apply Array.ext'
 simp [ByteArray.empty,ByteArray.emptyWithCapacity]
 rfl
theorem Dg {z:Z P} {src dst:TypeId} {x:Operand} {K:Z P→iM→Option ρ'} (ho:o.op= .convert src dst x) (h:FG P z src dst (ρ x) K=some r):
  ∃e z',K z' e=some r∧(z'.c→z.c∧eD P o ρ e)∧((∃d,e= .pure d)∨∃q m,e= .new q m):=by
 unfold FG at h
 split at h
 ·rename_i hs hd hx
  refine ⟨_,z,h,fun c=>⟨c,bH fun M w a _ hr=> ?_⟩,.inl ⟨_,rfl⟩⟩
  have h1:=cC (hr x (by simp [ho,SQ])) hx
  rename_i d k _ n _
  exact ⟨.int _ _,by simp [execOp,ho,h1,convert,run_underlying hs,run_underlying hd,Conv.intToInt],.int _ _⟩
 ·rename_i hs hd hx
  refine ⟨_,z,h,fun c=>⟨c,bH fun M w a _ hr=> ?_⟩,.inl ⟨_,rfl⟩⟩
  have h1:=hr x (by simp [ho,SQ])
  rw [hx] at h1
  generalize hv:a.eval x=v at h1
  cases h1
  exact ⟨.string _,by simp [execOp,ho,hv,convert,run_underlying hs,run_underlying hd],.str _⟩
 ·rename_i e s hs hd hx
  split at h
  ·rename_i he
   refine ⟨_,z,h,fun c=>⟨c,?_⟩,.inr ⟨_,_,rfl⟩⟩
   intro w0 M own σ w a id hw hr LQ next Q hn
   have h1:=hr x (by simp [ho,SQ])
   rw [hx] at h1
   generalize hv:a.eval x=v at h1
   cases h1
   let cap:=grownCap w s.size 0 e
   have LH:s.size≤cap:=grownCap_ge w _ _ _
   let arr:Array Value:=(s.data.map fun b=>Value.int .u8 b.toNat)++Array.replicate (cap - s.size) (.int .u8 0)
   have RZ:s.data.size=s.size:=rfl
   have MH:arr.size=cap:=by simp [arr,RZ];omega
   have NQ:gI M 1 (jE s) arr:=by
    have hb:∀ {i:Nat} {x:D},(jE s)[i]? =some x→∃c,s.data[i]? =some c∧x=xw c:=by
     intro i x hi
     unfold jE at hi
     rw [SW,SU] at hi
     obtain ⟨c,hc,rfl⟩:=hi
     exact ⟨c,by simpa using hc,rfl⟩
    refine ⟨?_,?_,?_,?_⟩
    ·rw [MH,T3];simp [jE,RZ];exact LH
    ·intro i x hi
     obtain ⟨c,_,rfl⟩:=hb hi
     exact ⟨[xw c],rfl,rfl⟩
    ·intro i x cs j c hi LP hj
     obtain ⟨b,Nq,rfl⟩:=hb hi
     simp only [xw,D.cells,SL] at LP
     subst LP
     cases j with
     |succ j=>simp at hj
     |zero=>
      simp at hj
      subst hj
      refine ⟨.int .u8 b.toNat,?_,.int _ _⟩
      have LN:i<s.data.size:=by
       rcases SY i s.data.size with q|q
       ·exact q
       ·simp [Tk q] at Nq
      simp only [arr,T3,TZ]
      rw [Ts (by simpa using LN)]
      simp [Nq]
    ·intro i x cs c hi LP L7
     obtain ⟨b,_,rfl⟩:=hb hi
     simp only [xw,D.cells,SL] at LP
     subst LP
     simp at L7
     subst L7
     rfl
   have hlen:(jE s).length=s.size:=by simp [jE,RZ]
   have OC:=pL (M:=M) (w:=w) (wd:=w.drew) (arr:=arr) (ty:=e) (n:=s.size) hw.cells rfl (Below.refl _ _).drew (arr.size,arr.size+1)
   obtain ⟨Od,NC⟩:=hw.ext OC rfl rfl rfl
   have Pn:(w.drew.alloc (.cells arr e (arr.size,arr.size+1))).heap[w.heap.size]? =some (.cells arr e (arr.size,arr.size+1)):=by
    show (w.heap.push _)[w.heap.size]? =_
    simp
   have Nm:own w.heap.size=none:=by
    cases e:own w.heap.size with
    |none=>rfl
    |some q=>have:=hw.owned _ _ e;omega
   obtain ⟨LB,hw3⟩:=Od.qm (id:=id) (ver:=0) (fun v _=>LQ.2 v) (a:=some ⟨w.heap.size,0,none⟩) (len:=s.size) (cap:=cap) 1
    (.inr ⟨w.heap.size,arr,e,(arr.size,arr.size+1),rfl,hw.below.new,.inl Nm,Pn,fun o ho h=>by have:=h.1;simp at this;omega,by rw [MH];omega,fun o ho=>by
     simp only [MM.lay,MM.bK,if_true];rw [if_neg (by omega)]⟩)
   have Ok:=MM.cY (M:=M.lay w.heap.size arr s.size) (id:=id) (ver:=0) (v:= .slice (some ⟨w.heap.size,0,none⟩) s.size cap) (LQ.2 0)
   refine cT (v:= .slice (some ⟨w.heap.size,0,none⟩) s.size cap) (w':=w.drew.alloc (.cells arr e (arr.size,arr.size+1))) ?_ (hn _ _ LB _ (NC.trans Ok) ⟨fun _ _=>rfl,fun j hj=>by funext k;simp [MM.aX,hj,MM.lay,MM.bK]⟩ hw3 ?_)
   ·have P3:(w.drew.alloc (.cells arr e)).freeze ⟨w.heap.size,arr.size,none⟩ 1=w.drew.alloc (.cells arr e (arr.size,arr.size+1)):=by
     unfold World.freeze World.alloc
     simp only [Nat.one_ne_zero,if_false]
     congr 1
     apply Array.ext_getElem?
     intro k
     rw [Array.getElem?_modify]
     by_cases e1:w.heap.size=k
     ·subst e1
      rw [if_pos rfl]
      show Option.map _ ((w.heap.push _)[w.heap.size]?)=(w.heap.push _)[w.heap.size]?
      simp
     ·rw [if_neg e1]
      show (w.heap.push _)[k]? =(w.heap.push _)[k]?
      rw [Array.getElem?_push,Array.getElem?_push,if_neg (Ne.symm e1),if_neg (Ne.symm e1)]
    have P0:(w.drew.alloc (.cells arr e)).shape? w.heap.size=some (e,arr.size):=by
     unfold World.shape?
     have:(w.drew.alloc (.cells arr e)).heap[w.heap.size]? =some (.cells arr e):=by
      show (w.heap.push _)[w.heap.size]? =_
      simp
     rw [this]
    have Py:(Question.appendCap s.size 0 e).forced=false:=rfl
    have hch:(choose (.appendCap s.size 0 e)).run P w= .ok cap w.drew:=by
     rw [run_choose,Py];rfl
    have Q2:(newRow e arr).run P w.drew= .ok ⟨w.heap.size,0,none⟩ (w.drew.alloc (.cells arr e)):=by first|(simp [newRow];done)|(simp [newRow];rfl)
    simp only [execOp,ho,hv,convert,SZ,run_underlying hs,run_underlying hd,run_underlying he,SO,Conv.stringToBytes,hch]
    rw [show (newRow e ((s.data.map fun b=>Value.int .u8 b.toNat)++Array.replicate (cap - s.size) (.int .u8 0)))=newRow e arr from rfl,Q2]
    simp only [SO,markStringish,SZ,run_shape,P0,run_freeze,P3,S9]
   ·have h5:=pz (M:=M) (b:=w.heap.size) (o:= .no) (cap:=cap) (n:=s.size) NQ (dy hw.cells (SP _)) (by rw [hlen];exact LH) (by rw [hlen];omega) trivial
    rw [hlen] at h5
    exact (h5.mono Ok).flag _ (by simp [MM.od,MM.aX])
  ·cases h
 ·rename_i e ow sz xs hs hd hx
  split at h
  ·rename_i he
   obtain ⟨z',h1,h2⟩:=cZ h
   refine ⟨_,z',h1,fun c=>⟨(h2 c).1,bH fun M w a hw hr=> ?_⟩,.inl ⟨_,rfl⟩⟩
   have MI:=hr x (by simp [ho,SQ])
   rw [hx] at MI
   generalize hv:a.eval x=v at MI
   obtain ⟨ns,e1,e2⟩:=foldl_push xs (h2 c).2
   cases MI with
   |aj b off vs hl LH ha LR hc hrr LL Ow=>
    rename_i ad len cap
    have LM:bk M (.aj ow sz xs) (.slice ad len cap):= .aj b off vs hl LH ha LR hc hrr LL Ow
    have Rs:sz=1∨xs= []:=by
     cases xs with
     |nil=>exact .inr rfl
     |cons d t=>
      left
      obtain ⟨cs,q1,q2⟩:=LR 0 d rfl
      cases ns with
      |nil=>simp at e1
      |cons n ns=>simp at e1;rw [e1.1] at q1;simp [D.cells] at q1;subst q1;simpa using q2.symm
    obtain ⟨arr,os,orow,NP,_⟩:=iO (P:=P) LM Rs hw
    have MH:arr=(ns.map (Value.int .u8)).toArray:=by
     apply Array.ext_getElem?
     intro k
     have hlen:xs.length=ns.length:=by rw [e1];simp
     rcases SY k ns.length with q|q
     ·have hxk:xs[k]? =some (.int .u8 ns[k]):=by rw [e1];simp [q]
      obtain ⟨u,hu,hru⟩:=orow.get k _ [.int .u8 ns[k]] 0 _ hxk rfl rfl
      cases hru
      rw [T3,TZ] at hu
      rw [hu]
      simp [q]
     ·rw [Tk (by omega),Tk (by simpa using q)]
    have RD:(Conv.bytesToString (.slice ad len cap)).run P w= .ok (.string (jZ xs)) w:=by
     rw [e2]
     cases ad with
     |none=>
      have:xs= []:=by
       cases xs with
       |nil=>rfl
       |cons d t=>have:=ha (by simp);cases this
      subst this
      have:ns= []:=by simpa using e1.symm
      subst this
      simp [Conv.bytesToString]
     |some ad=>
      have:=NP w (fun _=>rfl)
      simp only [Tm,T3] at this
      rw [MH] at this
      exact run_bytesToString w ad len cap ns this
    refine ⟨.string (jZ xs),?_,.str _⟩
    simp only [execOp,ho,hv,SZ,run_convert_bytes_string w src dst e ad len cap hs he hd,RD,SO,S9]
  ·cases h
 ·cases h
theorem sB {z:Z P} {st xt LY e2:TypeId} {ts:Array TypeId} {id off sz n Qt:Nat} {s:List Ob} {K:Z P→iM→Option ρ'} {args:Act→Array Value} {ux uy:Act→Value}
  (LX:∀(a:Act) (w w':World) (v:Value),(Tn ts o.type (args a)).run P w= .ok v w'→(execOp a.eval o).run P w= .ok (.value v) w') (ht:P.underlying st=some (.slice LY)) (hx:P.underlying xt=some (.slice e2)) (h0:ts[0]? =some st) (h1:ts[1]? =some xt)
  (g0:∀a,(args a)[0]? =some (ux a)) (g1:∀a,(args a)[1]? =some (uy a)) (P2:∀(M:MM) (a:Act),(∀q∈o.op.operands,bk M (ρ q) (a.eval q))→bk M (.aj .tight Qt []) (ux a))
  (PH:∀(M:MM) (a:Act),(∀q∈o.op.operands,bk M (ρ q) (a.eval q))→∃b o2 c,uy a= .slice (some ⟨b,o2,none⟩) n c∧M.box id=some b∧(n≠0→o2=off))
  (h:Ac P z LY id off sz n s K=some r):∃e z',K z' e=some r∧(z'.c→z.c∧iL P o ρ s e):=by
 unfold Ac at h
 split at h
 ·rename_i cs LP
  obtain ⟨hchk,h⟩:=bg h
  simp only [SG,TF,S8] at hchk
  obtain ⟨⟨hzero,LR⟩,hb⟩:=hchk
  obtain ⟨z1,h,hz1⟩:=ic h
  subst LR
  split at h
  ·rename_i q r0 hzo0
   split at h
   ·rename_i PR
    rw [S8] at PR
    split at h
    ·rename_i l i k nc hg rest
     obtain ⟨z2,h,ND⟩:=cZ h
     refine ⟨_,z2,h,fun hc=> ?_⟩
     obtain ⟨⟨e1,e2',e3⟩,Nt⟩:=(ND hc).1
     have Q4:=(ND hc).2
     subst e1 e2' e3
     refine ⟨(hz1 Nt).1,by simp,?_⟩
     intro w0 M own w a hw Na hr next Q hn
     obtain ⟨b,o2,c,Qx,N8,NU⟩:=PH M a hr
     obtain ⟨new,ns,Mc,c1,c2⟩:=nG (P:=P) (c:=c) hw N8 LP NU hg.1 hg.2
     have R5:nc.length=n:=by rw [c1,PR,T3]
     obtain ⟨MK,M5⟩:=tx (by rw [c1,ns]) Q4 c2
     have Q3:=g1 a
     rw [Qx] at Q3
     have MI:=P2 M a hr
     obtain ⟨v,M',LB,w',q1,q2,q3,q4,q5,q6⟩:=rQ (rty:=o.type) (ys:=nc) hw ht hx h0 h1 hzero hb (g0 a) Q3 MI R5 (by rw [ns,R5]) (by rw [PR];exact MK) Mc M5 (.inr rfl) (by rw [S3,Ti,R5];exact (hz1 Nt).2) (id:=s.length) (ver:=0) (fun v _=>Na.2 _ v (SP _))
      (fun ad len cap e=>by
       rw [e] at MI
       cases MI with
       |aj b off vs hl LH ha LR hc hr LL ho=>exact .inl ho)
     rw [List.nil_append] at q4
     refine cT (LX a w w' v q1) (hn v M' LB w' q2 ⟨fun i hi=> ?_,fun i q hi=> ?_⟩ ?_ q4)
     ·simp only [SS,SX,S3] at hi
      rw [q5];exact Na.1 i (by omega)
     ·simp only [SS,SX,S3] at hi
      rw [q6 i (by omega)];exact Na.2 i q (by omega)
     ·rw [j2];exact q3
    ·cases h
   ·cases h
  have hh:=cZ h
  clear h
  obtain ⟨z2,h,ND⟩:=hh
  split at h
  ·rename_i l i k nc hg rest QO
   refine ⟨_,_,h,fun hc=> ?_⟩
   obtain ⟨⟨e1,e2',e3⟩,NZ⟩:=hc
   subst e1 e2' e3
   have Nt:=(ND NZ).1
   have Md:=(ND NZ).2
   rw [TQ] at Md
   refine ⟨(hz1 Nt).1,by simp,?_⟩
   intro w0 M own w a hw Na hr next Q hn
   obtain ⟨b,o2,c,Qx,N8,NU⟩:=PH M a hr
   obtain ⟨new,ns,Mc,c1,c2⟩:=nG (P:=P) (c:=c) hw N8 LP NU hg.1 hg.2
   have Q3:=g1 a
   rw [Qx] at Q3
   obtain ⟨v,M',LB,w',q1,q2,q3,q4,q5,q6⟩:=wg (rty:=o.type) hw ht hx h0 h1 hzero hb (g0 a) Q3 (P2 M a hr) ns Mc c1 c2 (hz1 Nt).2 Md (id:=s.length) (Na.1 _ (SP _)) (fun v=>Na.2 _ v (SP _))
   refine cT (LX a w w' v q1) (hn v M' LB w' q2 ⟨fun i hi=> ?_,fun i q hi=> ?_⟩ ?_ q4)
   ·simp only [SS,SX,S3] at hi
    rw [q5 i (by omega)];exact Na.1 i (by omega)
   ·simp only [SS,SX,S3] at hi
    rw [q6 i (by omega)];exact Na.2 i q (by omega)
   ·rw [j2];exact q3
  ·cases h
 ·cases h
theorem DZ {z:Z P} {s:List Ob} {x:D} {size:Nat} {K:Z P→List D→Nat→Option ρ'} (h:HR z s x size K=some r):
  ∃z' nc m,K z' nc m=some r∧(z'.c→z.c∧∀(w0:dq) (M:MM) (own:Nat→Option Nat) (w:World) (u:Value),bw w0 M own (bo s) w→bk M x u→
   ∃(a:Option Addr) (c:Nat) (new:Array Value),u= .slice a m c∧new.size=m*size∧(∀wd:World,(∀a,wd.cell? a=w.cell? a)→(Tm size m u).run P wd= .ok new wd)∧nc.length=m*size∧∀(i:Nat) (d:D) (v:Value),nc[i]? =some d→new[i]? =some v→bk M d v):=by
 have bx:∀ {id off n:Nat} {q:Bool},(∀(M:MM) (u:Value),bk M x u→∃b o2 c,u= .slice (some ⟨b,o2,none⟩) n c∧M.box id=some b∧(n≠0→o2=off))→gJ q (pN z s id off n size K)=some r→
   ∃z' nc m,K z' nc m=some r∧(z'.c→z.c∧∀(w0:dq) (M:MM) (own:Nat→Option Nat) (w:World) (u:Value),bw w0 M own (bo s) w→bk M x u→
   ∃(a:Option Addr) (c:Nat) (new:Array Value),u= .slice a m c∧new.size=m*size∧(∀wd:World,(∀a,wd.cell? a=w.cell? a)→(Tm size m u).run P wd= .ok new wd)∧nc.length=m*size∧∀(i:Nat) (d:D) (v:Value),nc[i]? =some d→new[i]? =some v→bk M d v):=by
  intro id off n q hu h
  obtain ⟨_,h⟩:=bg h
  unfold pN at h
  split at h
  ·rename_i cs LP
   split at h
   ·rename_i l i k nc hg rest QO
    refine ⟨_,_,_,h,fun hc=>⟨hc.2,fun w0 M own w u hw hr=> ?_⟩⟩
    obtain ⟨⟨e1,e2,e3⟩,_⟩:=hc
    subst e1 e2 e3
    obtain ⟨b,o2,c,rfl,N8,NU⟩:=hu M u hr
    obtain ⟨new,ns,Mc,c1,c2⟩:=nG (P:=P) (c:=c) hw N8 LP NU hg.1 hg.2
    exact ⟨_,_,new,rfl,ns,Mc,c1,c2⟩
   ·cases h
  ·cases h
 unfold HR at h
 split at h
 ·obtain ⟨hk,h⟩:=bg h
  obtain ⟨z',nc,h,hz⟩:=td h
  refine ⟨z',nc,_,h,fun hc=>⟨(hz hc).1,fun w0 M own w u hw hr=> ?_⟩⟩
  cases hr with
  |aj b off vs hl LH ha LR hc0 hr0 LL ho=>
   rename_i a len cap
   have LM:=bk.aj b off vs hl LH ha LR hc0 hr0 LL ho
   obtain ⟨new,ns,MK,Mc,_⟩:=iO (P:=P) LM (iu hk) hw.cells
   obtain ⟨c1,c2⟩:=nY MK (hz hc).2
   subst hl
   exact ⟨_,_,new,rfl,ns,Mc,c1,c2⟩
 ·exact bx (fun M u hr=>by cases hr with|cS hb MZ hc=>exact ⟨_,0,_,rfl,hb,fun _=>rfl⟩) h
 ·exact bx (fun M u hr=>by cases hr with|sub hb hc hp NU=>exact ⟨_,_,_,rfl,hb,NU⟩) h
 ·cases h
theorem rG {z:Z P} {c:Call} {x y:Operand} {rest:List Operand} {s:List Ob} {K:Z P→iM→Option ρ'} {ty e:TypeId} {id off n:Nat} (ho:o.op= .call c) (hc:c.callee= .builtin .copy) (LU:c.args.toList=x::y::rest) (t0:c.argTypes[0]? =some ty) (ht:P.underlying ty=some (.slice e)) (hk:known P e=true) (hs:P.cellsOf e=1)
  (hu:∀(M:MM) (u:Value),bk M (ρ x) u→∃b o2 c,u= .slice (some ⟨b,o2,none⟩) n c∧M.box id=some b∧(n≠0→o2=off)) (h:vB z s id off n (ρ y) K=some r):∃e z',K z' e=some r∧(z'.c→z.c∧iL P o ρ s e):=by
 have hx:x∈o.op.operands:=by
  have:x∈c.args.toList:=by rw [LU];simp
  simp only [ho,SQ,T7,hc];simpa using this
 have hy:y∈o.op.operands:=by
  have:y∈c.args.toList:=by rw [LU];simp
  simp only [ho,SQ,T7,hc];simpa using this
 unfold vB at h
 obtain ⟨z1,nc,m,h,hz1⟩:=DZ h
 obtain ⟨z2,h,ND⟩:=cZ h
 obtain ⟨z3,h,hz3⟩:=cZ h
 split at h
 ·rename_i cs LP
  split at h
  ·rename_i l i xs l' hg So QO
   refine ⟨_,_,h,fun L7=> ?_⟩
   obtain ⟨⟨e1,e2,e3⟩,OX⟩:=L7
   subst e1 e2 e3
   have NZ:=(hz3 OX).1
   have Q4:=(hz3 OX).2
   have Nt:=(ND NZ).1
   have Sl:=(ND NZ).2
   rw [TF] at Sl
   have LN:id<s.length:=cX (by rw [LP];intro e;cases e)
   refine ⟨(hz1 Nt).1,by simp,?_⟩
   intro w0 M own w a hw Na hr next Q hn
   obtain ⟨b,o2,cc,P2,N8,NU⟩:=hu M _ (hr x hx)
   obtain ⟨sa,sc,new,PH,ns,Mc,c1,c2⟩:=(hz1 Nt).2 w0 M own w _ hw (hr y hy)
   rw [T3] at ns c1
   obtain ⟨MK,M5⟩:=tx (by rw [c1,ns]) Q4 c2
   obtain ⟨b2,vs,bt,kb⟩:=hw.box id l LP
   have eb:b2=b:=by have:=kb.box;rw [N8] at this;exact (SE this).symm
   subst eb
   have Pq:new.toList.length=m:=by rw [Tl,ns]
   have hle:=kb.len
   have OO:i+m≤l.length:=by rw [← c1];exact hg.2
   have LL:(storeCells ⟨b2,o2,none⟩ new.toList).run P w= .ok () (bh w b2 (.cells (cU vs i new.toList) bt (0,0))):=by
    by_cases hm:m=0
    ·have Mq:new= #[]:=TU (by rw [ns,hm])
     subst Mq
     have:=eE (P:=P) (b:=b2) (off:=i) (fz:=(0,0)) ([]:List Value) 0 w vs kb.cy (by simp) (by simp;omega) (fun o _ h=>by have:=h.2;simp at this)
     simp only [storeCells,S9,TZ] at this ⊢
     exact this
    ·obtain rfl:=NU (by omega)
     have:=eE (P:=P) (b:=b2) (off:=o2) (fz:=(0,0)) new.toList 0 w vs kb.cy M5 (by rw [Pq];omega) (fun o _ h=>by have:=h.2;simp at this)
     rw [TZ] at this
     exact this
   have hrl:bS M xs ⟨new.toList⟩:=⟨by simp [c1,ns],fun i d v hd hv=>c2 i d v hd (by simpa using hv)⟩
   have LM:=m7 (M:=M) kb.len kb.rep hrl hg.2
   have RH:hO l i xs=l':=by unfold hO;exact hg.1
   rw [RH] at LM
   have Oz:=hw.DT kb LM.1 (dc _ _ _) LM.2
   refine cT (v:= .int .i64 m) (w':=bh w b2 (.cells (cU vs i new.toList) bt (0,0))) ?_ (hn _ M own _ (.refl M) ⟨fun j hj=> ?_,fun j q hj=> ?_⟩ ?_ (.int _ _))
   ·rw [ea ho hc]
    have e0:c.args[0]? =some x:=by rw [← S4,LU];rfl
    have e1:c.args[1]? =some y:=by rw [← S4,LU];rfl
    have Pb:=Mc w (fun _=>rfl)
    rw [PH] at Pb
    simp [builtin,Builtin.copy_,t0,e0,e1,run_underlying ht,P2,PH,Builtin.lenOf,Nat.min_eq_left Sl,cn hk,hs,Pb,LL,goInt]
   ·rw [Tj] at hj;exact Na.1 j hj
   ·rw [Tj] at hj;exact Na.2 j q hj
   ·rw [lD LN];exact Oz
  ·cases h
 ·cases h
theorem Df {z:Z P} {c:Call} {x y:Operand} {rest:List Operand} {s:List Ob} {K:Z P→iM→Option ρ'} (ho:o.op= .call c) (hc:c.callee= .builtin .copy) (LU:c.args.toList=x::y::rest) (h:FF P z c.argTypes (ρ x) (ρ y) s K=some r):∃e z',K z' e=some r∧(z'.c→z.c∧iL P o ρ s e):=by
 unfold FF at h
 split at h
 ·rename_i ty ts Ql
  have t0:c.argTypes[0]? =some ty:=by rw [← S4,Ql];rfl
  split at h
  ·rename_i e ht
   obtain ⟨hk,h⟩:=bg h
   rw [SG,S8] at hk
   split at h
   ·rename_i id sz n hρ
    obtain ⟨_,h⟩:=bg h
    exact rG ho hc LU t0 ht hk.1 hk.2 (fun M u hr=>by rw [hρ] at hr;cases hr with|cS hb MZ hc=>exact ⟨_,0,_,rfl,hb,fun _=>rfl⟩) h
   ·rename_i id off sz n cp hρ
    obtain ⟨_,h⟩:=bg h
    exact rG ho hc LU t0 ht hk.1 hk.2 (fun M u hr=>by rw [hρ] at hr;cases hr with|sub hb hc hp NU=>exact ⟨_,_,_,rfl,hb,NU⟩) h
   ·cases h
  ·cases h
 ·cases h
theorem CK {z:Z P} {st xt LY e2:TypeId} {ts:Array TypeId} {id off sz n c Qo NJ Ng n2:Nat} {RW:Option Nat} {s:List Ob} {K:Z P→iM→Option ρ'} {args:Act→Array Value} {ux uy:Act→Value}
  (LX:∀(a:Act) (w w':World) (v:Value),(Tn ts o.type (args a)).run P w= .ok v w'→(execOp a.eval o).run P w= .ok (.value v) w') (ht:P.underlying st=some (.slice LY)) (hx:P.underlying xt=some (.slice e2)) (h0:ts[0]? =some st) (h1:ts[1]? =some xt)
  (g0:∀a,(args a)[0]? =some (ux a)) (g1:∀a,(args a)[1]? =some (uy a)) (P2:∀(M:MM) (a:Act),(∀q∈o.op.operands,bk M (ρ q) (a.eval q))→bk M (.sub id off sz n (some c)) (ux a))
  (PH:∀(M:MM) (a:Act),(∀q∈o.op.operands,bk M (ρ q) (a.eval q))→bk M (.sub Qo NJ Ng n2 RW) (uy a))
  (h:Fh P z LY id off sz n c Qo NJ Ng n2 s K=some r):∃e z',K z' e=some r∧(z'.c→z.c∧iL P o ρ s e):=by
 unfold Fh at h
 split at h
 ·rename_i cs LP
  have hh:=bg h
  clear h
  obtain ⟨hchk,h⟩:=hh
  simp only [SG,TF,S8] at hchk
  obtain ⟨⟨⟨⟨⟨hzero,rfl⟩,rfl⟩,rfl⟩,rfl⟩,hb⟩:=hchk
  have hh:=ic h
  clear h
  obtain ⟨z1,h,hz1⟩:=hh
  have hh:=cZ h
  clear h
  obtain ⟨z2,h,ND⟩:=hh
  have hh:=kq h
  clear h
  obtain ⟨z3,⟨h,hz3⟩|⟨h,hz3⟩⟩:=hh
  ·split at h
   ·rename_i l i k nc hg l2 i2 k2 OM Qh rest QO
    refine ⟨_,_,h,fun hc=> ?_⟩
    obtain ⟨⟨a1,a2,a3⟩,⟨e1,e2',e3⟩,OX⟩:=hc
    subst a1 a2 a3 e1 e2' e3
    have NZ:=(hz3 OX).1
    have Md:=(hz3 OX).2
    have Nt:=(ND NZ).1
    have QN:=(ND NZ).2
    rw [TQ] at Md
    rw [S8] at QN
    subst QN
    have LN:id<s.length:=cX (by rw [LP];intro e;cases e)
    refine ⟨(hz1 Nt).1,by simp,?_⟩
    intro w0 M own w a hw Na hr next Q hn
    obtain ⟨v,M',LB,w',q1,q2,q3,q4,q5,q6⟩:=CL (rty:=o.type) hw ht hx h0 h1 hzero hb (g0 a) (g1 a) (P2 M a hr) (PH M a hr) (hz1 Nt).2 Md LP hg.1 hg.2 Qh.1 Qh.2 (id:=s.length) (Na.1 _ (SP _)) (fun v=>Na.2 _ v (SP _))
    refine cT (LX a w w' v q1) (hn v M' LB w' q2 ⟨fun i hi=> ?_,fun i q hi=> ?_⟩ ?_ q4)
    ·simp only [SS,Tj,SX,S3] at hi
     rw [q5 i (by omega)];exact Na.1 i (by omega)
    ·simp only [SS,Tj,SX,S3] at hi
     rw [q6 i (by omega)];exact Na.2 i q (by omega)
    ·rw [j2,lD LN,Tj];exact q3
   ·cases h
  ·refine ⟨_,_,h,fun OX=> ?_⟩
   have NZ:=(hz3 OX).1
   have QL:=(hz3 OX).2
   have Nt:=(ND NZ).1
   have QN:=(ND NZ).2
   have hlen:=(hz1 Nt).2
   rw [S8] at QN
   subst QN
   have O1:c+n2=0:=by
    rcases Nat.eq_zero_or_pos (c+n2) with q|q
    ·exact q
    ·have q':T6 0 (c+n2)=true:=by rw [TQ];exact q
     rw [q'] at QL;cases QL
   obtain rfl:c=0:=by omega
   obtain rfl:n2=0:=by omega
   refine ⟨(hz1 Nt).1,bH fun M w a N0 hr=> ?_⟩
   have r1:=P2 M a hr
   have r2:=PH M a hr
   have e1:=g0 a
   have e2:=g1 a
   have hex:=LX a w w
   generalize ux a=u1 at r1 e1
   generalize uy a=u2 at r2 e2
   cases r1 with
   |sub Nq hc1' hp1 ho1=>
    rename_i b1 o1 c1
    cases r2 with
    |sub Oa hc2' hp2 Q1=>
     rename_i b2 o2 c2
     obtain rfl:=hp1 0 rfl
     obtain ⟨i,zz,hi,hiz,OS,LO⟩:=gF hzero
     have Mg:i.bytes≤65536:=by simpa [Program.bytesOf,hi] using hb
     have Qc:∀(b o3 k:Nat) (wd:World),(Tm i.size 0 (.slice (some ⟨b,o3,none⟩) 0 k)).run P wd= .ok #[] wd:=fun b o3 k wd=>by simp [Tm,loadCells,loadCellsFrom]
     obtain ⟨q1,_⟩:=hQ (P:=P) (rty:=o.type) (w:=w) ht hx h0 h1 hi hiz e1 e2 (Qc _ _ _ _) (Qc _ _ _ _) (Qc _ _ _ _) Mg (by omega)
     have q2:=q1 (SP _)
     refine ⟨.slice (some ⟨b1,o1,none⟩) 0 0,hex _ ?_,.aj b1 o1 (fun _ _=> .nilFunc) rfl (SP _) (fun q=>absurd rfl q) (fun i x hx=>by simp at hx) (fun i x cs j c hx=>by simp at hx) (fun i x cs j c hx=>by simp at hx) (fun i x cs c hx=>by simp at hx) rfl⟩
     rw [q2]
     simp [SZ,SO,S9,storeCells]
 ·cases h
theorem xG {z:Z P} {c:Call} {x y:Operand} {rest:List Operand} {s:List Ob} {K:Z P→iM→Option ρ'} (ho:o.op= .call c) (hc:c.callee= .builtin .append) (LU:c.args.toList=x::y::rest) (h:vN P z c.argTypes (ρ x) (ρ y) s K=some r):
  ∃e z',K z' e=some r∧(z'.c→z.c∧iL P o ρ s e):=by
 have hx:x∈o.op.operands:=by
  have:x∈c.args.toList:=by rw [LU];simp
  simp only [ho,SQ,T7,hc];simpa using this
 have hy:y∈o.op.operands:=by
  have:y∈c.args.toList:=by rw [LU];simp
  simp only [ho,SQ,T7,hc];simpa using this
 have ga:∀a:Act,(c.args.map a.eval)[0]? =some (a.eval x)∧(c.args.map a.eval)[1]? =some (a.eval y):=by
  intro a
  have e0:c.args[0]? =some x:=by rw [← S4,LU];rfl
  have e1:c.args[1]? =some y:=by rw [← S4,LU];rfl
  simp [e0,e1]
 unfold vN at h
 split at h
 ·rename_i st xt ts Ql
  have t0:c.argTypes[0]? =some st:=by rw [← S4,Ql];rfl
  have t1:c.argTypes[1]? =some xt:=by rw [← S4,Ql];rfl
  split at h
  ·rename_i LY e2 ht OC
   split at h
   ·rename_i ow sz xs OQ L4 ys O2 OY
    have LX:∀(a:Act) (w w':World) (v:Value),(Tn c.argTypes o.type (c.args.map a.eval)).run P w= .ok v w'→(execOp a.eval o).run P w= .ok (.value v) w':=by
     intro a w w' v hv
     rw [ea ho hc]
     simp only [builtin,SZ,hv,SO,S9]
    split at h
    ·rename_i r0 QO
     split at h
     ·obtain ⟨hchk,h⟩:=bg h
      simp only [SG,TF] at hchk
      obtain ⟨⟨hzero,Ot⟩,hb⟩:=hchk
      obtain ⟨z1,h,hz1⟩:=ic h
      obtain ⟨z2,nc,h,ND⟩:=CU h
      refine ⟨_,z2,h,fun NZ=>⟨(hz1 (ND NZ).1).1,?_⟩⟩
      have Nt:=(ND NZ).1
      have Nk:=(ND NZ).2.1
      have ME:=(ND NZ).2.2
      intro w0 M own σ w a id hw hr LQ next Q hn
      have MI:=hr x hx
      have NV:=hr y hy
      rw [O2] at MI
      rw [OY] at NV
      obtain ⟨v,M',LB,w',q1,q2,q3,q4,q5,q6⟩:=Bg (rty:=o.type) hw ht OC t0 t1 hzero hb (ga a).1 (ga a).2 MI NV (iu Ot) (hz1 Nt).2 ME Nk (id:=id) LQ.1 LQ.2
      exact cT (LX a w w' v q1) (hn v M' LB w' q2 ⟨q5,q6⟩ q3 q4)
     ·cases h
    ·rename_i m r0 QO
     split at h
     ·obtain ⟨hchk,h⟩:=bg h
      simp only [SG,TF] at hchk
      obtain ⟨⟨hzero,PR⟩,hb⟩:=hchk
      obtain ⟨z1,h,hz1⟩:=ic h
      refine ⟨_,z1,h,fun Nt=>⟨(hz1 Nt).1,?_⟩⟩
      have hlen:=(hz1 Nt).2
      refine bH fun M w a N0 hr=> ?_
      have MI:=hr x hx
      have NV:=hr y hy
      rw [O2] at MI
      rw [OY] at NV
      exact ⟨_,LX a w w _ (xH (rty:=o.type) N0 ht OC t0 t1 hzero hb (ga a).1 (ga a).2 MI NV (iu PR) hlen),MI⟩
     ·cases h
    have hh:=bg h
    clear h
    obtain ⟨hchk,h⟩:=hh
    simp only [SG,TF] at hchk
    obtain ⟨⟨⟨⟨_,hzero⟩,PR⟩,Ot⟩,hb⟩:=hchk
    have hh:=ic h
    clear h
    obtain ⟨z1,h,hz1⟩:=hh
    split at h
    ·
     refine ⟨_,z1,h,fun Nt=>⟨(hz1 Nt).1,?_⟩⟩
     intro w0 M own σ w a id hw hr LQ next Q hn
     have MI:=hr x hx
     have NV:=hr y hy
     rw [O2] at MI
     rw [OY] at NV
     obtain ⟨v,M',LB,w',q1,q2,q3,q4,q5,q6⟩:=pe (rty:=o.type) hw ht OC t0 t1 hzero hb (ga a).1 (ga a).2 MI NV (iu PR) (iu Ot) (hz1 Nt).2 (id:=id) (ver:=0) (fun v _=>LQ.2 v)
      (fun ad len cap e=>by
       rw [e] at MI
       cases MI with
       |aj b off vs hl LH ha LR hc hr LL ho=>exact .inl ho)
     exact cT (LX a w w' v q1) (hn v M' LB w' q2 ⟨fun j _=>by rw [q5],q6⟩ q3 q4)
    ·rename_i t v
     split at h
     ·rename_i v' Ng LL
      obtain ⟨hk,h⟩:=bg h
      rw [SG,S8,S8] at hk
      obtain ⟨rfl,rfl⟩:=hk
      refine ⟨_,z1,h,fun Nt=>⟨(hz1 Nt).1,⟨LL,cX (by rw [LL];intro e;cases e)⟩,?_⟩⟩
      intro w0 M own σ w a id hw hr LQ next Q hn
      have PI:σ t= .bO v' (P.cellsOf LY):=LQ
      have MI:=hr x hx
      have NV:=hr y hy
      rw [O2] at MI
      rw [OY] at NV
      obtain ⟨fa,flen,fcap,hfam⟩:=hw.bO t v' _ PI
      obtain ⟨u,M',LB,w',q1,q2,q3,q4,q5,q6⟩:=pe (rty:=o.type) hw ht OC t0 t1 hzero hb (ga a).1 (ga a).2 MI NV (iu PR) (iu Ot) (hz1 Nt).2 (id:=t) (ver:=v'+1) (fun v hv=>hfam.last v (by omega))
       (fun ad len cap e=>by
        rw [e] at MI
        cases MI with
        |aj b off vs hl LH ha LR hc hr LL ho=>
         have Q1:M.bl t v'=some (.slice ad len cap):=ho
         rw [hfam.bl] at Q1
         simp only [SL,Value.slice.injEq] at Q1
         obtain ⟨rfl,rfl,rfl⟩:=Q1
         rcases hfam.room with q|⟨b',vs',ty',fz',e1,r⟩
         ·exact .inl q
         ·exact .inr ⟨b',vs',ty',fz',v',_,e1,r,PI⟩)
      exact cT (LX a w w' u q1) (hn u M' LB w' q2 ⟨q5,q6⟩ q3 q4)
     ·cases h
    ·cases h
   ·rename_i Rc sz n OQ L4 ys O2 OY
    have LX:∀(a:Act) (w w':World) (v:Value),(Tn c.argTypes o.type (c.args.map a.eval)).run P w= .ok v w'→(execOp a.eval o).run P w= .ok (.value v) w':=by
     intro a w w' v hv
     rw [ea ho hc]
     simp only [builtin,SZ,hv,SO,S9]
    split at h
    ·rename_i cs LL
     obtain ⟨hchk,h⟩:=bg h
     simp only [SG,TF,S8] at hchk
     obtain ⟨⟨⟨hzero,LR⟩,Ot⟩,hb⟩:=hchk
     obtain ⟨z1,h,hz1⟩:=ic h
     obtain ⟨z2,h,ND⟩:=cZ h
     obtain ⟨z3,nc,h,hz3⟩:=td h
     have LN:Rc<s.length:=cX (by rw [LL];intro e;cases e)
     refine ⟨_,z3,h,fun OX=>⟨(hz1 (ND (hz3 OX).1).1).1,by simp,?_⟩⟩
     have NZ:=(hz3 OX).1
     have Nk:=(hz3 OX).2
     have Nt:=(ND NZ).1
     have hlen:=(ND NZ).2
     rw [S8] at hlen
     intro w0 M own w a hw Na hr next Q hn
     have MI:=hr x hx
     have NV:=hr y hy
     rw [O2,LR] at MI
     rw [OY] at NV
     obtain ⟨v,M',LB,w',q1,q2,q3,q4,q5,q6⟩:=CO (rty:=o.type) hw ht OC t0 t1 hzero hb (ga a).1 (ga a).2 MI NV (iu Ot) (hz1 Nt).2 Nk LL hlen (id:=s.length) (Na.1 _ (SP _)) (fun v=>Na.2 _ v (SP _))
     rw [← LR] at q4
     refine cT (LX a w w' v q1) (hn v M' LB w' q2 ⟨fun i hi=> ?_,fun i q hi=> ?_⟩ ?_ q4)
     ·simp only [SS,Tj,SX,S3] at hi
      rw [q5 i (by omega)];exact Na.1 i (by omega)
     ·simp only [SS,Tj,SX,S3] at hi
      rw [q6 i (by omega)];exact Na.2 i q (by omega)
     ·rw [j2,lD LN,Tj];exact q3
    ·cases h
   ·rename_i Qt Rc sz n O2 OY
    have LX:∀(a:Act) (w w':World) (v:Value),(Tn c.argTypes o.type (c.args.map a.eval)).run P w= .ok v w'→(execOp a.eval o).run P w= .ok (.value v) w':=by
     intro a w w' v hv
     rw [ea ho hc]
     simp only [builtin,SZ,hv,SO,S9]
    refine sB LX ht OC t0 t1 (fun a=>(ga a).1) (fun a=>(ga a).2) (fun M a hr=>by have:=hr x hx;rw [O2] at this;exact this) (fun M a hr=> ?_) h
    have NV:=hr y hy
    rw [OY] at NV
    generalize a.eval y=u at NV
    cases NV with
    |cS hb MZ hc=>exact ⟨_,0,_,rfl,hb,fun _=>rfl⟩
   ·rename_i Qt Rc off sz n cp O2 OY
    have LX:∀(a:Act) (w w':World) (v:Value),(Tn c.argTypes o.type (c.args.map a.eval)).run P w= .ok v w'→(execOp a.eval o).run P w= .ok (.value v) w':=by
     intro a w w' v hv
     rw [ea ho hc]
     simp only [builtin,SZ,hv,SO,S9]
    refine sB LX ht OC t0 t1 (fun a=>(ga a).1) (fun a=>(ga a).2) (fun M a hr=>by have:=hr x hx;rw [O2] at this;exact this) (fun M a hr=> ?_) h
    have NV:=hr y hy
    rw [OY] at NV
    generalize a.eval y=u at NV
    cases NV with
    |sub hb hc hp NU=>exact ⟨_,_,_,rfl,hb,NU⟩
   ·rename_i Rc off sz n cc bid2 NJ Ng n2 cp O2 OY
    have LX:∀(a:Act) (w w':World) (v:Value),(Tn c.argTypes o.type (c.args.map a.eval)).run P w= .ok v w'→(execOp a.eval o).run P w= .ok (.value v) w':=by
     intro a w w' v hv
     rw [ea ho hc]
     simp only [builtin,SZ,hv,SO,S9]
    exact CK LX ht OC t0 t1 (fun a=>(ga a).1) (fun a=>(ga a).2) (fun M a hr=>by have:=hr x hx;rw [O2] at this;exact this) (fun M a hr=>by have:=hr y hy;rw [OY] at this;exact this) h
   ·cases h
  ·cases h
 ·cases h
end
section
variable {ρ':Type} {P:Program} {r:ρ'} {o:Oper} {t:List D} {s:List Ob}
theorem Ej {ρ:Operand→D} {ty e:TypeId} {l c:Operand} {q q':T8} {n:Int} {zd:D} {zc:List D} (ho:o.op= .makeSlice ty l c) (ht:P.underlying ty=some (.slice e)) (hk:known P e=true) (hz:gL P e=some zd) (Pv:zd.cells=some zc)
  (hlen:zc.length=P.cellsOf e) (Md:0<zc.length) (Q4:P.bytesOf e≤65536) (hl:ρ l= .int q n) (hc:ρ c= .int q' n) (h0:0≤n) (h1:n≤2147483648) (LL:∀c∈zc,storable c=true):
  eD P o ρ (.pure (.aj .tight (P.cellsOf e) (Sx n.toNat zd))):=by
 obtain ⟨i,v,hi,hv,rfl⟩:=fq hz
 refine wG fun M w a hw hr=> ?_
 have r1:=cC (hr l (by simp [ho,SQ])) hl
 have r2:=cC (hr c (by simp [ho,SQ])) hc
 have hb:(i.bytes:Int)≤65536:=by
  have:P.bytesOf e=i.bytes:=by simp [Program.bytesOf,hi]
  omega
 have LR:P.cellsOf e=i.size:=by simp [Program.cellsOf,hi]
 have hmul:(i.bytes:Int)*n≤281474976710656:=by
  have:=Int.mul_le_mul hb h1 h0 (by omega:(0:Int)≤65536)
  omega
 have LV:=run_make (P:=P) w ty e i v ht hi hv q q' n n h0 (Int.le_refl _) hmul (by omega)
 have NQ:gI M (P.cellsOf e) (Sx n.toNat (cK v)) (madeCells v.cells (n.toNat*i.size)):=by
  have:=zZ (M:=M) Pv (fj v) LL n.toNat
  rw [hlen] at this
  rw [← LR]
  exact this
 have hx:=pL (M:=M) (w:=w) (wd:=w) (arr:=madeCells v.cells (n.toNat*i.size)) (ty:=e) (n:=(madeCells v.cells (n.toNat*i.size)).size) hw rfl (Below.refl _ _) (0,0)
 have Pr:=pz (b:=w.heap.size) (o:= .tight) (cap:=(Sx n.toNat (cK v)).length) (n:=(madeCells v.cells (n.toNat*i.size)).size) NQ (dy hw (SP _)) (SP _) NQ.len rfl
 refine ⟨_,_,_,?_,hx,rfl,rfl,rfl,Pr⟩
 simp only [execOp,ho,r1,r2,SZ,LV,SO,S9,List.length_replicate]
theorem qJ {z:Z P} {K:Z P→iM→Option ρ'} {ty:TypeId} {rv:Option Operand} (ho:o.op= .makeMap ty rv) (hx:∀x,rv=some x→∃q n,bR t x= .int q n) (h:(pI P z ty K)=some r):
  ∃e z',K z' e=some r∧(z'.c→z.c∧iL P o (bR t) s e):=by
 unfold pI at h
 split at h
 ·rename_i k et hk
  exact ⟨_,z,h,fun c=>⟨c,yr ho hk hx⟩⟩
 ·split at h
  ·rename_i kt et hk
   obtain ⟨z',ks,h1,h2,_⟩:=lT h
   exact ⟨_,z',h1,fun c=>⟨h2 c,wJ ho hk hx⟩⟩
  ·cases h
theorem qI {z:Z P} {K:Z P→iM→Option ρ'} {ty:TypeId} {m k v:Operand} (ho:o.op= .insert ty m k v∨o.op= .mapUpdate ty m k v) (h:(pH P z ty (bR t m) (bR t k) (bR t v) s K)=some r):
  ∃e z',K z' e=some r∧(z'.c→z.c∧iL P o (bR t) s e):=by
 unfold pH at h
 split at h
 ·rename_i id q n hm hk
  split at h
  ·rename_i q' es q2 et hs Nx
   have hh:=bg h
   clear h
   obtain ⟨Nr,h⟩:=hh
   simp only [SG] at Nr
   have e1:=e9 Nr.1.1
   have e2:=e9 Nr.1.2
   subst e1 e2
   have L9:=cX (s:=s) (i:=id) (by rw [hs];intro e;cases e)
   exact ⟨_,z,h,fun c=>⟨c,⟨hs,L9⟩,Ch ho Nx hm hk Nr.2⟩⟩
  ·cases h
 ·rename_i id cs hm hk
  split at h
  ·rename_i ks es kt et hs Nx
   obtain ⟨z',OB,h1,h2,hK⟩:=lT h
   obtain ⟨Nr,h3⟩:=bg h1
   simp only [SG] at Nr
   have e1:=lJ Nr.1.1
   subst e1
   have L9:=cX (s:=s) (i:=id) (by rw [hs];intro e;cases e)
   exact ⟨_,z',h3,fun c=>⟨h2 c,⟨hs,L9⟩,yo ho Nx hK hm hk Nr.1.2 Nr.2⟩⟩
  ·cases h
 ·cases h
theorem yE {z:Z P} {K:Z P→iM→Option ρ'} {ty:TypeId} {m k:Operand} (ho:o.op= .mapEntry ty m k) (h:(u6 P z ty (bR t m) (bR t k) s K)=some r):
  ∃e z',K z' e=some r∧(z'.c→z.c∧iL P o (bR t) s e):=by
 unfold u6 at h
 split at h
 ·rename_i id q n hm hk
  split at h
  ·rename_i q' es q2 et hs Nx
   split at h
   ·rename_i zd hz
    have hh:=bg h
    clear h
    obtain ⟨Nr,h⟩:=hh
    simp only [SG] at Nr
    have e1:=e9 Nr.1.1
    have e2:=e9 Nr.1.2
    subst e1 e2
    have L9:=cX (s:=s) (i:=id) (by rw [hs];intro e;cases e)
    obtain ⟨z',rr,h1,h2⟩:=sU h
    have L8:=fun c=>Ci (P:=P) (ρ:=bR t) ho Nx hz Nr.2 hm hk (h2 c).2
    cases rr<;>exact ⟨_,z',h1,fun c=>⟨(h2 c).1,⟨hs,L9⟩,L8 c⟩⟩
   ·cases h
  ·cases h
 ·rename_i id cs hm hk
  split at h
  ·rename_i ks es kt et hs Nx
   split at h
   ·rename_i zd hz
    obtain ⟨z1,OB,h0,Pu,hK⟩:=lT h
    obtain ⟨Nr,h3⟩:=bg h0
    simp only [SG] at Nr
    have e1:=lJ Nr.1.1
    subst e1
    have L9:=cX (s:=s) (i:=id) (by rw [hs];intro e;cases e)
    obtain ⟨z',rr,h1,h2⟩:=qH h3
    have L8:=fun c=>yq (P:=P) (ρ:=bR t) ho Nx hK hz Nr.2 hm hk Nr.1.2 (h2 c).2
    cases rr<;>exact ⟨_,z',h1,fun c=>⟨Pu (h2 c).1,⟨hs,L9⟩,L8 c⟩⟩
   ·cases h
  ·cases h
 ·cases h
theorem vw {z:Z P} {K:Z P→iM→Option ρ'} {ty:TypeId} {m n v:Operand} (ho:o.op= .entryStore ty m n v) (h:(oG P z (bR t m) (bR t n) (bR t v) s K)=some r):
  ∃e z',K z' e=some r∧(z'.c→z.c∧iL P o (bR t) s e):=by
 unfold oG at h
 split at h
 ·rename_i id q0 j hm hn
  split at h
  ·rename_i q es hs
   obtain ⟨hv,h⟩:=bg h
   obtain ⟨z',h1,h2⟩:=cZ h
   have L9:=cX (s:=s) (i:=id) (by rw [hs];intro e;cases e)
   refine ⟨_,z',h1,fun c=>⟨(h2 c).1,⟨hs,L9⟩,?_⟩⟩
   have hb:=(h2 c).2
   rw [SG,decide_eq_true_eq,TQ] at hb
   exact oS ho hm hn hv hb.1 (.inl ⟨q,es,rfl,rfl,hb.2⟩)
  ·rename_i ks es hs
   obtain ⟨hv,h⟩:=bg h
   obtain ⟨z',h1,h2⟩:=cZ h
   have L9:=cX (s:=s) (i:=id) (by rw [hs];intro e;cases e)
   refine ⟨_,z',h1,fun c=>⟨(h2 c).1,⟨hs,L9⟩,?_⟩⟩
   have hb:=(h2 c).2
   rw [SG,decide_eq_true_eq,TQ] at hb
   exact oS ho hm hn hv hb.1 (.inr ⟨ks,es,rfl,rfl,hb.2⟩)
  ·cases h
 ·cases h
theorem Fu {z:Z P} {d:D} {s':List Ob} {K:Z P→iM→Option ρ'} {r:ρ'} (h:IQ z d s' K=some r):∃e z',K z' e=some r∧(z'.c→z.c∧∃d2 s2,e= .all s2 d2∧∀(g:FuncId) (args:List D) (s:List Ob),af P g args s d s'→af P g args s d2 s2):=by
 unfold IQ at h
 split at h
 ·split at h
  ·rename_i id sz n
   split at h
   ·rename_i cs LP
    have hh:=bg h
    clear h
    obtain ⟨LR,h⟩:=hh
    rw [S8] at LR
    subst LR
    have hh:=cZ h
    clear h
    obtain ⟨z1,h,hz1⟩:=hh
    refine ⟨_,z1,h,fun hc=>⟨(hz1 hc).1,_,_,rfl,fun g args s hr=> ?_⟩⟩
    have hq:=(hz1 hc).2
    rw [SG,S8] at hq
    exact hr.yN LP hq.1 hq.2
   ·cases h
  ·cases h
 ·exact ⟨_,z,h,fun hc=>⟨hc,_,_,rfl,fun g args s hr=>hr⟩⟩
theorem GF {inl:A3 P ρ'} (Mn:jY P inl) {z:Z P} {K:Z P→iM→Option ρ'} (h:Ka P inl o t s z K=some r):
  ∃e z',K z' e=some r∧(z'.c→z.c∧iL P o (bR t) s e):=by
 unfold Ka at h
 split at h
 case h_1 x ho=>exact ⟨_,z,h,fun c=>⟨c,Au (.inl ho)⟩⟩
 case h_2 x ho=>exact ⟨_,z,h,fun c=>⟨c,Au (.inr ho)⟩⟩
 case h_3 c x y ho=>
  split at h
  ·rename_i q hq
   obtain ⟨z',⟨h1,h2⟩|⟨h1,h2⟩⟩:=kq h
   ·refine ⟨_,z',h1,fun c=>⟨(h2 c).1,?_⟩⟩
    have:=Ar (P:=P) (ρ:=bR t) ho hq
    rw [(h2 c).2] at this
    exact this
   ·refine ⟨_,z',h1,fun c=>⟨(h2 c).1,?_⟩⟩
    have:=Ar (P:=P) (ρ:=bR t) ho hq
    rw [(h2 c).2] at this
    exact this
  ·cases h
 case h_4 e x ho=>
  split at h
  ·rename_i cs LP;exact ⟨_,z,h,fun c=>⟨c,Ij ho LP⟩⟩
  ·cases h
 case h_5 e ho=>
  split at h
  ·rename_i d hd
   split at h
   ·rename_i cs LP;exact ⟨_,z,h,fun c=>⟨c,Em ho hd LP⟩⟩
   ·split at h
    ·rename_i h1;exact ⟨_,z,h,fun c=>⟨c,Cj ho hd h1⟩⟩
    ·cases h
  ·cases h
 case h_6 ty parts ho=>
  split at h
  ·rename_i d hd;exact ⟨_,z,h,fun c=>⟨c,El ho hd⟩⟩
  ·cases h
 case h_7 ty len parts ho=>
  split at h
  ·rename_i e ht
   split at h
   ·rename_i d hd
    split at h
    ·rename_i zc Pv
     obtain ⟨hk,h⟩:=bg h
     simp only [SG,S8,TF,Td] at hk
     obtain ⟨⟨⟨⟨h1,h2⟩,h3⟩,_⟩,h5⟩:=hk
     obtain ⟨xs,q1,q2⟩:=si (P:=P) (ρ:=bR t) ho ht hd Pv h1 h2 h3 h5 h
     exact ⟨_,z,q1,fun c=>⟨c,q2⟩⟩
    ·cases h
   ·cases h
  ·cases h
 case h_8 ty a ho=>
  unfold HI at h
  split at h
  ·rename_i dyn id off hx
   split at h
   ·rename_i cs LP
    obtain ⟨z',d,h1,h2⟩:=lP h
    refine ⟨_,z',h1,fun c=>⟨(h2 c).1,?_⟩⟩
    have LN:id<s.length:=cX (by rw [LP];intro e;cases e)
    split
    ·rename_i RQ
     obtain ⟨e,hu,hp⟩:=(h2 c).2
     unfold HA at RQ
     rw [hu] at RQ
     have ha:cN e=false:=by simpa using RQ
     rcases hp with ⟨q,_⟩|⟨_,q⟩
     ·rw [ha] at q;cases q
     ·exact ⟨⟨by rw [LP];exact q,LN⟩,uQ ho hx hu ha⟩
    ·exact ⟨⟨LP,LN⟩,oQ ho hx (h2 c).2⟩
   ·cases h
  ·rename_i dyn y off hx
   split at h
   ·rename_i cs LP
    obtain ⟨z',d,h1,h2⟩:=lP h
    exact ⟨_,z',h1,fun c=>⟨(h2 c).1,uP ho hx LP (h2 c).2⟩⟩
   ·cases h
  ·cases h
 case h_9 ty a x ho=>
  unfold DN at h
  split at h
  ·rename_i dyn id off hx
   split at h
   ·rename_i cs LP
    split at h
    ·rename_i vc PD
     obtain ⟨hk,h⟩:=bg h
     simp only [SG,S8,Td] at hk
     obtain ⟨⟨k1,k2⟩,k3⟩:=hk
     have L9:=cX (s:=s) (i:=id) (by rw [LP];intro e;cases e)
     split at h
     ·obtain ⟨hl,h⟩:=bg h
      rw [TF] at hl
      exact ⟨_,z,h,fun c=>⟨c,⟨LP,L9⟩,wH ho hx PD k1 k2 k3 hl⟩⟩
     ·split at h
      ·rename_i l i xs l' hg rest _
       refine ⟨_,_,h,fun c=>⟨c.2,⟨LP,L9⟩,?_⟩⟩
       have e1:=c.1.1
       have e2:=c.1.2.1
       have e3:=c.1.2.2
       subst e1 e2 e3
       have:=wH (P:=P) (ρ:=bR t) ho hx PD k1 k2 k3 hg.2
       unfold hO at this
       rw [hg.1] at this
       exact this
      ·cases h
    ·cases h
   ·cases h
  ·cases h
 case h_10 x ho=>
  split at h
  ·rename_i dyn id off hx
   exact ⟨_,z,h,fun c=>⟨c,by have:=k9 (P:=P) (ρ:=bR t) ho (.inl ⟨dyn,id,off,hx⟩);rw [hx] at this;exact this⟩⟩
  ·rename_i dyn y off hx
   exact ⟨_,z,h,fun c=>⟨c,by have:=k9 (P:=P) (ρ:=bR t) ho (.inr (.inl ⟨dyn,y,off,hx⟩));rw [hx] at this;exact this⟩⟩
  ·rename_i g a b hx
   exact ⟨_,z,h,fun c=>⟨c,by have:=k9 (P:=P) (ρ:=bR t) ho (.inr (.inr ⟨g,a,b,hx⟩));rw [hx] at this;exact this⟩⟩
  ·cases h
 case h_11 op ty x y ty' ho=>
  obtain ⟨z',d,h1,h2⟩:=FL h
  exact ⟨_,z',h1,fun c=>⟨(h2 c).1,Ik ho fun M w u v hu hv=>(h2 c).2 M w x y u v hu hv⟩⟩
 case h_12 op ty x ho=>
  obtain ⟨d,h1,h2⟩:=Ge (P:=P) h
  refine ⟨_,z,h1,fun c=>⟨c,bH fun M w a _ hr=> ?_⟩⟩
  obtain ⟨v,q1,q2⟩:=h2 M w _ (hr x (by simp [ho,SQ]))
  exact ⟨v,by simp only [execOp,ho,SZ,q1,SO,S9],q2⟩
 case h_13 src dst x ho=>
  obtain ⟨e,z',h1,h2,h3⟩:=Dg (ρ:=bR t) ho h
  refine ⟨e,z',h1,fun c=>⟨(h2 c).1,?_⟩⟩
  rcases h3 with ⟨d,rfl⟩|⟨q,m,rfl⟩<;>exact (h2 c).2
 case h_14 f first cap ho=>exact ⟨_,z,h,fun c=>⟨c,wK ho⟩⟩
 case h_15 ty x lo hi mx ho=>
  split at h
  ·rename_i e ow sz xs ht hx
   obtain ⟨hk,h⟩:=bg h
   rw [SG,S8] at hk
   obtain ⟨n1,h,o1⟩:=dU h
   obtain ⟨n2,h,o2⟩:=dU h
   obtain ⟨n3,h,o3⟩:=dU h
   obtain ⟨z',d,h1,h2⟩:=xP h
   refine ⟨_,z',h1,fun c=>⟨(h2 c).1,bH fun M w a _ hr=> ?_⟩⟩
   have MI:=hr x (by simp [ho,SQ])
   rw [hx] at MI
   have r1:=o1 M a (fun y hy=>hr y (by simp [ho,SQ,hy]))
   have r2:=o2 M a (fun y hy=>hr y (by simp [ho,SQ,hy]))
   have r3:=o3 M a (fun y hy=>hr y (by simp [ho,SQ,hy]))
   obtain ⟨v,q1,q2⟩:=(h2 c).2 M w ty e _ _ _ _ ht hk.1 hk.2 MI r1 r2 r3
   exact ⟨v,by simp only [execOp,ho,SZ,q1,SO,S9],q2⟩
  ·rename_i e id sz n ht hx
   obtain ⟨hk,h⟩:=bg h
   rw [SG,S8] at hk
   obtain ⟨n1,h,o1⟩:=dU h
   obtain ⟨n2,h,o2⟩:=dU h
   obtain ⟨n3,h,o3⟩:=dU h
   obtain ⟨z',l,hh,PU,h1,h2⟩:=qe h
   refine ⟨_,z',h1,fun c=>⟨(h2 c).1,bH fun M w a _ hr=> ?_⟩⟩
   have MI:=hr x (by simp [ho,SQ])
   rw [hx] at MI
   have r1:=o1 M a (fun y hy=>hr y (by simp [ho,SQ,hy]))
   have r2:=o2 M a (fun y hy=>hr y (by simp [ho,SQ,hy]))
   have r3:=o3 M a (fun y hy=>hr y (by simp [ho,SQ,hy]))
   obtain ⟨_,b1,b2,b3⟩:=h2 c
   generalize hv:a.eval x=u at MI
   cases MI with
   |cS hb MZ hc=>
    obtain ⟨m,m1,m2,m3⟩:=b3 true w _ _ _ _ hc (fun k hk=>by cases hk) r1 r2 r3
    exact ⟨_,by simp only [execOp,ho,hv,SZ,kC ht hk.1 hk.2 m3,SO,S9],qs hb (fun _=>rfl) b1 b2 m1 m2⟩
  ·rename_i e id off sz n cp ht hx
   obtain ⟨hk,h⟩:=bg h
   rw [SG,S8] at hk
   obtain ⟨n1,h,o1⟩:=dU h
   obtain ⟨n2,h,o2⟩:=dU h
   obtain ⟨n3,h,o3⟩:=dU h
   obtain ⟨z',l,hh,PU,h1,h2⟩:=qe h
   refine ⟨_,z',h1,fun c=>⟨(h2 c).1,bH fun M w a _ hr=> ?_⟩⟩
   have MI:=hr x (by simp [ho,SQ])
   rw [hx] at MI
   have r1:=o1 M a (fun y hy=>hr y (by simp [ho,SQ,hy]))
   have r2:=o2 M a (fun y hy=>hr y (by simp [ho,SQ,hy]))
   have r3:=o3 M a (fun y hy=>hr y (by simp [ho,SQ,hy]))
   obtain ⟨_,b1,b2,b3⟩:=h2 c
   generalize hv:a.eval x=u at MI
   cases MI with
   |sub hb hc hp NU=>
    obtain ⟨m,m1,m2,m3⟩:=b3 true w _ _ _ _ hc hp r1 r2 r3
    exact ⟨_,by simp only [execOp,ho,hv,SZ,kC ht hk.1 hk.2 m3,SO,S9],qs hb NU b1 b2 m1 m2⟩
  ·rename_i n e dyn id off ht hx
   obtain ⟨hk,h⟩:=bg h
   obtain ⟨n1,h,o1⟩:=dU h
   obtain ⟨n2,h,o2⟩:=dU h
   obtain ⟨n3,h,o3⟩:=dU h
   obtain ⟨z',l,hh,PU,h1,h2⟩:=qe h
   refine ⟨_,z',h1,fun c=>⟨(h2 c).1,bH fun M w a _ hr=> ?_⟩⟩
   have MI:=hr x (by simp [ho,SQ])
   rw [hx] at MI
   have r1:=o1 M a (fun y hy=>hr y (by simp [ho,SQ,hy]))
   have r2:=o2 M a (fun y hy=>hr y (by simp [ho,SQ,hy]))
   have r3:=o3 M a (fun y hy=>hr y (by simp [ho,SQ,hy]))
   obtain ⟨_,b1,b2,b3⟩:=h2 c
   generalize hv:a.eval x=u at MI
   cases MI with
   |ptr _ hb=>
    obtain ⟨m,m1,m2,m3⟩:=b3 false w _ _ _ _ (SP _) (fun k hk=>SE hk) r1 r2 r3
    exact ⟨_,by simp only [execOp,ho,hv,SZ,pg ht hk rfl m3,SO,S9],qs hb (fun _=>rfl) b1 b2 m1 m2⟩
  ·cases h
 case h_16 ty x f ho=>
  unfold rz at h
  split at h
  ·rename_i fields ht
   split at h
   ·rename_i fd RE
    obtain ⟨hk,h⟩:=bg h
    rw [SG] at hk
    have Md:0<P.cellsOf fd.type:=Nat.lt_of_succ_le (by simpa [T6,TF] using hk.2)
    obtain ⟨g1,g2⟩:=uT (P:=P) (ρ:=bR t) ho ht RE hk.1 Md
    split at h
    ·rename_i dyn id off hx;exact ⟨_,z,h,fun c=>⟨c,g1 _ _ _ hx⟩⟩
    ·rename_i dyn y off hx;exact ⟨_,z,h,fun c=>⟨c,g2 _ _ _ hx⟩⟩
    ·cases h
   ·cases h
  ·cases h
 case h_17 ty x f ho=>
  split at h
  ·rename_i fields cs ht hx
   split at h
   ·rename_i fd RE
    obtain ⟨z',d,h1,h2⟩:=lP h
    exact ⟨_,z',h1,fun c=>⟨(h2 c).1,Ek ho ht RE hx (h2 c).2⟩⟩
   ·cases h
  ·cases h
 case h_18 ty x ix ho=>
  unfold qQ at h
  split at h
  ·rename_i k i hi
   split at h
   ·rename_i len elem dyn id off ht hx
    obtain ⟨hk,h⟩:=bg h
    obtain ⟨z',h1,h2⟩:=fX h
    exact ⟨_,z',h1,fun c=>⟨(h2 c).1,(ni (P:=P) (ρ:=bR t) ho hi ht hk (by simpa using (h2 c).2) _).1 _ _ _ hx⟩⟩
   ·rename_i len elem dyn y off ht hx
    obtain ⟨hk,h⟩:=bg h
    obtain ⟨z',h1,h2⟩:=fX h
    exact ⟨_,z',h1,fun c=>⟨(h2 c).1,(ni (P:=P) (ρ:=bR t) ho hi ht hk (by simpa using (h2 c).2) _).2 _ _ _ hx⟩⟩
   ·rename_i elem ow sz xs ht hx
    obtain ⟨hk,h⟩:=bg h
    rw [SG,S8] at hk
    obtain ⟨z',h1,h2⟩:=fX h
    obtain ⟨z2,y,h3,h4⟩:=qB h1
    exact ⟨_,z2,h3,fun c=>⟨(h2 (h4 c).1).1,oi ho hi ht hk.1 hk.2 (by simpa using (h2 (h4 c).1).2) hx (h4 c).2⟩⟩
   ·rename_i elem id sz n ht hx
    obtain ⟨hk,h⟩:=bg h
    rw [SG,S8] at hk
    obtain ⟨z',h1,h2⟩:=cZ h
    exact ⟨_,z',h1,fun c=>⟨(h2 c).1,oh ho hi ht hk.1 hk.2 (by simpa using (h2 c).2) hx⟩⟩
   ·rename_i elem id off sz n cp ht hx
    obtain ⟨hk,h⟩:=bg h
    rw [SG,S8] at hk
    obtain ⟨z',h1,h2⟩:=cZ h
    exact ⟨_,z',h1,fun c=>⟨(h2 c).1,og ho hi ht hk.1 hk.2 (by simpa using (h2 c).2) hx⟩⟩
   ·cases h
  ·cases h
 case h_19 ty x ix ho=>
  unfold Fj at h
  split at h
  ·rename_i k i hi
   split at h
   ·rename_i len elem cs ht hx
    obtain ⟨hk,h⟩:=bg h
    obtain ⟨z',h1,h2⟩:=fX h
    obtain ⟨z2,d,h3,h4⟩:=lP h1
    exact ⟨_,z2,h3,fun c=>⟨(h2 (h4 c).1).1,uS ho hi ht hk (by simpa using (h2 (h4 c).1).2) hx (h4 c).2⟩⟩
   ·rename_i s' ht hx
    obtain ⟨z',h1,h2⟩:=fX h
    obtain ⟨z2,d,h3,h4⟩:=qB h1
    exact ⟨_,z2,h3,fun c=>⟨(h2 (h4 c).1).1,uR ho hi ht (by simpa using (h2 (h4 c).1).2) hx (h4 c).2⟩⟩
   ·cases h
  ·cases h
 case h_20 x i ho=>
  split at h
  ·rename_i ds hx
   split at h
   ·rename_i d hd;exact ⟨_,z,h,fun c=>⟨c,yt ho hx hd⟩⟩
   ·cases h
  ·cases h
 case h_21 c ho=>
  have OA:∀ {x:Operand},x∈c.args.toList→x∈o.op.operands:=by
   intro x hx
   simp only [ho,SQ,T7]
   exact Array.mem_append.2 (.inr (by simpa using hx))
  split at h
  ·rename_i hc
   split at h
   ·rename_i x rest ty ts LU Ql
    obtain ⟨d,h1,h2⟩:=Fe (P:=P) h
    refine ⟨_,z,h1,fun cc=>⟨cc,bH fun M w a _ hr=> ?_⟩⟩
    obtain ⟨v,q1,q2⟩:=h2 M w _ c.argTypes o.type (c.args.map a.eval) (hr x (OA (by rw [LU];simp))) (by rw [← S4,Ql];rfl) (by
     have:c.args[0]? =some x:=by rw [← S4,LU];rfl
     simp [this])
    exact ⟨v,by rw [ea ho hc];simp only [builtin,SZ,q1,SO,S9],q2⟩
   ·cases h
  ·rename_i hc
   split at h
   ·rename_i x y rest LU
    exact xG ho hc LU h
   ·cases h
  ·rename_i hc
   split at h
   ·rename_i x y LU
    obtain ⟨d,h1,h2⟩:=EW (P:=P) h
    refine ⟨_,z,h1,fun cc=>⟨cc,bH fun M w a _ hr=> ?_⟩⟩
    obtain ⟨v,q1,q2⟩:=h2 M w _ _ c.argTypes o.type (c.args.map a.eval) (hr x (OA (by rw [LU];simp))) (hr y (OA (by rw [LU];simp))) (by rw [Array.toList_map,LU];rfl)
    exact ⟨v,by rw [ea ho hc];simp only [builtin,SZ,q1,SO,S9],q2⟩
   ·cases h
  ·rename_i hc
   split at h
   ·rename_i x y LU
    obtain ⟨d,h1,h2⟩:=EZ (P:=P) h
    refine ⟨_,z,h1,fun cc=>⟨cc,bH fun M w a _ hr=> ?_⟩⟩
    obtain ⟨v,q1,q2⟩:=h2 M w _ _ c.argTypes o.type (c.args.map a.eval) (hr x (OA (by rw [LU];simp))) (hr y (OA (by rw [LU];simp))) (by rw [Array.toList_map,LU];rfl)
    exact ⟨v,by rw [ea ho hc];simp only [builtin,SZ,q1,SO,S9],q2⟩
   ·cases h
  ·rename_i hc
   split at h
   ·rename_i x y rest LU
    exact Df ho hc LU h
   ·cases h
  ·rename_i f hc
   split at h
   ·rename_i g first cap hf
    unfold AY at h
    split at h
    ·rename_i rest _
     obtain ⟨d,s',z',h1,h2⟩:=Mn (.fn g) _ s _ _ r h
     obtain ⟨e,z2,h3,h4⟩:=Fu h1
     refine ⟨_,z2,h3,fun cc=> ?_⟩
     obtain ⟨c1,d2,s2,rfl,hk⟩:=h4 cc
     exact ⟨(h2 c1).1,En ho hc hf (hk _ _ _ (h2 c1).2)⟩
    ·rename_i g' ar s1 d PS LV rest _
     have hh:=bg h
     clear h
     obtain ⟨hk,h⟩:=hh
     rw [S8] at hk
     subst hk
     exact ⟨_,_,h,fun cc=>⟨cc.2,En ho hc hf (cc.1.1▸cc.1.2▸LV)⟩⟩
    ·rename_i g' as d PC rest _
     have hh:=bg h
     clear h
     obtain ⟨hk,h⟩:=hh
     rw [S8] at hk
     subst hk
     obtain ⟨as',h1,h2⟩:=oP h
     refine ⟨_,_,h1,fun cc=>⟨cc.2,?_⟩⟩
     exact Ii ho hc hf PC (fun M vs hv=>by rw [cc.1];exact h2 M vs hv)
    ·cases h
   ·rename_i id hf
    unfold Je at h
    split at h
    ·rename_i rest _
     obtain ⟨d,s',z',h1,h2⟩:=Mn (.yl id) _ s _ _ r h
     exact ⟨_,z',h1,fun cc=>⟨(h2 cc).1,Ih ho hc hf (h2 cc).2⟩⟩
    ·cases h
   ·cases h
  ·cases h
 case h_22 ty rv ho=>
  split at h
  ·exact qJ ho (fun x hx=>by cases hx) h
  ·rename_i x
   unfold idx at h
   split at h
   ·rename_i q n hx
    exact qJ ho (fun y hy=>by obtain rfl:=SE hy;exact ⟨q,n,hx⟩) h
   ·cases h
 case h_23 ty m k v ho=>exact qI (.inl ho) h
 case h_24 ty m k v ho=>exact qI (.inr ho) h
 case h_25 ty m k ok ho=>
  unfold wW at h
  split at h
  ·rename_i id q n hm hk
   split at h
   ·rename_i q' es q2 et hs Nx
    split at h
    ·rename_i zd hz
     have hh:=bg h
     clear h
     obtain ⟨Nr,h⟩:=hh
     rw [SG] at Nr
     have e1:=e9 Nr.1
     have e2:=e9 Nr.2
     subst e1 e2
     have L9:=cX (s:=s) (i:=id) (by rw [hs];intro e;cases e)
     obtain ⟨z',rr,h1,h2⟩:=sU h
     have L8:=fun c=>yp (P:=P) (ρ:=bR t) ho Nx hz hm hk (h2 c).2
     cases rr<;>cases ok<;>exact ⟨_,z',h1,fun c=>⟨(h2 c).1,⟨hs,L9⟩,L8 c⟩⟩
    ·cases h
   ·cases h
  ·rename_i id cs hm hk
   split at h
   ·rename_i ks es kt et hs Nx
    split at h
    ·rename_i zd hz
     obtain ⟨z1,OB,h0,Pu,hK⟩:=lT h
     obtain ⟨Nr,h3⟩:=bg h0
     simp only [SG] at Nr
     have e1:=lJ Nr.1
     subst e1
     have L9:=cX (s:=s) (i:=id) (by rw [hs];intro e;cases e)
     obtain ⟨z',rr,h1,h2⟩:=qH h3
     have L8:=fun c=>wI (P:=P) (ρ:=bR t) ho Nx hK hz hm hk Nr.2 (h2 c).2
     cases rr<;>cases ok<;>exact ⟨_,z',h1,fun c=>⟨Pu (h2 c).1,⟨hs,L9⟩,L8 c⟩⟩
    ·cases h
   ·cases h
  ·cases h
 case h_26 ty m k ho=>exact yE ho h
 case h_27 ty m n v ho=>exact vw ho h
 case h_28 ty l c ho=>
  unfold HH at h
  split at h
  ·rename_i e q n q' m ht hl hc
   split at h
   ·rename_i zd hz
    split at h
    ·rename_i zc Pv
     split at h
     ·obtain ⟨hk,h⟩:=bg h
      simp only [SG,S8,TF,TQ] at hk
      obtain ⟨⟨⟨⟨k1,k2⟩,k3⟩,k4⟩,k5⟩:=hk
      obtain ⟨z',h1,h2⟩:=cZ h
      refine ⟨_,z',h1,fun c=>⟨(h2 c).1,?_⟩⟩
      have hb:=(h2 c).2
      rw [decide_eq_true_eq] at hb
      obtain ⟨b0,rfl,b1⟩:=hb
      exact Ej ho ht k1 hz Pv k2 k3 k4 hl hc b0 b1 (List.all_eq_true.mp k5)
     ·obtain ⟨hk,h⟩:=bg h
      simp only [SG,S8,TF,TQ] at hk
      obtain ⟨⟨⟨k1,k2⟩,k3⟩,k4⟩:=hk
      obtain ⟨z',h1,h2⟩:=cZ h
      refine ⟨_,z',h1,fun c=>⟨(h2 c).1,?_⟩⟩
      have hb:=(h2 c).2
      rw [decide_eq_true_eq] at hb
      obtain ⟨b0,rfl,b1⟩:=hb
      exact GG ho ht k1 hz Pv k2 k3 k4 hl hc b0 b1
    ·cases h
   ·cases h
  ·cases h
 case h_29=>cases h
end
end Go.Ev
